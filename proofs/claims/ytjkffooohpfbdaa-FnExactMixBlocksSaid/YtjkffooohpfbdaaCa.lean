/- Contracts: integers of samples, arrays of integers, noise, peaks. No condition. -/
import Derived.Test.YtjkffooohpfbdaaC9
import Derived.Laws.ResultCell
namespace Go.Proofs.Ytjkffooohpfbdaa
open Go.RowKit Go.Fl

theorem results_blk_tmp {P : Program} {fn : Func} {p u : Tmp} {ty : TypeId} (h : fn.results = #[.cell p ty, .tmp u]) (tmps : Array Value) (w : World) (g : Nat) {xs : List Nat} {t : TypeId} {n : Nat} {e : TypeId} {v : Value}
    (hp : tmps.getD p undef = .pointer (some ⟨g, 0, none⟩)) (hv : tmps.getD u undef = v) (hb : Blk w g xs t) (hu : P.underlying ty = some (.array n e)) (hi : (P.info? ty).map (·.size) = some n) (hn : xs.length = n) :
    (results fn tmps).run P w = .ok (.tuple #[.agg (fl xs), v]) w := by
  rw [results_cell_tmp h, hp, hv]
  simp only [asAddr, Sem.run_pure, Result.andThen_ok, run_loadVar_row w g t ty (fl xs) (0, 0) _ hb hu rfl (by rw [hi, fl_size, hn])]

/-! ### Noise -/
def nextS (a : Int) : Int := (1974033781 * a % 4294967296 + 907633385) % 4294967296
def noiseC (a : Int) : CF := cop .quo .f32 (cv .f32 (floatOfInt .f32 ((1974033781 * a + 907633385) % 4294967296 / 256 - 8388608))) (cv .f32 1258291200)
theorem c_l01Noise (a : Int) (w : World) : Calls Try.prog 50 #[.int .u32 a] w fun e w' => ∃ r, e = .returned (.tuple #[.float .f32 r, .int .u32 (nextS a)]) ∧ cv .f32 r = noiseC a ∧ Below w.heap.size w w' := by
  go_enter Try.func50, Try.ntmps50
  go_wp2
  go_ret2
  exact ⟨_, rfl, cv_fval .., below_drewN (Below.refl _ _) _⟩
theorem c_NextNoise (a : Int) (w : World) : Calls Try.prog 51 #[.int .u32 a] w fun e w' => ∃ r, e = .returned (.tuple #[.float .f32 r, .int .u32 (nextS a)]) ∧ cv .f32 r = noiseC a ∧ Below w.heap.size w w' := by
  go_enter Try.func51, Try.ntmps51
  go_wp2
  go_ret2
  exact ⟨_, rfl, cv_fval .., below_drewN (Below.refl _ _) _⟩
def seedAt (s : Int) : Nat → Int
  | 0 => s
  | k + 1 => nextS (seedAt s k)
def cfNoise (s : Int) (i : Nat) : CF := noiseC (seedAt s i)
theorem c_sNoiseBlock (s0 : Int) (w : World) : Calls Try.prog 23 #[.int .u32 s0] w fun e w' => ∃ rs, e = .returned (.tuple #[.agg (fl rs), .int .u32 (seedAt s0 16)]) ∧ DoneTo (cfNoise s0) 16 rs ∧ Below w.heap.size w w' := by
  go_enter Try.func23, Try.ntmps23
  go_wp2
  go_loopw [0, 5] (fun s i wr => ∃ (k : Nat) (ys : List Nat), k ≤ 16 ∧ i = .int .i64 k ∧ s = .int .u32 (seedAt s0 k) ∧ Below w.heap.size w wr ∧ Blk wr w.heap.size (List.replicate 16 0) 24 ∧ Blk wr (w.heap.size + 1) ys 24 ∧ DoneTo (cfNoise s0) k ys) (fun _ i _ => 16 - (intOf i).toNat)
  case atStart =>
    refine ⟨0, List.replicate 16 0, by omega, rfl, rfl, below_allocs2 .., (Blk.newRow _ _ _ _ _ ?_ ?_).alloc _, Blk.newRow _ _ _ _ _ ?_ ?_, DoneTo.zero _ _ rfl⟩
    · rfl
    · rfl
    · simp
    · rfl
  case round =>
    obtain ⟨k, ys, hk, rfl, rfl, hb, hR, h0, hd⟩ := hrel
    have hsz := hb.size
    by_cases hlt : k < 16
    · have hi : (0 : Int) ≤ k := by omega
      have hi2 : (k : Int) < 16 := by omega
      have HD := Lib.hid hd; clear hd
      go_wp2_with fail
      refine (c_l01Noise _ _).mono ?_; rintro e w1 ⟨r, rfl, hr, b⟩
      have HC := Lib.hid hr; clear hr
      replace h0 := h0.below b h0.lt; replace hR := hR.below b hR.lt; replace hb := seq_below hb b; clear b
      have c0 := h0.cell k (by rw [HD.out.1]; exact hlt)
      have f0 := h0.free k
      go_wp2
      go_roundw
      case rel => exact ⟨k + 1, ys.set k _, by omega, by go_num, rfl, below_setCell hb (by omega) _, hR.other (by omega) _, h0.set _ _, HD.out.set hlt HC.out⟩
      case measure => simp [intOf]; omega
    · have e : k = 16 := by omega
      subst e
      have hl := Lib.hid hd.1; have HD := Lib.hid hd; clear hd
      go_wp2_with (first | (refine wpList_load_blk rfl 24 _ rfl _ rfl h0 Try.underlying24 info_blk hl.out ?_) | (refine wpList_store_blk rfl 24 _ _ rfl _ rfl rfl hR info_blk hl.out rfl ?_))
      exact bodyPost_ret (results_blk_tmp rfl _ _ _ rfl rfl (hR.row ys) Try.underlying24 info_blk hl.out) rfl ⟨ys, rfl, HD.out, below_setRow hb (by omega) _⟩
theorem c_iNoiseBlock (s0 : Int) (w : World) : Calls Try.prog 24 #[.int .u32 s0] w fun e w' => ∃ rs, e = .returned (.tuple #[.agg (fl rs), .int .u32 (seedAt s0 16)]) ∧ DoneTo (cfNoise s0) 16 rs ∧ Below w.heap.size w w' := by
  go_enter Try.func24, Try.ntmps24
  go_wp2
  go_loopw [0, 6] (fun s i wr => ∃ (k : Nat) (ys : List Nat), k ≤ 16 ∧ i = .int .i64 k ∧ s = .int .u32 (seedAt s0 k) ∧ Below w.heap.size w wr ∧ Blk wr w.heap.size (List.replicate 16 0) 24 ∧ Blk wr (w.heap.size + 1) ys 24 ∧ DoneTo (cfNoise s0) k ys) (fun _ i _ => 16 - (intOf i).toNat)
  case atStart =>
    refine ⟨0, List.replicate 16 0, by omega, rfl, rfl, below_allocs2 .., (Blk.newRow _ _ _ _ _ ?_ ?_).alloc _, Blk.newRow _ _ _ _ _ ?_ ?_, DoneTo.zero _ _ rfl⟩
    · rfl
    · rfl
    · simp
    · rfl
  case round =>
    obtain ⟨k, ys, hk, rfl, rfl, hb, hR, h0, hd⟩ := hrel
    have hsz := hb.size
    by_cases hlt : k < 16
    · have hi : (0 : Int) ≤ k := by omega
      have hi2 : (k : Int) < 16 := by omega
      have HD := Lib.hid hd; clear hd
      go_wp2_with fail
      refine (c_NextNoise _ _).mono ?_; rintro e w1 ⟨r, rfl, hr, b⟩
      have HC := Lib.hid hr; clear hr
      replace h0 := h0.below b h0.lt; replace hR := hR.below b hR.lt; replace hb := seq_below hb b; clear b
      have c0 := h0.cell k (by rw [HD.out.1]; exact hlt)
      have f0 := h0.free k
      go_wp2
      go_roundw
      case rel => exact ⟨k + 1, ys.set k _, by omega, by go_num, rfl, below_setCell hb (by omega) _, hR.other (by omega) _, h0.set _ _, HD.out.set hlt HC.out⟩
      case measure => simp [intOf]; omega
    · have e : k = 16 := by omega
      subst e
      have hl := Lib.hid hd.1; have HD := Lib.hid hd; clear hd
      go_wp2_with (first | (refine wpList_load_blk rfl 24 _ rfl _ rfl h0 Try.underlying24 info_blk hl.out ?_) | (refine wpList_store_blk rfl 24 _ _ rfl _ rfl rfl hR info_blk hl.out rfl ?_))
      exact bodyPost_ret (results_blk_tmp rfl _ _ _ rfl rfl (hR.row ys) Try.underlying24 info_blk hl.out) rfl ⟨ys, rfl, HD.out, below_setRow hb (by omega) _⟩

/-! ### Shorts -/
theorem c_sFromShorts (zs : List Int) (w : World) (l0 : zs.length = 16) : Calls Try.prog 25 #[.agg (il zs)] w (BlkPost (cfFromShorts zs) w) := by
  have L0 := Lib.hid l0; clear l0
  go_enter Try.func25, Try.ntmps25
  go_wp2
  go_loopw [4] (fun i wr => ∃ (k : Nat) (ys : List Nat), k ≤ 16 ∧ i = .int .i64 k ∧ Below w.heap.size w wr ∧ Bli wr w.heap.size zs 36 ∧ Blk wr (w.heap.size + 1) (List.replicate 16 0) 24 ∧ Blk wr (w.heap.size + 1 + 1) ys 24 ∧ DoneTo (cfFromShorts zs) k ys) (fun i _ => 16 - (intOf i).toNat)
  case atStart =>
    refine ⟨0, List.replicate 16 0, by omega, rfl, below_allocs3 .., ((Bli.new _ _ _ _ rfl).alloc _).alloc _, (Blk.newRow _ _ _ _ _ ?_ ?_).alloc _, Blk.newRow _ _ _ _ _ ?_ ?_, DoneTo.zero _ _ rfl⟩
    · simp
    · rfl
    · simp
    · rfl
  case round =>
    obtain ⟨k, ys, hk, rfl, hb, h1, hR, h0, hd⟩ := hrel
    have hsz := hb.size
    by_cases hlt : k < 16
    · have c1 := h1.cell k (by rw [L0.out]; exact hlt)
      have hi : (0 : Int) ≤ k := by omega
      have hi2 : (k : Int) < 16 := by omega
      have c0 := h0.cell k (by rw [hd.1]; exact hlt)
      have f0 := h0.free k
      have HD := Lib.hid hd; clear hd
      go_wp2
      go_roundw
      case rel => exact ⟨k + 1, ys.set k _, by omega, by go_num, by first | exact below_setCell hb (by omega) _ | exact below_setCell (below_drewN hb _) (by omega) _ | exact below_drewN (below_setCell hb (by omega) _) _, h1.other (by omega) _, hR.other (by omega) _, h0.set _ _, HD.out.set hlt (by simp only [cv_fval]; rfl)⟩
      case measure => simp [intOf]; omega
    · have e : k = 16 := by omega
      subst e
      have hl := Lib.hid hd.1; have HD := Lib.hid hd; clear hd
      go_wp2_with (first | (refine wpList_load_blk rfl 24 _ rfl _ rfl h0 Try.underlying24 info_blk hl.out ?_) | (refine wpList_store_blk rfl 24 _ _ rfl _ rfl rfl hR info_blk hl.out rfl ?_))
      exact bodyPost_ret (results_blk rfl _ _ _ rfl (hR.row ys) Try.underlying24 info_blk hl.out) rfl ⟨ys, rfl, HD.out, below_setRow hb (by omega) _⟩
def IntsTo (c : Nat → Int) (k : Nat) (ys : List Int) : Prop := ys.length = 16 ∧ ∀ j, j < k → nthi ys j = c j
theorem IntsTo.zero (c : Nat → Int) (ys : List Int) (h : ys.length = 16) : IntsTo c 0 ys := ⟨h, fun j hj => by omega⟩
theorem IntsTo.set {c : Nat → Int} {k : Nat} {ys : List Int} (h : IntsTo c k ys) (hk : k < 16) {x : Int} (hx : x = c k) : IntsTo c (k + 1) (ys.set k x) := by
  refine ⟨by simp [h.1], fun j hj => ?_⟩
  by_cases e : j = k
  · subst e
    unfold nthi
    rw [List.getD_eq_getElem?_getD, List.getElem?_set_self (by rw [h.1]; exact hk)]
    exact hx
  · unfold nthi
    rw [List.getD_eq_getElem?_getD, List.getElem?_set_ne (by omega)]
    have := h.2 j (by omega)
    unfold nthi at this
    rw [List.getD_eq_getElem?_getD] at this
    exact this
def shs (xs : List Nat) (j : Nat) : Int := shC (nth xs j)
theorem c_iToShorts (xs : List Nat) (w : World) (l0 : xs.length = 16) : Calls Try.prog 38 #[.agg (fl xs)] w fun e w' => ∃ rs, e = .returned (.agg (il rs)) ∧ IntsTo (shs xs) 16 rs ∧ Below w.heap.size w w' := by
  have h1 : Blk (((w.alloc (.cells (fl xs) 24)).alloc (.cells #[.int .i16 0, .int .i16 0, .int .i16 0, .int .i16 0, .int .i16 0, .int .i16 0, .int .i16 0, .int .i16 0, .int .i16 0, .int .i16 0, .int .i16 0, .int .i16 0, .int .i16 0, .int .i16 0, .int .i16 0, .int .i16 0] 36)).alloc (.cells #[.int .i16 0, .int .i16 0, .int .i16 0, .int .i16 0, .int .i16 0, .int .i16 0, .int .i16 0, .int .i16 0, .int .i16 0, .int .i16 0, .int .i16 0, .int .i16 0, .int .i16 0, .int .i16 0, .int .i16 0, .int .i16 0] 36)) w.heap.size xs 24 := ((Blk.new _ _ _ _ rfl).alloc _).alloc _
  have L0 := Lib.hid l0; clear l0
  go_enter Try.func38, Try.ntmps38
  go_wp2_with (refine wpList_load_blk rfl 24 _ rfl _ rfl h1 Try.underlying24 info_blk L0.out ?_)
  clear h1
  go_loopw [7] (fun i wr => ∃ (k : Nat) (ys : List Int), k ≤ 16 ∧ i = .int .i64 k ∧ Below w.heap.size w wr ∧ Bli wr (w.heap.size + 1) (List.replicate 16 0) 36 ∧ Bli wr (w.heap.size + 1 + 1) ys 36 ∧ IntsTo (shs xs) k ys) (fun i _ => 16 - (intOf i).toNat)
  case atStart =>
    refine ⟨0, List.replicate 16 0, by omega, rfl, below_allocs3 .., (Bli.newRow _ _ _ _ _ ?_ ?_).alloc _, Bli.newRow _ _ _ _ _ ?_ ?_, IntsTo.zero _ _ rfl⟩
    · simp
    · rfl
    · simp
    · rfl
  case round =>
    obtain ⟨k, ys, hk, rfl, hb, hR, h0, hd⟩ := hrel
    have hsz := hb.size
    by_cases hlt : k < 16
    · have hix := fun W => run_index_fl (P := Try.prog) (w := W) 24 22 16 xs k Try.underlying24 Try.underlying22 info_f32 (by rw [L0.out]; exact hlt) hlt
      have hi : (0 : Int) ≤ k := by omega
      have hi2 : (k : Int) < 16 := by omega
      have HD := Lib.hid hd; clear hd
      go_wp2_with fail
      refine (c_ToShort _ _).mono ?_; rintro e w1 ⟨rfl, b⟩
      clear hix
      replace h0 := h0.below b h0.lt; replace hR := hR.below b hR.lt; replace hb := seq_below hb b; clear b
      have c0 := h0.cell k (by rw [HD.out.1]; exact hlt)
      have f0 := h0.free k
      go_wp2
      go_roundw
      case rel => exact ⟨k + 1, ys.set k _, by omega, by go_num, below_setCell hb (by omega) _, hR.other (by omega) _, h0.set _ _, HD.out.set hlt rfl⟩
      case measure => simp [intOf]; omega
    · have e : k = 16 := by omega
      subst e
      have hl := Lib.hid hd.1; have HD := Lib.hid hd; clear hd
      go_wp2_with (first | (refine wpList_load_bli rfl 36 _ rfl _ rfl h0 Try.underlying36 info_i16a hl.out ?_) | (refine wpList_store_bli rfl 36 _ _ rfl _ rfl rfl hR info_i16a hl.out rfl ?_))
      exact bodyPost_ret (results_bli rfl _ _ _ rfl (hR.row ys) Try.underlying36 info_i16a hl.out) rfl ⟨ys, rfl, HD.out, below_setRow hb (by omega) _⟩
theorem c_sToShorts (xs : List Nat) (w : World) (l0 : xs.length = 16) : Calls Try.prog 37 #[.agg (fl xs)] w fun e w' => ∃ rs, e = .returned (.agg (il rs)) ∧ IntsTo (shs xs) 16 rs ∧ Below w.heap.size w w' := by
  have L0 := Lib.hid l0; clear l0
  go_enter Try.func37, Try.ntmps37
  go_wp2
  go_loopw [4] (fun i wr => ∃ (k : Nat) (ys : List Int), k ≤ 16 ∧ i = .int .i64 k ∧ Below w.heap.size w wr ∧ Blk wr w.heap.size xs 24 ∧ Bli wr (w.heap.size + 1) (List.replicate 16 0) 36 ∧ Bli wr (w.heap.size + 1 + 1) ys 36 ∧ IntsTo (shs xs) k ys) (fun i _ => 16 - (intOf i).toNat)
  case atStart =>
    refine ⟨0, List.replicate 16 0, by omega, rfl, below_allocs3 .., ((Blk.new _ _ _ _ rfl).alloc _).alloc _, (Bli.newRow _ _ _ _ _ ?_ ?_).alloc _, Bli.newRow _ _ _ _ _ ?_ ?_, IntsTo.zero _ _ rfl⟩
    · simp
    · rfl
    · simp
    · rfl
  case round =>
    obtain ⟨k, ys, hk, rfl, hb, h1, hR, h0, hd⟩ := hrel
    have hsz := hb.size
    by_cases hlt : k < 16
    · have c1 := h1.cell k (by rw [L0.out]; exact hlt)
      have hi : (0 : Int) ≤ k := by omega
      have hi2 : (k : Int) < 16 := by omega
      have HD := Lib.hid hd; clear hd
      go_wp2_with fail
      refine (c_l01Short _ _).mono ?_; rintro e w1 ⟨rfl, b⟩
      clear c1
      replace h1 := h1.below b h1.lt; replace h0 := h0.below b h0.lt; replace hR := hR.below b hR.lt; replace hb := seq_below hb b; clear b
      have c0 := h0.cell k (by rw [HD.out.1]; exact hlt)
      have f0 := h0.free k
      go_wp2
      go_roundw
      case rel => exact ⟨k + 1, ys.set k _, by omega, by go_num, below_setCell hb (by omega) _, h1.other (by omega) _, hR.other (by omega) _, h0.set _ _, HD.out.set hlt rfl⟩
      case measure => simp [intOf]; omega
    · have e : k = 16 := by omega
      subst e
      have hl := Lib.hid hd.1; have HD := Lib.hid hd; clear hd
      go_wp2_with (first | (refine wpList_load_bli rfl 36 _ rfl _ rfl h0 Try.underlying36 info_i16a hl.out ?_) | (refine wpList_store_bli rfl 36 _ _ rfl _ rfl rfl hR info_i16a hl.out rfl ?_))
      exact bodyPost_ret (results_bli rfl _ _ _ rfl (hR.row ys) Try.underlying36 info_i16a hl.out) rfl ⟨ys, rfl, HD.out, below_setRow hb (by omega) _⟩
end Go.Proofs.Ytjkffooohpfbdaa
