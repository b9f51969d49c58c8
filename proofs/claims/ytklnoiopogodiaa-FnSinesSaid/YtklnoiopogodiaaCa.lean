/- Contracts: integers of samples, arrays of integers, noise, peaks. No condition. -/
import Derived.Test.YtklnoiopogodiaaC9
import Derived.Laws.ResultCell
namespace Go.Proofs.Ytklnoiopogodiaa
open Go.RowKit Go.Fl

theorem results_blk_tmp {P : Program} {fn : Func} {p u : Tmp} {ty : TypeId} (h : fn.results = #[.cell p ty, .tmp u]) (tmps : Array Value) (w : World) (g : Nat) {xs : List Nat} {t : TypeId} {n : Nat} {e : TypeId} {v : Value}
    (hp : tmps.getD p undef = .pointer (some ⟨g, 0, none⟩)) (hv : tmps.getD u undef = v) (hb : Blk w g xs t) (hu : P.underlying ty = some (.array n e)) (hi : (P.info? ty).map (·.size) = some n) (hn : xs.length = n) :
    (results fn tmps).run P w = .ok (.tuple #[.agg (fl xs), v]) w := by
  rw [results_cell_tmp h, hp, hv]
  simp only [asAddr, Sem.run_pure, Result.andThen_ok, run_loadVar_row w g t ty (fl xs) (0, 0) _ hb hu rfl (by rw [hi, fl_size, hn])]

/-! ### Noise -/
def nextS (a : Int) : Int := (1974033781 * a % 4294967296 + 907633385) % 4294967296
def noiseC (a : Int) : CF := cop .quo .f32 (cv .f32 (floatOfInt .f32 ((1974033781 * a + 907633385) % 4294967296 / 256 - 8388608))) (cv .f32 1258291200)
theorem c_NextNoise (a : Int) (w : World) : Calls Try.prog 24 #[.int .u32 a] w fun e w' => ∃ r, e = .returned (.tuple #[.float .f32 r, .int .u32 (nextS a)]) ∧ cv .f32 r = noiseC a ∧ Below w.heap.size w w' := by
  go_enter Try.func24, Try.ntmps24
  go_wp2
  go_ret2
  exact ⟨_, rfl, cv_fval .., below_drewN (Below.refl _ _) _⟩
def seedAt (s : Int) : Nat → Int
  | 0 => s
  | k + 1 => nextS (seedAt s k)
def cfNoise (s : Int) (i : Nat) : CF := noiseC (seedAt s i)
theorem c_iNoiseBlock (s0 : Int) (w : World) : Calls Try.prog 23 #[.int .u32 s0] w fun e w' => ∃ rs, e = .returned (.tuple #[.agg (fl rs), .int .u32 (seedAt s0 16)]) ∧ DoneTo (cfNoise s0) 16 rs ∧ Below w.heap.size w w' := by
  go_enter Try.func23, Try.ntmps23
  go_wp2
  go_loopw [0, 6] (fun s i wr => ∃ (k : Nat) (ys : List Nat), k ≤ 16 ∧ i = .int .i64 k ∧ s = .int .u32 (seedAt s0 k) ∧ Below w.heap.size w wr ∧ Blk wr w.heap.size (List.replicate 16 0) 48 ∧ Blk wr (w.heap.size + 1) ys 48 ∧ DoneTo (cfNoise s0) k ys) (fun _ i _ => 16 - (intOf i).toNat)
  case atStart =>
    refine ⟨0, List.replicate 16 0, by omega, rfl, rfl, below_allocs2 .., (Blk.newRow _ _ _ _ _ ?_ ?_).alloc _, Blk.newRow _ _ _ _ _ ?_ ?_, DoneTo.zero _ _ rfl⟩
    · rfl
    · rfl
    · simp
    · rfl
  case round =>
    obtain ⟨k, ys, hk, rfl, rfl, hb, hR, h0, hd⟩ := hrel
    have hsz := hb.size
    by_cases hlt : k < 16
    · have hi : (0 : Int) ≤ k := by omega
      have hi2 : (k : Int) < 16 := by omega
      have HD := Lib.hid hd; clear hd
      go_wp2_with fail
      refine (c_NextNoise _ _).mono ?_; rintro e w1 ⟨r, rfl, hr, b⟩
      have HC := Lib.hid hr; clear hr
      replace h0 := h0.below b h0.lt; replace hR := hR.below b hR.lt; replace hb := seq_below hb b; clear b
      have c0 := h0.cell k (by rw [HD.out.1]; exact hlt)
      have f0 := h0.free k
      go_wp2
      go_roundw
      case rel => exact ⟨k + 1, ys.set k _, by omega, by go_num, rfl, below_setCell hb (by omega) _, hR.other (by omega) _, h0.set _ _, HD.out.set hlt HC.out⟩
      case measure => simp [intOf]; omega
    · have e : k = 16 := by omega
      subst e
      have hl := Lib.hid hd.1; have HD := Lib.hid hd; clear hd
      go_wp2_with (first | (refine wpList_load_blk rfl 48 _ rfl _ rfl h0 Try.underlying48 info_blk hl.out ?_) | (refine wpList_store_blk rfl 48 _ _ rfl _ rfl rfl hR info_blk hl.out rfl ?_))
      exact bodyPost_ret (results_blk_tmp rfl _ _ _ rfl rfl (hR.row ys) Try.underlying48 info_blk hl.out) rfl ⟨ys, rfl, HD.out, below_setRow hb (by omega) _⟩

/-! ### Shorts -/
end Go.Proofs.Ytklnoiopogodiaa
