/- Contracts: blocks compared, blocks made by a closure. No condition. -/
import Derived.Test.YtjkffooohpfbdaaC3
namespace Go.Proofs.Ytjkffooohpfbdaa
open Go.RowKit Go.Fl

/-- The first k samples are c's. -/
def DoneTo (c : Nat → CF) (k : Nat) (ys : List Nat) : Prop := ys.length = 16 ∧ ∀ j, j < k → cv .f32 (nth ys j) = c j
/-- From k on the samples are those of xs. -/
def RestFrom (xs : List Nat) (k : Nat) (ys : List Nat) : Prop := ∀ j, k ≤ j → nth ys j = nth xs j
theorem nth_set_eq (ys : List Nat) (k x : Nat) (h : k < ys.length) : nth (ys.set k x) k = x := by simp [nth, h]
theorem nth_set_ne (ys : List Nat) (k j x : Nat) (h : k ≠ j) : nth (ys.set k x) j = nth ys j := by simp [nth, List.getD_eq_getElem?_getD, h]
theorem DoneTo.zero (c : Nat → CF) (ys : List Nat) (h : ys.length = 16) : DoneTo c 0 ys := ⟨h, fun j hj => by omega⟩
theorem DoneTo.set {c : Nat → CF} {k : Nat} {ys : List Nat} (h : DoneTo c k ys) (hk : k < 16) {x : Nat} (hx : cv .f32 x = c k) : DoneTo c (k + 1) (ys.set k x) := by
  refine ⟨by rw [List.length_set]; exact h.1, fun j hj => ?_⟩
  by_cases e : k = j
  · subst e; rw [nth_set_eq _ _ _ (by rw [h.1]; exact hk)]; exact hx
  · rw [nth_set_ne _ _ _ _ e]; exact h.2 j (by omega)
theorem RestFrom.self (xs : List Nat) : RestFrom xs 0 xs := fun _ _ => rfl
theorem RestFrom.set {xs ys : List Nat} {k : Nat} (h : RestFrom xs k ys) (x : Nat) : RestFrom xs (k + 1) (ys.set k x) := fun j hj => by
  rw [nth_set_ne _ _ _ _ (by omega)]; exact h j (by omega)
/-- A block comes back: its samples are c's. -/
def BlkPost (c : Nat → CF) (w : World) (e : Ending) (w' : World) : Prop := ∃ rs, e = .returned (.agg (fl rs)) ∧ DoneTo c 16 rs ∧ Below w.heap.size w w'
/-- A sample comes back, and nothing is turned. -/
def SamPost (c : CF) (w : World) (e : Ending) (w' : World) : Prop := ∃ r, e = .returned (.float .f32 r) ∧ cv .f32 r = c ∧ Below w.heap.size w w'

theorem run_enter {P : Program} {K : FuncId} {fn : Func} (hf : P.funcs[K]? = some fn) (hname : (fn.name == "runtime.NumGoroutine") = false) (hb : fn.body.isNone = false) (args : Array Value) (w : World) :
    (callFunc K args).run P w = .ok (.enter K args) w := by
  have h1 : fn.name ≠ "runtime.NumGoroutine" := by simpa using hname
  cases hb2 : fn.body with
  | none => rw [hb2] at hb; cases hb
  | some b => simp [callFunc, hf, h1, hb2]

set_option maxHeartbeats 4000000 in
theorem c_eqBlock (xs ys : List Nat) (w : World) (hx : xs.length = 16) (hy : ys.length = 16) (h : ∀ j, j < 16 → cv .f32 (nth xs j) = cv .f32 (nth ys j)) :
    Calls Try.prog 18 #[.agg (fl xs), .agg (fl ys)] w fun e w' => e = .returned (.bool true) ∧ Below w.heap.size w w' := by
  have h1 : Blk ((w.alloc (.cells (fl xs) 24)).alloc (.cells (fl ys) 24)) w.heap.size xs 24 := (Blk.new _ _ _ _ rfl).alloc _
  have h2 : Blk ((w.alloc (.cells (fl xs) 24)).alloc (.cells (fl ys) 24)) (w.heap.size + 1) ys 24 := Blk.new _ _ _ _ (by simp)
  have hb : Below w.heap.size w ((w.alloc (.cells (fl xs) 24)).alloc (.cells (fl ys) 24)) := Go.Joins.below_alloc2 _ _ _
  have HX := Lib.hid hx; have HY := Lib.hid hy; have H := Lib.hid h; clear hx hy h
  go_enter Try.func18, Try.ntmps18
  go_wp2
  generalize hW : (w.alloc (.cells (fl xs) 24)).alloc (.cells (fl ys) 24) = W at *
  clear hW
  go_loopw [5] (fun i wr => ∃ k : Nat, k ≤ 16 ∧ i = .int .i64 k ∧ Below w.heap.size w wr ∧ Blk wr w.heap.size xs 24 ∧ Blk wr (w.heap.size + 1) ys 24) (fun i _ => 16 - (intOf i).toNat)
  case atStart => exact ⟨0, by omega, rfl, hb, h1, h2⟩
  case round =>
    clear hb h1 h2
    obtain ⟨k, hk, rfl, hb, h1, h2⟩ := hrel
    by_cases hlt : k < 16
    · have c1 := h1.cell k (by rw [HX.out]; exact hlt)
      have c2 := h2.cell k (by rw [HY.out]; exact hlt)
      have hi : (0 : Int) ≤ k := by omega
      have hi2 : (k : Int) < 16 := by omega
      have HK := Lib.hid (H.out k hlt)
      go_wp2
      go_region_with (go_at_call 32; refine (c_same32 _ _ _ _ _ HK.out).mono ?_; rintro e w' ⟨rfl, n, rfl⟩)
      all_goals go_wp2
      all_goals go_roundw
      all_goals first
        | exact ⟨k + 1, by omega, by go_num, below_drewN hb _, h1.drewN _, h2.drewN _⟩
        | (simp [intOf]; omega)
    · have e : k = 16 := by omega
      subst e
      go_wp2
      go_ret
      exact ⟨rfl, hb⟩

/-- 'made' of a closure that gives c's samples: c's block. -/
theorem c_made (K : FuncId) (cap : Array Value) (c : Nat → CF) (w : World) (hrun : ∀ (args : Array Value) (w : World), (callFunc K args).run Try.prog w = .ok (.enter K args) w)
    (hK : ∀ (i : Nat) (wr : World), i < 16 → Below w.heap.size w wr → Calls Try.prog K (#[.int .i64 (i : Int)] ++ cap) wr (SamPost (c i) wr)) :
    Calls Try.prog 45 #[.func (.func K) #[] cap] w (BlkPost c w) := by
  have HK := Lib.hid hK; clear hK
  go_enter Try.func45, Try.ntmps45
  go_wp2
  go_loopw [5] (fun i wr => ∃ (k : Nat) (ys : List Nat), k ≤ 16 ∧ i = .int .i64 k ∧ Below w.heap.size w wr ∧ Blk wr w.heap.size (List.replicate 16 0) 24 ∧ Blk wr (w.heap.size + 1) ys 24 ∧ DoneTo c k ys) (fun i _ => 16 - (intOf i).toNat)
  case atStart =>
    refine ⟨0, List.replicate 16 0, by omega, rfl, Go.Joins.below_alloc2 _ _ _, ?_, ?_, DoneTo.zero _ _ rfl⟩
    · refine (Blk.newRow _ _ _ _ _ ?_ ?_).alloc _
      · rfl
      · rfl
    · refine Blk.newRow _ _ _ _ _ ?_ ?_
      · simp
      · rfl
  case round =>
    obtain ⟨k, ys, hk, rfl, hb, h1, h2, hd⟩ := hrel
    by_cases hlt : k < 16
    · have hi : (0 : Int) ≤ k := by omega
      have hi2 : (k : Int) < 16 := by omega
      have hlen := hd.1
      have c2 := h2.cell k (by rw [hd.1]; exact hlt)
      have f2 := h2.free k
      have HD := Lib.hid hd; clear hd hlen
      go_wp2_with fail
      refine (HK.out k _ hlt hb).mono ?_
      rintro e w1 ⟨r, rfl, hr, b⟩
      have HR := Lib.hid hr; clear hr
      have h1' := h1.below b h1.lt
      have h2' := h2.below b h2.lt
      have hb' := seq_below hb b
      have c2' := h2'.cell k (by rw [HD.out.1]; exact hlt)
      have f2' := h2'.free k
      clear b h1 h2 hb c2 f2
      go_wp2
      go_roundw
      case rel => exact ⟨k + 1, ys.set k r, by omega, by go_num, below_setCell hb' (by omega) _, h1'.other (by omega) _, h2'.set _ _, HD.out.set hlt HR.out⟩
      case measure => simp [intOf]; omega
    · have e : k = 16 := by omega
      subst e
      have hlen := hd.1
      have HL := Lib.hid hlen; have HD := Lib.hid hd; clear hlen hd
      go_wp2_with (first | (refine wpList_load_blk rfl 24 _ rfl _ rfl h2 Try.underlying24 info_blk HL.out ?_) | (refine wpList_store_blk rfl 24 _ _ rfl _ rfl rfl h1 info_blk HL.out rfl ?_))
      exact bodyPost_ret (results_blk rfl _ _ _ rfl (h1.row ys) Try.underlying24 info_blk HL.out) rfl ⟨ys, rfl, HD.out, below_setRow hb (by omega) _⟩
end Go.Proofs.Ytjkffooohpfbdaa
