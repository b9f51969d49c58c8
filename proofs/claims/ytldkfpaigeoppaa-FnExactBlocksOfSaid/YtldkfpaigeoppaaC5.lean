/- Contracts: blocks compared, blocks made by a closure. No condition. -/
import Derived.Test.YtldkfpaigeoppaaC3
namespace Go.Proofs.Ytldkfpaigeoppaa
open Go.RowKit Go.Fl

/-- The first k samples are c's. -/
def DoneTo (c : Nat → CF) (k : Nat) (ys : List Nat) : Prop := ys.length = 16 ∧ ∀ j, j < k → cv .f32 (nth ys j) = c j
/-- From k on the samples are those of xs. -/
def RestFrom (xs : List Nat) (k : Nat) (ys : List Nat) : Prop := ∀ j, k ≤ j → nth ys j = nth xs j
theorem nth_set_eq (ys : List Nat) (k x : Nat) (h : k < ys.length) : nth (ys.set k x) k = x := by simp [nth, h]
theorem nth_set_ne (ys : List Nat) (k j x : Nat) (h : k ≠ j) : nth (ys.set k x) j = nth ys j := by simp [nth, List.getD_eq_getElem?_getD, h]
theorem DoneTo.zero (c : Nat → CF) (ys : List Nat) (h : ys.length = 16) : DoneTo c 0 ys := ⟨h, fun j hj => by omega⟩
theorem DoneTo.set {c : Nat → CF} {k : Nat} {ys : List Nat} (h : DoneTo c k ys) (hk : k < 16) {x : Nat} (hx : cv .f32 x = c k) : DoneTo c (k + 1) (ys.set k x) := by
  refine ⟨by rw [List.length_set]; exact h.1, fun j hj => ?_⟩
  by_cases e : k = j
  · subst e; rw [nth_set_eq _ _ _ (by rw [h.1]; exact hk)]; exact hx
  · rw [nth_set_ne _ _ _ _ e]; exact h.2 j (by omega)
theorem RestFrom.self (xs : List Nat) : RestFrom xs 0 xs := fun _ _ => rfl
theorem RestFrom.set {xs ys : List Nat} {k : Nat} (h : RestFrom xs k ys) (x : Nat) : RestFrom xs (k + 1) (ys.set k x) := fun j hj => by
  rw [nth_set_ne _ _ _ _ (by omega)]; exact h j (by omega)
/-- A block comes back: its samples are c's. -/
def BlkPost (c : Nat → CF) (w : World) (e : Ending) (w' : World) : Prop := ∃ rs, e = .returned (.agg (fl rs)) ∧ DoneTo c 16 rs ∧ Below w.heap.size w w'
/-- A sample comes back, and nothing is turned. -/
def SamPost (c : CF) (w : World) (e : Ending) (w' : World) : Prop := ∃ r, e = .returned (.float .f32 r) ∧ cv .f32 r = c ∧ Below w.heap.size w w'

theorem run_enter {P : Program} {K : FuncId} {fn : Func} (hf : P.funcs[K]? = some fn) (hname : (fn.name == "runtime.NumGoroutine") = false) (hb : fn.body.isNone = false) (args : Array Value) (w : World) :
    (callFunc K args).run P w = .ok (.enter K args) w := by
  have h1 : fn.name ≠ "runtime.NumGoroutine" := by simpa using hname
  cases hb2 : fn.body with
  | none => rw [hb2] at hb; cases hb
  | some b => simp [callFunc, hf, h1, hb2]

set_option maxHeartbeats 4000000 in
theorem c_eqBlock (xs ys : List Nat) (w : World) (hx : xs.length = 16) (hy : ys.length = 16) (h : ∀ j, j < 16 → cv .f32 (nth xs j) = cv .f32 (nth ys j)) :
    Calls Try.prog 24 #[.agg (fl xs), .agg (fl ys)] w fun e w' => e = .returned (.bool true) ∧ Below w.heap.size w w' := by
  have h1 : Blk ((w.alloc (.cells (fl xs) 41)).alloc (.cells (fl ys) 41)) w.heap.size xs 41 := (Blk.new _ _ _ _ rfl).alloc _
  have h2 : Blk ((w.alloc (.cells (fl xs) 41)).alloc (.cells (fl ys) 41)) (w.heap.size + 1) ys 41 := Blk.new _ _ _ _ (by simp)
  have hb : Below w.heap.size w ((w.alloc (.cells (fl xs) 41)).alloc (.cells (fl ys) 41)) := Go.Joins.below_alloc2 _ _ _
  have HX := Lib.hid hx; have HY := Lib.hid hy; have H := Lib.hid h; clear hx hy h
  go_enter Try.func24, Try.ntmps24
  go_wp2
  generalize hW : (w.alloc (.cells (fl xs) 41)).alloc (.cells (fl ys) 41) = W at *
  clear hW
  go_loopw [5] (fun i wr => ∃ k : Nat, k ≤ 16 ∧ i = .int .i64 k ∧ Below w.heap.size w wr ∧ Blk wr w.heap.size xs 41 ∧ Blk wr (w.heap.size + 1) ys 41) (fun i _ => 16 - (intOf i).toNat)
  case atStart => exact ⟨0, by omega, rfl, hb, h1, h2⟩
  case round =>
    clear hb h1 h2
    obtain ⟨k, hk, rfl, hb, h1, h2⟩ := hrel
    by_cases hlt : k < 16
    · have c1 := h1.cell k (by rw [HX.out]; exact hlt)
      have c2 := h2.cell k (by rw [HY.out]; exact hlt)
      have hi : (0 : Int) ≤ k := by omega
      have hi2 : (k : Int) < 16 := by omega
      have HK := Lib.hid (H.out k hlt)
      go_wp2
      go_region_with (go_at_call 31; refine (c_same32 _ _ _ _ _ HK.out).mono ?_; rintro e w' ⟨rfl, n, rfl⟩)
      all_goals go_wp2
      all_goals go_roundw
      all_goals first
        | exact ⟨k + 1, by omega, by go_num, below_drewN hb _, h1.drewN _, h2.drewN _⟩
        | (simp [intOf]; omega)
    · have e : k = 16 := by omega
      subst e
      go_wp2
      go_ret
      exact ⟨rfl, hb⟩

end Go.Proofs.Ytldkfpaigeoppaa
