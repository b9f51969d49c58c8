/- Contracts: blocks compared, blocks made by a closure. No condition. -/
import Derived.Test.YtklnoiopogodiaaC3
namespace Go.Proofs.Ytklnoiopogodiaa
open Go.RowKit Go.Fl

/-- The first k samples are c's. -/
def DoneTo (c : Nat → CF) (k : Nat) (ys : List Nat) : Prop := ys.length = 16 ∧ ∀ j, j < k → cv .f32 (nth ys j) = c j
/-- From k on the samples are those of xs. -/
def RestFrom (xs : List Nat) (k : Nat) (ys : List Nat) : Prop := ∀ j, k ≤ j → nth ys j = nth xs j
theorem nth_set_eq (ys : List Nat) (k x : Nat) (h : k < ys.length) : nth (ys.set k x) k = x := by simp [nth, h]
theorem nth_set_ne (ys : List Nat) (k j x : Nat) (h : k ≠ j) : nth (ys.set k x) j = nth ys j := by simp [nth, List.getD_eq_getElem?_getD, h]
theorem DoneTo.zero (c : Nat → CF) (ys : List Nat) (h : ys.length = 16) : DoneTo c 0 ys := ⟨h, fun j hj => by omega⟩
theorem DoneTo.set {c : Nat → CF} {k : Nat} {ys : List Nat} (h : DoneTo c k ys) (hk : k < 16) {x : Nat} (hx : cv .f32 x = c k) : DoneTo c (k + 1) (ys.set k x) := by
  refine ⟨by rw [List.length_set]; exact h.1, fun j hj => ?_⟩
  by_cases e : k = j
  · subst e; rw [nth_set_eq _ _ _ (by rw [h.1]; exact hk)]; exact hx
  · rw [nth_set_ne _ _ _ _ e]; exact h.2 j (by omega)
theorem RestFrom.self (xs : List Nat) : RestFrom xs 0 xs := fun _ _ => rfl
theorem RestFrom.set {xs ys : List Nat} {k : Nat} (h : RestFrom xs k ys) (x : Nat) : RestFrom xs (k + 1) (ys.set k x) := fun j hj => by
  rw [nth_set_ne _ _ _ _ (by omega)]; exact h j (by omega)
/-- A block comes back: its samples are c's. -/
def BlkPost (c : Nat → CF) (w : World) (e : Ending) (w' : World) : Prop := ∃ rs, e = .returned (.agg (fl rs)) ∧ DoneTo c 16 rs ∧ Below w.heap.size w w'
/-- A sample comes back, and nothing is turned. -/
def SamPost (c : CF) (w : World) (e : Ending) (w' : World) : Prop := ∃ r, e = .returned (.float .f32 r) ∧ cv .f32 r = c ∧ Below w.heap.size w w'

theorem run_enter {P : Program} {K : FuncId} {fn : Func} (hf : P.funcs[K]? = some fn) (hname : (fn.name == "runtime.NumGoroutine") = false) (hb : fn.body.isNone = false) (args : Array Value) (w : World) :
    (callFunc K args).run P w = .ok (.enter K args) w := by
  have h1 : fn.name ≠ "runtime.NumGoroutine" := by simpa using hname
  cases hb2 : fn.body with
  | none => rw [hb2] at hb; cases hb
  | some b => simp [callFunc, hf, h1, hb2]


end Go.Proofs.Ytklnoiopogodiaa
