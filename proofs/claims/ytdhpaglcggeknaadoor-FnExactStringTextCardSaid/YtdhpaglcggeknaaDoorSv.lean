/- Rings told the same. No condition. -/
import Derived.Test.YtdhpaglcggeknaaDoorSu
import Derived.Test.YtdhpaglcggeknaaDoorSp
namespace Go.Proofs.YtdhpaglcggeknaaDoor
open Go.RowKit Go.Fl
set_option maxRecDepth 20000 in
theorem c_szRingL (A : Option Addr) (n c : Nat) (at0 l : Int) (w : World) (hl : l ≤ 1048576) (hn : (n : Int) ≤ l) : Calls Tryd.prog 34 #[.agg #[.slice A n c, .int .i64 at0], .int .i64 l] w fun e w' => e = .returned (.int .i64 (l - n)) ∧ Below w.heap.size w w' := by
  have h0 : (0 : Int) ≤ n := by omega
  have h1 : ¬ (l - (n : Int) < 0) := by omega
  go_enter Tryd.func34, Tryd.ntmps34
  go_wp2
  go_ret
  exact ⟨rfl, Go.Joins.below_alloc1 _ _⟩
set_option maxRecDepth 20000 in
theorem c_szRingL_big (A : Option Addr) (n c : Nat) (at0 l : Int) (w : World) (h0 : 0 ≤ l) (hl : l ≤ 1048576) (hn : l < (n : Int)) (hm : (n : Int) ≤ 9223372036854775807) : Calls Tryd.prog 34 #[.agg #[.slice A n c, .int .i64 at0], .int .i64 l] w fun e w' => e = .returned (.int .i64 (-1)) ∧ Below w.heap.size w w' := by
  have h1 : l - (n : Int) < 0 := by omega
  go_enter Tryd.func34, Tryd.ntmps34
  go_wp2
  go_ret
  exact ⟨rfl, Go.Joins.below_alloc1 _ _⟩
def srB (xs ys : List Nat) (a b : Int) : Bool := decide (a = b) && sameL xs ys
theorem srB_ne {xs ys : List Nat} {a b : Int} (h : a ≠ b) : false = srB xs ys a b := by unfold srB; rw [decide_eq_false h]; rfl
theorem srB_eq (xs ys : List Nat) (a : Int) : sameL xs ys = srB xs ys a a := by unfold srB; rw [decide_eq_true rfl, Bool.true_and]
end Go.Proofs.YtdhpaglcggeknaaDoor
