/- Rings told the same. No condition. -/
import Derived.Test.YtdhpaglcggeknaaGreatDoorSu
import Derived.Test.YtdhpaglcggeknaaGreatDoorSp
namespace Go.Proofs.YtdhpaglcggeknaaGreatDoor
open Go.RowKit Go.Fl
def srB (xs ys : List Nat) (a b : Int) : Bool := decide (a = b) && sameL xs ys
theorem srB_ne {xs ys : List Nat} {a b : Int} (h : a ≠ b) : false = srB xs ys a b := by unfold srB; rw [decide_eq_false h]; rfl
theorem srB_eq (xs ys : List Nat) (a : Int) : sameL xs ys = srB xs ys a a := by unfold srB; rw [decide_eq_true rfl, Bool.true_and]
end Go.Proofs.YtdhpaglcggeknaaGreatDoor
