/- Lists of samples told the same. No condition. -/
import Derived.Test.YtdhpaglcggeknaaGreatDoorC2
import Derived.Test.YtdhpaglcggeknaaGreatDoorSo
namespace Go.Proofs.YtdhpaglcggeknaaGreatDoor
open Go.RowKit Go.Fl
def sameN (xs ys : List Nat) (n : Nat) : Bool := (List.range n).all fun i => sameB (nth xs i) (nth ys i)
theorem sameN_no (xs ys : List Nat) (n k : Nat) (hk : k < n) (h : sameB (nth xs k) (nth ys k) = false) : sameN xs ys n = false := by
  unfold sameN; rw [List.all_eq_false]; exact ⟨k, by simpa using hk, by rw [h]; exact Bool.false_ne_true⟩
theorem sameN_yes (xs ys : List Nat) (n : Nat) (h : ∀ j, j < n → sameB (nth xs j) (nth ys j) = true) : sameN xs ys n = true := by
  unfold sameN; rw [List.all_eq_true]; intro k hk; exact h k (by simpa using hk)
def sameL (xs ys : List Nat) : Bool := decide (xs.length = ys.length) && sameN xs ys xs.length
theorem sameL_ne {xs ys : List Nat} (h : xs.length ≠ ys.length) : false = sameL xs ys := by unfold sameL; rw [decide_eq_false h]; rfl
theorem sameL_eq {xs ys : List Nat} (h : xs.length = ys.length) : sameN xs ys xs.length = sameL xs ys := by unfold sameL; rw [decide_eq_true h, Bool.true_and]
end Go.Proofs.YtdhpaglcggeknaaGreatDoor
