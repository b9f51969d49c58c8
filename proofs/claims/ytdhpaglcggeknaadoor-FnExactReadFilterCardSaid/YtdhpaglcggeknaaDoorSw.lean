/- The laws' marks: numbers written into a slice and found again. No condition. -/
import Derived.Test.YtdhpaglcggeknaaDoorSp
namespace Go.Proofs.YtdhpaglcggeknaaDoor
open Go.RowKit Go.Fl
/-- The cells that 'mark' writes from k on. -/
def markL (n : Nat) (m : Int) : List Nat := (List.range n).map fun (i : Nat) => floatOfInt .f32 (m + (i : Int))
theorem markL_length (n : Nat) (m : Int) : (markL n m).length = n := by simp [markL]
theorem markL_nth (n : Nat) (m : Int) (k : Nat) (h : k < n) : nth (markL n m) k = floatOfInt .f32 (m + (k : Int)) := by
  simp [nth, markL, List.getD_eq_getElem?_getD, h]
theorem int_self (n : Int) : ordC .f32 (cv .f32 (floatOfInt .f32 n)) (cv .f32 (floatOfInt .f32 n)) = some .eq := by
  have h : nanB .f32 (floatOfInt .f32 n) = false := by
    first
      | exact nearest_notNaN _ _ _ _
      | (unfold floatOfInt; exact nearest_notNaN _ _ _ _)
      | (unfold floatOfInt; exact write_notNaN _ rfl)
  rw [cv_of h]
  exact ordC_self .f32 _ h
end Go.Proofs.YtdhpaglcggeknaaDoor
