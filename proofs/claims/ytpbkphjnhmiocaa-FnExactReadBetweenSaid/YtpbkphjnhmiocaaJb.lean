/- A ring's sample between two. No condition. -/
import Derived.Test.YtpbkphjnhmiocaaJa
import Derived.Test.YtpbkphjnhmiocaaSs
import Derived.Test.YtpbkphjnhmiocaaEx
namespace Go.Proofs.Ytpbkphjnhmiocaa
open Go.RowKit Go.Fl
theorem c_mFloorJ (x : Nat) (w : World) : Calls Try.prog 29 #[.float .f64 x] w fun e w' => e = .returned (.float .f64 (ival .down x w)) ∧ ∃ n, w' = w.drewN n := by
  go_enter Try.func29, Try.ntmps29
  go_wp2
  go_ret
  exact ⟨rfl, _, rfl⟩
def btC (xs : List Nat) (at0 : Int) (k y : Nat) : CF := if (ordC .f32 (cv .f32 y) (cv .f32 0) == some .eq) = true then cv .f32 (nth xs (backJ xs.length at0 k)) else cop .add .f32 (cv .f32 (nth xs (backJ xs.length at0 k))) (cop .mul .f32 (cv .f32 y) (cop .sub .f32 (cv .f32 (nth xs (backJ xs.length at0 ((k : Int) + 1)))) (cv .f32 (nth xs (backJ xs.length at0 k)))))
theorem btC_yes {xs : List Nat} {at0 : Int} {k y : Nat} (h : (ordC .f32 (cv .f32 y) (cv .f32 0) == some .eq) = true) : cv .f32 (nth xs (backJ xs.length at0 k)) = btC xs at0 k y := by unfold btC; rw [if_pos h]
theorem btC_no {xs : List Nat} {at0 : Int} {k y : Nat} (h : (ordC .f32 (cv .f32 y) (cv .f32 0) == some .eq) = false) : cop .add .f32 (cv .f32 (nth xs (backJ xs.length at0 k))) (cop .mul .f32 (cv .f32 y) (cop .sub .f32 (cv .f32 (nth xs (backJ xs.length at0 ((k : Int) + 1)))) (cv .f32 (nth xs (backJ xs.length at0 k))))) = btC xs at0 k y := by unfold btC; rw [if_neg (by rw [h]; simp)]
def btOk (n : Nat) (at0 : Int) (d : Nat) : Bool := ringOk n at0 && inR d 1065353216 (floatOfInt .f32 (n : Int))
def btQ (n : Nat) (at0 : Int) (d : Nat) : Int := if ringOk n at0 = true then (if inR d 1065353216 (floatOfInt .f32 (n : Int)) = true then 0 else 2) else 1
def btK (d : Nat) : Nat := ((floatToIntVal .f32 d .i64).getD 0).toNat
def btV (xs : List Nat) (at0 : Int) (d : Nat) : CF := if btOk xs.length at0 d = true then (match cop .sub .f32 (cv .f32 d) (cv .f32 (floatOfInt .f32 (btK d : Int))) with | some y => btC xs at0 (btK d) y | none => none) else cv .f32 0
def BtPost (xs : List Nat) (at0 : Int) (d : Nat) (w : World) (e : Ending) (w' : World) : Prop := ∃ r, e = .returned (.tuple #[.float .f32 r, .int .i64 (btQ xs.length at0 d)]) ∧ cv .f32 r = btV xs at0 d ∧ Below w.heap.size w w'
theorem bt_ring {xs : List Nat} {at0 : Int} {d : Nat} (h : ringOk xs.length at0 = false) : 1 = btQ xs.length at0 d ∧ cv .f32 0 = btV xs at0 d := by
  unfold btQ btV btOk; rw [h]; exact ⟨rfl, rfl⟩
theorem bt_far {xs : List Nat} {at0 : Int} {d : Nat} (h : ringOk xs.length at0 = true) (h2 : inR d 1065353216 (floatOfInt .f32 (xs.length : Int)) = false) : 2 = btQ xs.length at0 d ∧ cv .f32 0 = btV xs at0 d := by
  unfold btQ btV btOk; rw [h, h2]; exact ⟨rfl, rfl⟩
theorem bt_ok {xs : List Nat} {at0 : Int} {d k y : Nat} (h : ringOk xs.length at0 = true) (h2 : inR d 1065353216 (floatOfInt .f32 (xs.length : Int)) = true) (hi : floatToIntVal .f32 d .i64 = some (k : Int)) (hy : cop .sub .f32 (cv .f32 d) (cv .f32 (floatOfInt .f32 (k : Int))) = some y) : 0 = btQ xs.length at0 d ∧ btC xs at0 k y = btV xs at0 d := by
  have ek : btK d = k := by unfold btK; rw [hi]; rfl
  unfold btQ btV btOk; rw [h, h2, ek, hy]; exact ⟨rfl, rfl⟩
theorem ret_bt {r : Nat} {q q' : Int} (h : q = q') : Ending.returned (.tuple #[.float .f32 r, .int .i64 q]) = .returned (.tuple #[.float .f32 r, .int .i64 q']) := by rw [h]
end Go.Proofs.Ytpbkphjnhmiocaa
