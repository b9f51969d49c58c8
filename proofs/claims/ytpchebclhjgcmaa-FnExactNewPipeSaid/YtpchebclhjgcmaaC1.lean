/- Contracts of the law's own helpers: sameFloat, toBlock. No condition. -/
import Derived.Test.YtpchebclhjgcmaaRows
import Derived.Test.YtpchebclhjgcmaaSq
import Derived.Lib.Hide
namespace Go.Proofs.Ytpchebclhjgcmaa
open Go.RowKit Go.Fl

/-- Two floats of one value are told the same. -/
theorem c_sameFloat (a b : Nat) (w : World) (h : cv .f64 a = cv .f64 b) :
    Calls Try.prog 23 #[.float .f64 a, .float .f64 b] w fun e w' => e = .returned (.bool true) ∧ ∃ n, w' = w.drewN n := by
  by_cases hs : ordC .f64 (cv .f64 b) (cv .f64 b) = some .eq
  · go_enter Try.func23, Try.ntmps23
    go_wp2
    all_goals (go_ret; first | exact ⟨rfl, 0, rfl⟩ | exact ⟨rfl, _, rfl⟩)
  · have hb := ordC_self_cv _ _ hs
    have ha : cv .f64 a = none := h.trans hb
    go_enter Try.func23, Try.ntmps23
    go_wp2
    all_goals (go_ret; first | exact ⟨rfl, 0, rfl⟩ | exact ⟨rfl, _, rfl⟩)

/-- The same of two float32, each made a float64. -/
theorem c_same32 (a b : Nat) (w1 w2 w : World) (h : cv .f32 a = cv .f32 b) :
    Calls Try.prog 23 #[.float .f64 (conv .f32 .f64 a w1), .float .f64 (conv .f32 .f64 b w2)] w fun e w' => e = .returned (.bool true) ∧ ∃ n, w' = w.drewN n :=
  c_sameFloat _ _ _ (by rw [cv_wid, cv_wid, h])

end Go.Proofs.Ytpchebclhjgcmaa
