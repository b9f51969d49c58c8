/- The statement Rows.FnExactNextNoiseSaid: the law FnExactNextNoise returns true for every input, and its arguments read as before. No condition. -/
import Derived.Test.YtbjaihboagompaaRows
import Derived.Test.YtbjaihboagompaaC1
namespace Go.Proofs.Ytbjaihboagompaa.fnExactNextNoise
open Go.ChangeShapes Go.WideShapes Go.ChangeAt Go.RowKit Go.Fl

theorem walk (w : World) (a : Int) (_ : (Lit.int .u32 a).wf = true) :
    Calls Try.prog 8 #[.int .u32 a] w fun e w' => e = .returned (.bool true) ∧ Below w.heap.size w w' := by
  go_enter Try.func8, Try.ntmps8
  go_wp2_with (first | (go_at_call 17; refine (c_same32 _ _ _ _ _ (by first | with_reducible rfl | simp only [cv_fval])).mono ?_; rintro e w' ⟨rfl, n, rfl⟩) | go_in)
  all_goals (go_ret; exact ⟨rfl, by first | exact Below.refl _ _ | exact below_drewN (Below.refl _ _) _⟩)

theorem own : ownKnob Try.prog.godebug = none := by kernel_rfl
theorem laidOut : laidOutB Try.prog = true := by kernel_rfl
set_option maxRecDepth 100000 in
theorem lifted (os : Os) (started : os.Started) (H : Type) (enc : TypeId × Value → H) :
    ReturnsInHanded {} Try.checked os 8 .any (Rows.fnExactNextNoiseSpec.pre6 enc Try.prog Try.f8 [] false) (Rows.fnExactNextNoiseSpec.post enc Try.prog Try.f8 false true false false) := by
  refine law_lifted (C := Try.checked) own started (by kernel_rfl) Try.func8
    (ChangeSpec.witness6 (enc := enc) (C := Try.checked) false ⟨#[], #[.int .u32 0], []⟩ 8 (by kernel_rfl) (by kernel_rfl) (by kernel_rfl) (by kernel_rfl))
    rfl 1 rfl (fun ds h => by match ds, h with | [d0], _ => exact ⟨rfl, rfl, rfl⟩) laidOut (of_decide_eq_true (by kernel_rfl)) 4 Try.underlying4 rfl ?_
  intro W base args ds p hval hA
  rw [Try.params8] at hA hval
  obtain ⟨v0, d0, rfl, rfl, h0⟩ := trodAll_one hA
  obtain ⟨x0, rfl, _, _, wx0⟩ := open_int Try.underlying37 (hval 0 _ _ rfl rfl) h0
  exact walk W x0 wx0
theorem over : Rows.fnExactNextNoiseRow.holds Try.pinned (OpenSpec.ofChange Rows.fnExactNextNoiseSpec) :=
  OpenClaim.holds_of_wide 8 Try.f8 rfl rfl rfl rfl rfl rfl rfl ⟨rfl, rfl, rfl, rfl, rfl⟩ rfl rfl rfl rfl rfl (by kernel_rfl) Try.func8 (by kernel_rfl)
    (of_decide_eq_true (by kernel_rfl)) (by unfold Func.isWrapper; first | (rw [if_pos (by decide +kernel)]; kernel_rfl) | (rw [if_neg (by decide +kernel)]; exact ⟨rfl, rfl⟩))
    (fun os started H enc _ => lifted os started H enc)
/-- THE STATEMENT. -/
theorem proved : Rows.FnExactNextNoiseSaid := over
#print axioms proved
end Go.Proofs.Ytbjaihboagompaa.fnExactNextNoise
