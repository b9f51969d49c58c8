/- The statement Rows.FnExactReedAtSaid: the law FnExactReedAt returns true for every input, and its arguments read as before. No condition. -/
import Derived.Test.YtbjaihboagompaaRows
import Derived.Test.YtbjaihboagompaaC1
namespace Go.Proofs.Ytbjaihboagompaa.fnExactReedAt
open Go.ChangeShapes Go.WideShapes Go.ChangeAt Go.RowKit Go.Fl

theorem walk (w : World) (a : Nat) (_ : (Lit.float .f32 a).wf = true) (b : Nat) (_ : (Lit.float .f32 b).wf = true) (c : Nat) (_ : (Lit.float .f32 c).wf = true) :
    Calls Try.prog 13 #[.float .f32 a, .float .f32 b, .float .f32 c] w fun e w' => e = .returned (.bool true) ∧ Below w.heap.size w w' := by
  go_enter Try.func13, Try.ntmps13
  go_wp2_with (first | (go_at_call 17; refine (c_same32 _ _ _ _ _ (by first | with_reducible rfl | simp only [cv_fval])).mono ?_; rintro e w' ⟨rfl, n, rfl⟩) | go_in)
  all_goals (go_ret; exact ⟨rfl, by first | exact Below.refl _ _ | exact below_drewN (Below.refl _ _) _⟩)

theorem own : ownKnob Try.prog.godebug = none := by kernel_rfl
theorem laidOut : laidOutB Try.prog = true := by kernel_rfl
set_option maxRecDepth 100000 in
theorem lifted (os : Os) (started : os.Started) (H : Type) (enc : TypeId × Value → H) :
    ReturnsInHanded {} Try.checked os 13 .any (Rows.fnExactReedAtSpec.pre6 enc Try.prog Try.f13 [] false) (Rows.fnExactReedAtSpec.post enc Try.prog Try.f13 false true false false) := by
  refine law_lifted (C := Try.checked) own started (by kernel_rfl) Try.func13
    (ChangeSpec.witness6 (enc := enc) (C := Try.checked) false ⟨#[], #[.float .f32 0, .float .f32 0, .float .f32 0], []⟩ 8 (by kernel_rfl) (by kernel_rfl) (by kernel_rfl) (by kernel_rfl))
    rfl 3 rfl (fun ds h => by match ds, h with | [d0, d1, d2], _ => exact ⟨rfl, rfl, rfl⟩) laidOut (of_decide_eq_true (by kernel_rfl)) 4 Try.underlying4 rfl ?_
  intro W base args ds p hval hA
  rw [Try.params13] at hA hval
  obtain ⟨v0, v1, v2, d0, d1, d2, p0, p1, p2, rfl, rfl, rfl, h0, h1, h2⟩ := trodAll_three hA
  obtain ⟨x0, rfl, _, _, wx0⟩ := open_float Try.underlying24 (hval 0 _ _ rfl rfl) h0
  obtain ⟨x1, rfl, _, _, wx1⟩ := open_float Try.underlying24 (hval 1 _ _ rfl rfl) h1
  obtain ⟨x2, rfl, _, _, wx2⟩ := open_float Try.underlying24 (hval 2 _ _ rfl rfl) h2
  exact walk W x0 wx0 x1 wx1 x2 wx2
theorem over : Rows.fnExactReedAtRow.holds Try.pinned (OpenSpec.ofChange Rows.fnExactReedAtSpec) :=
  OpenClaim.holds_of_wide 13 Try.f13 rfl rfl rfl rfl rfl rfl rfl ⟨rfl, rfl, rfl, rfl, rfl⟩ rfl rfl rfl rfl rfl (by kernel_rfl) Try.func13 (by kernel_rfl)
    (of_decide_eq_true (by kernel_rfl)) (by unfold Func.isWrapper; first | (rw [if_pos (by decide +kernel)]; kernel_rfl) | (rw [if_neg (by decide +kernel)]; exact ⟨rfl, rfl⟩))
    (fun os started H enc _ => lifted os started H enc)
/-- THE STATEMENT. -/
theorem proved : Rows.FnExactReedAtSaid := over
#print axioms proved
end Go.Proofs.Ytbjaihboagompaa.fnExactReedAt
