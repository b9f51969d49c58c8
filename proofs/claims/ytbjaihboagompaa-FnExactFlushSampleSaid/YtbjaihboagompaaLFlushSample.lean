/- The statement Rows.FnExactFlushSampleSaid: the law FnExactFlushSample returns true for every input, and its arguments read as before. No condition. -/
import Derived.Test.YtbjaihboagompaaRows
import Derived.Test.YtbjaihboagompaaC3
namespace Go.Proofs.Ytbjaihboagompaa.fnExactFlushSample
open Go.ChangeShapes Go.WideShapes Go.ChangeAt Go.RowKit Go.Fl

theorem walk (w : World) (a : Nat) (_ : (Lit.float .f32 a).wf = true) :
    Calls Try.prog 14 #[.float .f32 a] w fun e w' => e = .returned (.bool true) ∧ Below w.heap.size w w' := by
  go_enter Try.func14, Try.ntmps14
  go_wp2_with (first | (go_at_call 54; refine (c_l01Abs _ _).mono ?_; rintro e w' ⟨rfl, rfl⟩) | (go_at_call 51; refine (c_absolute _ _).mono ?_; rintro e w' ⟨r, n, rfl, HR, rfl⟩) | (go_at_call 17; refine (c_same32 _ _ _ _ _ (by with_reducible rfl)).mono ?_; rintro e w' ⟨rfl, n, rfl⟩) | go_in)
  all_goals (go_ret; exact ⟨rfl, by first | exact Below.refl _ _ | exact below_drewN (Below.refl _ _) _⟩)

theorem own : ownKnob Try.prog.godebug = none := by kernel_rfl
theorem laidOut : laidOutB Try.prog = true := by kernel_rfl
set_option maxRecDepth 100000 in
theorem lifted (os : Os) (started : os.Started) (H : Type) (enc : TypeId × Value → H) :
    ReturnsInHanded {} Try.checked os 14 .any (Rows.fnExactFlushSampleSpec.pre6 enc Try.prog Try.f14 [] false) (Rows.fnExactFlushSampleSpec.post enc Try.prog Try.f14 false true false false) := by
  refine law_lifted (C := Try.checked) own started (by kernel_rfl) Try.func14
    (ChangeSpec.witness6 (enc := enc) (C := Try.checked) false ⟨#[], #[.float .f32 0], []⟩ 8 (by kernel_rfl) (by kernel_rfl) (by kernel_rfl) (by kernel_rfl))
    rfl 1 rfl (fun ds h => by match ds, h with | [d0], _ => exact ⟨rfl, rfl, rfl⟩) laidOut (of_decide_eq_true (by kernel_rfl)) 4 Try.underlying4 rfl ?_
  intro W base args ds p hval hA
  rw [Try.params14] at hA hval
  obtain ⟨v0, d0, rfl, rfl, h0⟩ := trodAll_one hA
  obtain ⟨x0, rfl, _, _, wx0⟩ := open_float Try.underlying24 (hval 0 _ _ rfl rfl) h0
  exact walk W x0 wx0
theorem over : Rows.fnExactFlushSampleRow.holds Try.pinned (OpenSpec.ofChange Rows.fnExactFlushSampleSpec) :=
  OpenClaim.holds_of_wide 14 Try.f14 rfl rfl rfl rfl rfl rfl rfl ⟨rfl, rfl, rfl, rfl, rfl⟩ rfl rfl rfl rfl rfl (by kernel_rfl) Try.func14 (by kernel_rfl)
    (of_decide_eq_true (by kernel_rfl)) (by unfold Func.isWrapper; first | (rw [if_pos (by decide +kernel)]; kernel_rfl) | (rw [if_neg (by decide +kernel)]; exact ⟨rfl, rfl⟩))
    (fun os started H enc _ => lifted os started H enc)
/-- THE STATEMENT. -/
theorem proved : Rows.FnExactFlushSampleSaid := over
#print axioms proved
end Go.Proofs.Ytbjaihboagompaa.fnExactFlushSample
