/- The statement Rows.FnExactAllpassForSaid: the law FnExactAllpassFor returns true for every input, and its arguments read as before. No condition. -/
import Derived.Test.YtboffmlhoddopaaRows
import Derived.Test.YtboffmlhoddopaaFg
namespace Go.Proofs.Ytboffmlhoddopaa.fnExactAllpassFor
open Go.ChangeShapes Go.WideShapes Go.ChangeAt Go.RowKit Go.Fl

set_option maxRecDepth 10000 in
theorem walk (w : World) (a : Nat) (_ : (Lit.float .f32 a).wf = true) :
    Calls Try.prog 4 #[.float .f32 a] w fun e w' => e = .returned (.bool true) ∧ Below w.heap.size w w' := by
  have hb := Below.refl w.heap.size w
  go_enter Try.func4, Try.ntmps4
  go_wp2_with (first
    | (go_at_call 18; refine (c_sAllpassFor _ _).mono ?_; rintro e w2 ⟨kS, cS, qS, rfl, HrS', b2⟩; have HrS := Lib.hid HrS'; clear HrS')
    | (go_at_call 19; refine (c_iAllpassFor _ _).mono ?_; rintro e w2 ⟨kI, cI, qI, rfl, HrI', b2⟩; obtain ⟨e1, e2', e3⟩ := HrI'.same HrS.out; subst e1; subst e3; have e2 := Lib.hid e2'; clear e2' HrI'; have mI := True.intro)
    | (have _ := mI; refine wpList_store_newest (cells := filt kI cI 0 0 0 0) rfl 26 _ _ rfl rfl rfl info_filter rfl rfl (fun w3 b3 hrI => ?_); have s1 := seq_below b2 b3; clear b2 b3; replace hb := seq_below hb s1; replace hrS := hrS.below s1 hrS.lt; clear s1)
    | (refine wpList_store_newest (cells := filt kS cS 0 0 0 0) rfl 26 _ _ rfl rfl rfl info_filter rfl rfl (fun w3 b3 hrS => ?_); have s1 := seq_below b2 b3; clear b2 b3; replace hb := seq_below hb s1; clear s1)
    | (refine wpList_load_cells rfl 26 _ rfl _ rfl hrI Try.underlying26 rfl info_filter ?_)
    | (refine wpList_load_cells rfl 26 _ rfl _ rfl hrS Try.underlying26 rfl info_filter ?_)
    | (go_at_call 17; refine (c_eqFilter _ _ _ _ _ _ _ _ _ _ _ _ e2.out rfl rfl rfl rfl).mono ?_; rintro e w7 ⟨rfl, b7⟩))
  go_ret
  exact ⟨rfl, seq_below hb b7⟩

theorem own : ownKnob Try.prog.godebug = none := by kernel_rfl
theorem laidOut : laidOutB Try.prog = true := by kernel_rfl
set_option maxRecDepth 100000 in
theorem lifted (os : Os) (started : os.Started) (H : Type) (enc : TypeId × Value → H) :
    ReturnsInHanded {} Try.checked os 4 .any (Rows.fnExactAllpassForSpec.pre6 enc Try.prog Try.f4 [] false) (Rows.fnExactAllpassForSpec.post enc Try.prog Try.f4 false true false false) := by
  refine law_lifted (C := Try.checked) own started (by kernel_rfl) Try.func4
    (ChangeSpec.witness6 (enc := enc) (C := Try.checked) false ⟨#[], #[.float .f32 0], []⟩ 8 (by kernel_rfl) (by kernel_rfl) (by kernel_rfl) (by kernel_rfl))
    rfl 1 rfl (fun ds h => by match ds, h with | [d0], _ => exact ⟨rfl, rfl, rfl⟩) laidOut (of_decide_eq_true (by kernel_rfl)) 4 Try.underlying4 rfl ?_
  intro W base args ds p hval hA
  rw [Try.params4] at hA hval
  obtain ⟨v0, d0, rfl, rfl, h0⟩ := trodAll_one hA
  obtain ⟨x0, rfl, _, _, wx0⟩ := open_float Try.underlying22 (hval 0 _ _ rfl rfl) h0
  exact walk W x0 wx0
theorem over : Rows.fnExactAllpassForRow.holds Try.pinned (OpenSpec.ofChange Rows.fnExactAllpassForSpec) :=
  OpenClaim.holds_of_wide 4 Try.f4 rfl rfl rfl rfl rfl rfl rfl ⟨rfl, rfl, rfl, rfl, rfl⟩ rfl rfl rfl rfl rfl (by kernel_rfl) Try.func4 (by kernel_rfl)
    (of_decide_eq_true (by kernel_rfl)) (by unfold Func.isWrapper; first | (rw [if_pos (by decide +kernel)]; kernel_rfl) | (rw [if_neg (by decide +kernel)]; exact ⟨rfl, rfl⟩))
    (fun os started H enc _ => lifted os started H enc)
/-- THE STATEMENT. -/
theorem proved : Rows.FnExactAllpassForSaid := over
#print axioms proved
end Go.Proofs.Ytboffmlhoddopaa.fnExactAllpassFor
