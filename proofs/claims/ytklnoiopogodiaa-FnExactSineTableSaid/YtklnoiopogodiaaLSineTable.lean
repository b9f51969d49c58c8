/- The statement Rows.FnExactSineTableSaid: the law FnExactSineTable returns true for every input, and its arguments read as before. No condition. -/
import Derived.Test.YtklnoiopogodiaaRows
import Derived.Test.YtklnoiopogodiaaSf
namespace Go.Proofs.Ytklnoiopogodiaa.fnExactSineTable
open Go.ChangeShapes Go.WideShapes Go.ChangeAt Go.RowKit Go.Fl

set_option maxRecDepth 10000 in
theorem walk (w : World) :
    Calls Try.prog 4 #[] w fun e w' => e = .returned (.bool true) ∧ Below w.heap.size w w' := by
  have hb := Below.refl w.heap.size w
  go_enter Try.func4, Try.ntmps4
  go_wp2_with (first
    | (go_at_call 12; refine (c_sSineTable _).mono ?_; rintro e w2 ⟨rS, rfl, HrS', b2⟩; have HrS := Lib.hid HrS'; clear HrS')
    | (refine wpList_store_tab rfl 28 _ _ rfl rfl rfl info_tab HrS.out.1 (fun w3 b3 hrS => ?_); have s1 := seq_below b2 b3; clear b2 b3; replace hb := seq_below hb s1; clear s1)
    | (go_at_call 13; refine (c_iSineTable _).mono ?_; rintro e w2 ⟨rI, rfl, HrI', b2⟩; have HrI := Lib.hid HrI'; clear HrI')
    | (refine wpList_store_tab rfl 28 _ _ rfl rfl rfl info_tab HrI.out.1 (fun w3 b3 hrI => ?_); have s1 := seq_below b2 b3; clear b2 b3; replace hb := seq_below hb s1; replace hrS := hrS.below s1 hrS.lt; clear s1)
    | (refine wpList_load_blk rfl 28 _ rfl _ rfl hrI Try.underlying28 info_tab HrI.out.1 ?_)
    | (refine wpList_load_blk rfl 28 _ rfl _ rfl hrS Try.underlying28 info_tab HrS.out.1 ?_)
    | (go_at_call 14; refine (c_eqTable _ _ _ HrI.out.1 HrS.out.1 (fun j hj => (HrI.out.2 j hj).trans (HrS.out.2 j hj).symm)).mono ?_; rintro e w7 ⟨rfl, b7⟩))
  go_ret
  exact ⟨rfl, seq_below hb b7⟩

theorem own : ownKnob Try.prog.godebug = none := by kernel_rfl
theorem laidOut : laidOutB Try.prog = true := by kernel_rfl
set_option maxRecDepth 100000 in
theorem lifted (os : Os) (started : os.Started) (H : Type) (enc : TypeId × Value → H) :
    ReturnsInHanded {} Try.checked os 4 .any (Rows.fnExactSineTableSpec.pre6 enc Try.prog Try.f4 [] false) (Rows.fnExactSineTableSpec.post enc Try.prog Try.f4 false true false false) := by
  refine law_lifted (C := Try.checked) own started (by kernel_rfl) Try.func4
    (ChangeSpec.witness6 (enc := enc) (C := Try.checked) false ⟨#[], #[], []⟩ 8 (by kernel_rfl) (by kernel_rfl) (by kernel_rfl) (by kernel_rfl))
    rfl 0 rfl (fun ds h => by match ds, h with | [], _ => exact ⟨rfl, rfl, rfl⟩) laidOut (of_decide_eq_true (by kernel_rfl)) 4 Try.underlying4 rfl ?_
  intro W base args ds p hval hA
  rw [Try.params4] at hA hval
  obtain ⟨rfl, rfl, rfl⟩ := trodAll_none hA
  exact walk W 
theorem over : Rows.fnExactSineTableRow.holds Try.pinned (OpenSpec.ofChange Rows.fnExactSineTableSpec) :=
  OpenClaim.holds_of_wide 4 Try.f4 rfl rfl rfl rfl rfl rfl rfl ⟨rfl, rfl, rfl, rfl, rfl⟩ rfl rfl rfl rfl rfl (by kernel_rfl) Try.func4 (by kernel_rfl)
    (of_decide_eq_true (by kernel_rfl)) (by unfold Func.isWrapper; first | (rw [if_pos (by decide +kernel)]; kernel_rfl) | (rw [if_neg (by decide +kernel)]; exact ⟨rfl, rfl⟩))
    (fun os started H enc _ => lifted os started H enc)
/-- THE STATEMENT. -/
theorem proved : Rows.FnExactSineTableSaid := over
#print axioms proved
end Go.Proofs.Ytklnoiopogodiaa.fnExactSineTable
