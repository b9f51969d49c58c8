/- The statement Rows.FnExactNoiseBlockSaid: the law FnExactNoiseBlock returns true for every input, and its arguments read as before. No condition. -/
import Derived.Test.YtjkffooohpfbdaaRows
import Derived.Test.YtjkffooohpfbdaaCa
namespace Go.Proofs.Ytjkffooohpfbdaa.fnExactNoiseBlock
open Go.ChangeShapes Go.WideShapes Go.ChangeAt Go.RowKit Go.Fl

theorem walk (w : World) (a : Int) (_ : (Lit.int .u32 a).wf = true) :
    Calls Try.prog 6 #[.int .u32 a] w fun e w' => e = .returned (.bool true) ∧ Below w.heap.size w w' := by
  have hb := Below.refl w.heap.size w
  go_enter Try.func6, Try.ntmps6
  go_wp2_with (first
    | (go_at_call 23; refine (c_sNoiseBlock _ _).mono ?_; rintro e w2 ⟨rS, rfl, HrS', b2⟩; have HrS := Lib.hid HrS'; clear HrS')
    | (refine wpList_store_last rfl 24 _ _ rfl rfl rfl (List.replicate 16 0) rfl info_blk HrS.out.1 rfl (fun w3 b3 hrS => ?_); have s1 := seq_below b2 b3; clear b2 b3; replace hb := seq_below hb s1; clear s1)
    | (go_at_call 24; refine (c_iNoiseBlock _ _).mono ?_; rintro e w2 ⟨rI, rfl, HrI', b2⟩; have HrI := Lib.hid HrI'; clear HrI')
    | (refine wpList_store_last rfl 24 _ _ rfl rfl rfl (List.replicate 16 0) rfl info_blk HrI.out.1 rfl (fun w3 b3 hrI => ?_); have s1 := seq_below b2 b3; clear b2 b3; replace hb := seq_below hb s1; replace hrS := hrS.below s1 hrS.lt; clear s1)
    | (refine wpList_load_blk rfl 24 _ rfl _ rfl hrI Try.underlying24 info_blk HrI.out.1 ?_)
    | (refine wpList_load_blk rfl 24 _ rfl _ rfl hrS Try.underlying24 info_blk HrS.out.1 ?_)
    | (go_at_call 18; refine (c_eqBlock _ _ _ HrI.out.1 HrS.out.1 (fun j hj => (HrI.out.2 j hj).trans (HrS.out.2 j hj).symm)).mono ?_; rintro e w7 ⟨rfl, b7⟩))
  go_ret
  exact ⟨rfl, seq_below hb b7⟩

theorem own : ownKnob Try.prog.godebug = none := by kernel_rfl
theorem laidOut : laidOutB Try.prog = true := by kernel_rfl
set_option maxRecDepth 100000 in
theorem lifted (os : Os) (started : os.Started) (H : Type) (enc : TypeId × Value → H) :
    ReturnsInHanded {} Try.checked os 6 .any (Rows.fnExactNoiseBlockSpec.pre6 enc Try.prog Try.f6 [] false) (Rows.fnExactNoiseBlockSpec.post enc Try.prog Try.f6 false true false false) := by
  refine law_lifted (C := Try.checked) own started (by kernel_rfl) Try.func6
    (ChangeSpec.witness6 (enc := enc) (C := Try.checked) false ⟨#[], #[.int .u32 0], []⟩ 8 (by kernel_rfl) (by kernel_rfl) (by kernel_rfl) (by kernel_rfl))
    rfl 1 rfl (fun ds h => by match ds, h with | [d0], _ => exact ⟨rfl, rfl, rfl⟩) laidOut (of_decide_eq_true (by kernel_rfl)) 4 Try.underlying4 rfl ?_
  intro W base args ds p hval hA
  rw [Try.params6] at hA hval
  obtain ⟨v0, d0, rfl, rfl, h0⟩ := trodAll_one hA
  obtain ⟨x0, rfl, _, _, wx0⟩ := open_int Try.underlying31 (hval 0 _ _ rfl rfl) h0
  exact walk W x0 wx0
theorem over : Rows.fnExactNoiseBlockRow.holds Try.pinned (OpenSpec.ofChange Rows.fnExactNoiseBlockSpec) :=
  OpenClaim.holds_of_wide 6 Try.f6 rfl rfl rfl rfl rfl rfl rfl ⟨rfl, rfl, rfl, rfl, rfl⟩ rfl rfl rfl rfl rfl (by kernel_rfl) Try.func6 (by kernel_rfl)
    (of_decide_eq_true (by kernel_rfl)) (by unfold Func.isWrapper; first | (rw [if_pos (by decide +kernel)]; kernel_rfl) | (rw [if_neg (by decide +kernel)]; exact ⟨rfl, rfl⟩))
    (fun os started H enc _ => lifted os started H enc)
/-- THE STATEMENT. -/
theorem proved : Rows.FnExactNoiseBlockSaid := over
#print axioms proved
end Go.Proofs.Ytjkffooohpfbdaa.fnExactNoiseBlock
