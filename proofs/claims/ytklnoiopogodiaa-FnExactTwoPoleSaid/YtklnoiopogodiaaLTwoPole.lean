/- The statement Rows.FnExactTwoPoleSaid: the law FnExactTwoPole returns true for every input, and its arguments read as before. No condition. -/
import Derived.Test.YtklnoiopogodiaaRows
import Derived.Test.YtklnoiopogodiaaSe
namespace Go.Proofs.Ytklnoiopogodiaa.fnExactTwoPole
open Go.ChangeShapes Go.WideShapes Go.ChangeAt Go.RowKit Go.Fl

set_option maxRecDepth 10000 in
theorem walk (w : World) (a : Nat) (_ : (Lit.float .f32 a).wf = true) (b : Nat) (_ : (Lit.float .f32 b).wf = true) :
    Calls Try.prog 5 #[.float .f32 a, .float .f32 b] w fun e w' => e = .returned (.bool true) ∧ Below w.heap.size w w' := by
  have hb := Below.refl w.heap.size w
  go_enter Try.func5, Try.ntmps5
  go_wp2_with (first
    | (go_at_call 15; refine (c_sTwoPole _ _ _).mono ?_; rintro e w2 ⟨r0, r1, r2, rfl, H0', H1', H2', b2⟩; have H0 := Lib.hid H0'; have H1 := Lib.hid H1'; have H2 := Lib.hid H2'; clear H0' H1' H2')
    | (go_at_call 16; refine (c_iTwoPole _ _ _).mono ?_; rintro e w2 ⟨q0, q1, q2, rfl, H0', H1', H2', b2⟩; have G0 := Lib.hid H0'; have G1 := Lib.hid H1'; have G2 := Lib.hid H2'; clear H0' H1' H2'; have mI := True.intro)
    | (have _ := mI; refine wpList_store_newest (cells := filt 4 q0 q1 q2 0 0) rfl 35 _ _ rfl rfl rfl info_filter rfl rfl (fun w3 b3 hrI => ?_); have s1 := seq_below b2 b3; clear b2 b3; replace hb := seq_below hb s1; replace hrS := hrS.below s1 hrS.lt; clear s1)
    | (refine wpList_store_newest (cells := filt 4 r0 r1 r2 0 0) rfl 35 _ _ rfl rfl rfl info_filter rfl rfl (fun w3 b3 hrS => ?_); have s1 := seq_below b2 b3; clear b2 b3; replace hb := seq_below hb s1; clear s1)
    | (refine wpList_load_cells rfl 35 _ rfl _ rfl hrI Try.underlying35 rfl info_filter ?_)
    | (refine wpList_load_cells rfl 35 _ rfl _ rfl hrS Try.underlying35 rfl info_filter ?_)
    | (go_at_call 17; refine (c_eqFilter _ _ _ _ _ _ _ _ _ _ _ _ (G0.out.trans H0.out.symm) (G1.out.trans H1.out.symm) (G2.out.trans H2.out.symm) rfl rfl).mono ?_; rintro e w7 ⟨rfl, b7⟩))
  go_ret
  exact ⟨rfl, seq_below hb b7⟩

theorem own : ownKnob Try.prog.godebug = none := by kernel_rfl
theorem laidOut : laidOutB Try.prog = true := by kernel_rfl
set_option maxRecDepth 100000 in
theorem lifted (os : Os) (started : os.Started) (H : Type) (enc : TypeId × Value → H) :
    ReturnsInHanded {} Try.checked os 5 .any (Rows.fnExactTwoPoleSpec.pre6 enc Try.prog Try.f5 [] false) (Rows.fnExactTwoPoleSpec.post enc Try.prog Try.f5 false true false false) := by
  refine law_lifted (C := Try.checked) own started (by kernel_rfl) Try.func5
    (ChangeSpec.witness6 (enc := enc) (C := Try.checked) false ⟨#[], #[.float .f32 0, .float .f32 0], []⟩ 8 (by kernel_rfl) (by kernel_rfl) (by kernel_rfl) (by kernel_rfl))
    rfl 2 rfl (fun ds h => by match ds, h with | [d0, d1], _ => exact ⟨rfl, rfl, rfl⟩) laidOut (of_decide_eq_true (by kernel_rfl)) 4 Try.underlying4 rfl ?_
  intro W base args ds p hval hA
  rw [Try.params5] at hA hval
  obtain ⟨v0, v1, d0, d1, p0, p1, rfl, rfl, rfl, h0, h1⟩ := trodAll_two hA
  obtain ⟨x0, rfl, _, _, wx0⟩ := open_float Try.underlying22 (hval 0 _ _ rfl rfl) h0
  obtain ⟨x1, rfl, _, _, wx1⟩ := open_float Try.underlying22 (hval 1 _ _ rfl rfl) h1
  exact walk W x0 wx0 x1 wx1
theorem over : Rows.fnExactTwoPoleRow.holds Try.pinned (OpenSpec.ofChange Rows.fnExactTwoPoleSpec) :=
  OpenClaim.holds_of_wide 5 Try.f5 rfl rfl rfl rfl rfl rfl rfl ⟨rfl, rfl, rfl, rfl, rfl⟩ rfl rfl rfl rfl rfl (by kernel_rfl) Try.func5 (by kernel_rfl)
    (of_decide_eq_true (by kernel_rfl)) (by unfold Func.isWrapper; first | (rw [if_pos (by decide +kernel)]; kernel_rfl) | (rw [if_neg (by decide +kernel)]; exact ⟨rfl, rfl⟩))
    (fun os started H enc _ => lifted os started H enc)
/-- THE STATEMENT. -/
theorem proved : Rows.FnExactTwoPoleSaid := over
#print axioms proved
end Go.Proofs.Ytklnoiopogodiaa.fnExactTwoPole
