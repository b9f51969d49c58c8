/- The statement Rows.FnExactBreathRampSaid: the law FnExactBreathRamp returns true for every input, and its arguments read as before. No condition. -/
import Derived.Test.YtboffmlhoddopaaRows
import Derived.Test.YtboffmlhoddopaaTf
namespace Go.Proofs.Ytboffmlhoddopaa.fnExactBreathRamp
open Go.ChangeShapes Go.WideShapes Go.ChangeAt Go.RowKit Go.Fl

set_option maxRecDepth 20000 in
set_option maxHeartbeats 2000000 in
theorem walk_no (w : World) (p q : Nat) (n : Int) (hv : inB n 0 4096 = false) :
    Calls Try.prog 14 #[.float .f32 p, .float .f32 q, .int .i64 n] w fun e w' => e = .returned (.bool true) ∧ Below w.heap.size w w' := by
  have hb := Below.refl w.heap.size w
  have HV := Lib.hid hv; clear hv
  go_enter Try.func14, Try.ntmps14
  go_wp2_with fail
  refine (c_sBreathRamp_no _ _ _ _ HV.out).mono ?_; rintro e w1 ⟨gS, rfl, b⟩
  replace hb := seq_below hb b; clear b
  go_wp2_with fail
  refine (c_iBreathRamp_no _ _ _ _ HV.out).mono ?_; rintro e w2 ⟨rfl, hww⟩
  obtain rfl := hww.symm
  go_wp2_with fail
  refine (c_eqFloat32S_n _ _ _ _ 0 [] [] _ (.inl rfl) (.inl rfl) rfl rfl (by decide) (fun _ _ => rfl)).mono ?_; rintro e w3 ⟨rfl, b⟩
  replace hb := seq_below hb b; clear b
  go_wp2_with fail
  refine (c_markFloat32S_nil _ _ _ _).mono ?_; rintro e w4 ⟨rfl, hww⟩
  obtain rfl := hww.symm
  go_wp2_with fail
  refine (c_heldFloat32S_nil _ _ _ _).mono ?_; rintro e w5 ⟨rfl, hww⟩
  obtain rfl := hww.symm
  go_wp2_with fail
  refine (c_iBreathRamp_no _ _ _ _ HV.out).mono ?_; rintro e w6 ⟨rfl, hww⟩
  obtain rfl := hww.symm
  go_wp2_with fail
  refine (c_eqFloat32S_n _ _ _ _ 0 [] [] _ (.inl rfl) (.inl rfl) rfl rfl (by decide) (fun _ _ => rfl)).mono ?_; rintro e w7 ⟨rfl, b⟩
  replace hb := seq_below hb b; clear b
  go_wp2_with fail
  refine (c_heldFloat32S_nil _ _ _ _).mono ?_; rintro e w8 ⟨rfl, hww⟩
  obtain rfl := hww.symm
  go_wp2_with fail
  go_ret
  exact ⟨rfl, hb⟩
set_option maxRecDepth 20000 in
set_option maxHeartbeats 2000000 in
theorem walk_ok (w : World) (p q : Nat) (n : Int) (hv : inB n 0 4096 = true) :
    Calls Try.prog 14 #[.float .f32 p, .float .f32 q, .int .i64 n] w fun e w' => e = .returned (.bool true) ∧ Below w.heap.size w w' := by
  have hb := Below.refl w.heap.size w
  obtain ⟨h1, h2⟩ := inB_true' hv
  obtain ⟨n, rfl⟩ := Int.eq_ofNat_of_zero_le h1
  have HV := Lib.hid hv; have HI := Lib.hid (show (n : Int) ≤ 4294967296 from by omega); have hp : ¬ (1 + (n : Int) < 0) := by omega
  clear hv
  go_enter Try.func14, Try.ntmps14
  go_wp2_with fail
  refine (c_sBreathRamp _ _ _ _ HV.out).mono ?_; rintro e w1 ⟨A1, c1, xs, rfl, oS, hrS, b⟩
  replace hb := seq_below hb b; clear b
  have HrS := Lib.hid hrS; clear hrS
  go_wp2_with fail
  refine (c_iBreathRamp _ _ _ _ HV.out).mono ?_; rintro e w2 ⟨A2, c2, ys, rfl, oI, hrI, b⟩
  have HrI := Lib.hid hrI; clear hrI; have NIO := Lib.hid (fun k (hk : ownBlk A2 = some k) k1 (hk1 : ownBlk A1 = some k1) => Nat.ne_of_lt (Nat.lt_of_lt_of_le (oS.lt k1 hk1) (oI.ge k hk))); have NIB := Lib.hid (fun k (hk : ownBlk A2 = some k) => Nat.le_trans hb.size (oI.ge k hk))
  replace hb := seq_below hb b; replace oS := oS.below b (Nat.le_refl _); clear b
  go_wp2_with fail
  refine (c_eqFloat32S_n _ _ _ _ n _ _ _ oI.sl oS.sl HrI.out.1 HrS.out.1 HI.out (HrI.out.same HrS.out)).mono ?_; rintro e w3 ⟨rfl, b⟩
  replace hb := seq_below hb b; replace oS := oS.below b (Nat.le_refl _); replace oI := oI.below b (Nat.le_refl _); clear b
  go_wp2_with fail
  refine (c_markFloat32S_own_n _ _ _ _ _ _ _ oI HrI.out.1 HI.out (by decide) (by decide)).mono ?_; rintro e w4 ⟨rfl, oJ, b⟩
  replace hb := hb.trans (below_grownBy b hb.size NIB.out); replace oS := oS.kept b (fun k hk e => NIO.out _ e.symm k hk rfl); clear b oI
  go_wp2_with fail
  refine (c_heldFloat32S_sl _ _ n _ _ oJ.sl HI.out (by decide) (by decide)).mono ?_; rintro e w5 ⟨rfl, b⟩
  replace hb := seq_below hb b; replace oS := oS.below b (Nat.le_refl _); replace oJ := oJ.below b (Nat.le_refl _); clear b
  go_wp2_with fail
  refine (c_iBreathRamp _ _ _ _ HV.out).mono ?_; rintro e w6 ⟨A3, c3, zs, rfl, oH, hrH, b⟩
  have HrH := Lib.hid hrH; clear hrH
  replace hb := seq_below hb b; replace oS := oS.below b (Nat.le_refl _); replace oJ := oJ.below b (Nat.le_refl _); clear b
  go_wp2_with fail
  refine (c_eqFloat32S_n _ _ _ _ n _ _ _ oH.sl oS.sl HrH.out.1 HrS.out.1 HI.out (HrH.out.same HrS.out)).mono ?_; rintro e w7 ⟨rfl, b⟩
  replace hb := seq_below hb b; replace oS := oS.below b (Nat.le_refl _); replace oJ := oJ.below b (Nat.le_refl _); replace oH := oH.below b (Nat.le_refl _); clear b
  go_wp2_with fail
  refine (c_heldFloat32S_sl _ _ n _ _ oJ.sl HI.out (by decide) (by decide)).mono ?_; rintro e w8 ⟨rfl, b⟩
  replace hb := seq_below hb b; replace oS := oS.below b (Nat.le_refl _); replace oJ := oJ.below b (Nat.le_refl _); replace oH := oH.below b (Nat.le_refl _); clear b
  go_wp2_with fail
  go_ret
  exact ⟨rfl, hb⟩
theorem walk (w : World) (p : Nat) (_ : (Lit.float .f32 p).wf = true) (q : Nat) (_ : (Lit.float .f32 q).wf = true) (n : Int) (_ : (Lit.int .i64 n).wf = true) :
    Calls Try.prog 14 #[.float .f32 p, .float .f32 q, .int .i64 n] w fun e w' => e = .returned (.bool true) ∧ Below w.heap.size w w' := by
  cases hv : inB n 0 4096
  · exact walk_no w p q n hv
  · exact walk_ok w p q n hv

theorem own : ownKnob Try.prog.godebug = none := by kernel_rfl
theorem laidOut : laidOutB Try.prog = true := by kernel_rfl
set_option maxRecDepth 100000 in
theorem lifted (os : Os) (started : os.Started) (H : Type) (enc : TypeId × Value → H) :
    ReturnsInHanded {} Try.checked os 14 .any (Rows.fnExactBreathRampSpec.pre6 enc Try.prog Try.f14 [] false) (Rows.fnExactBreathRampSpec.post enc Try.prog Try.f14 false true false false) := by
  refine law_lifted (C := Try.checked) own started (by kernel_rfl) Try.func14
    (ChangeSpec.witness6 (enc := enc) (C := Try.checked) false ⟨#[], #[.float .f32 0, .float .f32 0, .int .i64 0], []⟩ 8 (by kernel_rfl) (by kernel_rfl) (by kernel_rfl) (by kernel_rfl))
    rfl 3 rfl (fun ds h => by match ds, h with | [d0, d1, d2], _ => exact ⟨rfl, rfl, rfl⟩) laidOut (of_decide_eq_true (by kernel_rfl)) 4 Try.underlying4 rfl ?_
  intro W base args ds p hval hA
  rw [Try.params14] at hA hval
  obtain ⟨v0, v1, v2, d0, d1, d2, p0, p1, p2, rfl, rfl, rfl, h0, h1, h2⟩ := trodAll_three hA
  obtain ⟨x0, rfl, _, _, wx0⟩ := open_float Try.underlying22 (hval 0 _ _ rfl rfl) h0
  obtain ⟨x1, rfl, _, _, wx1⟩ := open_float Try.underlying22 (hval 1 _ _ rfl rfl) h1
  obtain ⟨x2, rfl, _, _, wx2⟩ := open_int Try.underlying2 (hval 2 _ _ rfl rfl) h2
  exact walk W x0 wx0 x1 wx1 x2 wx2
theorem over : Rows.fnExactBreathRampRow.holds Try.pinned (OpenSpec.ofChange Rows.fnExactBreathRampSpec) :=
  OpenClaim.holds_of_wide 14 Try.f14 rfl rfl rfl rfl rfl rfl rfl ⟨rfl, rfl, rfl, rfl, rfl⟩ rfl rfl rfl rfl rfl (by kernel_rfl) Try.func14 (by kernel_rfl)
    (of_decide_eq_true (by kernel_rfl)) (by unfold Func.isWrapper; first | (rw [if_pos (by decide +kernel)]; kernel_rfl) | (rw [if_neg (by decide +kernel)]; exact ⟨rfl, rfl⟩))
    (fun os started H enc _ => lifted os started H enc)
/-- THE STATEMENT. -/
theorem proved : Rows.FnExactBreathRampSaid := over
#print axioms proved
end Go.Proofs.Ytboffmlhoddopaa.fnExactBreathRamp
