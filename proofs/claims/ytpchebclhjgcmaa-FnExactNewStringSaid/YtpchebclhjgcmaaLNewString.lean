/- The statement Rows.FnExactNewStringSaid: the law FnExactNewString returns true for every input, and its arguments read as before. No condition. -/
import Derived.Test.YtpchebclhjgcmaaRows
import Derived.Test.YtpchebclhjgcmaaHn
namespace Go.Proofs.Ytpchebclhjgcmaa.fnExactNewString
open Go.ChangeShapes Go.WideShapes Go.ChangeAt Go.RowKit Go.Fl

theorem cS (p m l : Nat) (w : World) : Calls Try.prog 17 #[.float .f32 p, .float .f32 m, .float .f32 l] w (NewPost p m l w) := by
  cases h : newOk p m l
  · exact c_sNewString_no p m l w h
  · exact c_sNewString p m l w h
theorem cI (p m l : Nat) (w : World) : Calls Try.prog 18 #[.float .f32 p, .float .f32 m, .float .f32 l] w (NewPost p m l w) := by
  cases h : newOk p m l
  · exact c_iNewString_no p m l w h
  · exact c_iNewString p m l w h
set_option maxRecDepth 20000 in
set_option maxHeartbeats 2000000 in
theorem walk (w : World) (p : Nat) (_ : (Lit.float .f32 p).wf = true) (m : Nat) (_ : (Lit.float .f32 m).wf = true) (l : Nat) (_ : (Lit.float .f32 l).wf = true) :
    Calls Try.prog 5 #[.float .f32 p, .float .f32 m, .float .f32 l] w fun e w' => e = .returned (.bool true) ∧ Below w.heap.size w w' := by
  have hb := Below.refl w.heap.size w
  go_enter Try.func5, Try.ntmps5
  go_wp2_with fail
  refine (cS _ _ _ _).mono ?_; rintro e w1 ⟨A1, c1, n1, F1, G1, l1, q1, rfl, oS, rS, b⟩
  replace hb := seq_below hb b; clear b
  have RS := Lib.hid rS; have HI := Lib.hid rS.le; have hp : ¬ (1 + (n1 : Int) < 0) := by omega
  have hqq : (q1 != q1) = false := by simp
  clear rS
  go_wp2_with (first | (refine wpList_store_newest (cells := (strC A1 n1 c1 0 F1 G1 l1).toArray) rfl 37 _ _ rfl rfl rfl info_str rfl rfl (fun w2 b4 hrS => ?_); replace hb := seq_below hb b4; replace oS := oS.below b4 (Nat.le_refl _); clear b4))
  refine (cI _ _ _ _).mono ?_; rintro e w3 ⟨A2, c2, n2, F2, G2, l2, q2, rfl, oI, rI, b⟩
  have NIO := Lib.hid (fun k (hk : ownBlk A2 = some k) k1 (hk1 : ownBlk A1 = some k1) => Nat.ne_of_lt (Nat.lt_of_lt_of_le (oS.lt k1 hk1) (oI.ge k hk))); have NIS := Lib.hid (fun k (hk : ownBlk A2 = some k) => Nat.ne_of_lt (Nat.lt_of_lt_of_le hrS.lt (oI.ge k hk))); have NIB := Lib.hid (fun k (hk : ownBlk A2 = some k) => Nat.le_trans hb.size (oI.ge k hk))
  replace hb := seq_below hb b; replace oS := oS.below b (Nat.le_refl _); replace hrS := hrS.below b hrS.lt; clear b
  obtain ⟨e1, eF, eG, e2, e3⟩ := rI.same RS.out
  subst e1; subst e2; subst e3
  have EF := Lib.hid eF; have EG := Lib.hid eG; clear eF eG rI
  go_wp2_with (first | (refine wpList_store_newest (cells := (strC A2 n2 c2 0 F2 G2 l2).toArray) rfl 37 _ _ rfl rfl rfl info_str rfl rfl (fun w4 b4 hrI => ?_); have NII := Lib.hid (fun k (hk : ownBlk A2 = some k) => Nat.ne_of_gt (oI.lt k hk)); replace hb := seq_below hb b4; replace oS := oS.below b4 (Nat.le_refl _); replace hrS := hrS.below b4 hrS.lt; replace oI := oI.below b4 (Nat.le_refl _); clear b4) | (refine wpList_load_cells rfl 37 _ rfl _ rfl hrI Try.underlying37 rfl info_str ?_) | (refine wpList_load_cells rfl 37 _ rfl _ rfl hrS Try.underlying37 rfl info_str ?_))
  refine (c_eqString _ _ _ _ _ _ _ _ _ _ _ _ _ _ _ oI.sl oS.sl List.length_replicate List.length_replicate HI.out (fun _ _ => rfl) EF.out EG.out rfl).mono ?_; rintro e w5 ⟨rfl, b⟩
  replace hb := seq_below hb b; replace oS := oS.below b (Nat.le_refl _); replace hrS := hrS.below b hrS.lt; replace oI := oI.below b (Nat.le_refl _); replace hrI := hrI.below b hrI.lt; clear b
  go_wp2_with (first | (refine wpList_load_cells rfl 37 _ rfl _ rfl hrI Try.underlying37 rfl info_str ?_))
  refine (c_markString _ _ _ _ _ _ _ _ _ _ _ oI List.length_replicate HI.out (by decide) (by decide)).mono ?_; rintro e w6 ⟨rfl, oJ, b⟩
  replace hb := hb.trans (below_grownBy b hb.size NIB.out); replace hrS := hrS.grown b (fun e => NIS.out _ e.symm rfl); replace hrI := hrI.grown b (fun e => NII.out _ e.symm rfl); replace oS := oS.kept b (fun k hk e => NIO.out _ e.symm k hk rfl); clear b oI
  go_wp2_with (first | (refine wpList_load_cells rfl 37 _ rfl _ rfl hrI Try.underlying37 rfl info_str ?_))
  refine (c_heldString _ _ _ _ _ _ _ _ _ oJ.sl HI.out (by decide) (by decide)).mono ?_; rintro e w7 ⟨rfl, b⟩
  replace hb := seq_below hb b; replace oS := oS.below b (Nat.le_refl _); replace hrS := hrS.below b hrS.lt; replace hrI := hrI.below b hrI.lt; replace oJ := oJ.below b (Nat.le_refl _); clear b
  go_wp2_with fail
  refine (cI _ _ _ _).mono ?_; rintro e w8 ⟨A3, c3, n3, F3, G3, l3, q3, rfl, oH, rI, b⟩
  replace hb := seq_below hb b; replace oS := oS.below b (Nat.le_refl _); replace hrS := hrS.below b hrS.lt; replace hrI := hrI.below b hrI.lt; replace oJ := oJ.below b (Nat.le_refl _); clear b
  obtain ⟨e1, eF, eG, e2, e3⟩ := rI.same RS.out
  subst e1; subst e2; subst e3
  have EF3 := Lib.hid eF; have EG3 := Lib.hid eG; clear eF eG rI
  go_wp2_with (first | (refine wpList_store_newest (cells := (strC A3 n3 c3 0 F3 G3 l3).toArray) rfl 37 _ _ rfl rfl rfl info_str rfl rfl (fun w9 b4 hrH => ?_); replace hb := seq_below hb b4; replace oS := oS.below b4 (Nat.le_refl _); replace hrS := hrS.below b4 hrS.lt; replace hrI := hrI.below b4 hrI.lt; replace oJ := oJ.below b4 (Nat.le_refl _); replace oH := oH.below b4 (Nat.le_refl _); clear b4) | (refine wpList_load_cells rfl 37 _ rfl _ rfl hrH Try.underlying37 rfl info_str ?_) | (refine wpList_load_cells rfl 37 _ rfl _ rfl hrS Try.underlying37 rfl info_str ?_))
  refine (c_eqString _ _ _ _ _ _ _ _ _ _ _ _ _ _ _ oH.sl oS.sl List.length_replicate List.length_replicate HI.out (fun _ _ => rfl) EF3.out EG3.out rfl).mono ?_; rintro e w10 ⟨rfl, b⟩
  replace hb := seq_below hb b; replace oS := oS.below b (Nat.le_refl _); replace hrS := hrS.below b hrS.lt; replace hrI := hrI.below b hrI.lt; replace oJ := oJ.below b (Nat.le_refl _); replace oH := oH.below b (Nat.le_refl _); replace hrH := hrH.below b hrH.lt; clear b
  go_wp2_with (first | (refine wpList_load_cells rfl 37 _ rfl _ rfl hrI Try.underlying37 rfl info_str ?_))
  refine (c_heldString _ _ _ _ _ _ _ _ _ oJ.sl HI.out (by decide) (by decide)).mono ?_; rintro e w11 ⟨rfl, b⟩
  replace hb := seq_below hb b; replace oS := oS.below b (Nat.le_refl _); replace hrS := hrS.below b hrS.lt; replace hrI := hrI.below b hrI.lt; replace oJ := oJ.below b (Nat.le_refl _); replace oH := oH.below b (Nat.le_refl _); replace hrH := hrH.below b hrH.lt; clear b
  go_wp2_with fail
  go_ret
  exact ⟨rfl, hb⟩

theorem own : ownKnob Try.prog.godebug = none := by kernel_rfl
theorem laidOut : laidOutB Try.prog = true := by kernel_rfl
set_option maxRecDepth 100000 in
theorem lifted (os : Os) (started : os.Started) (H : Type) (enc : TypeId × Value → H) :
    ReturnsInHanded {} Try.checked os 5 .any (Rows.fnExactNewStringSpec.pre6 enc Try.prog Try.f5 [] false) (Rows.fnExactNewStringSpec.post enc Try.prog Try.f5 false true false false) := by
  refine law_lifted (C := Try.checked) own started (by kernel_rfl) Try.func5
    (ChangeSpec.witness6 (enc := enc) (C := Try.checked) false ⟨#[], #[.float .f32 0, .float .f32 0, .float .f32 0], []⟩ 8 (by kernel_rfl) (by kernel_rfl) (by kernel_rfl) (by kernel_rfl))
    rfl 3 rfl (fun ds h => by match ds, h with | [d0, d1, d2], _ => exact ⟨rfl, rfl, rfl⟩) laidOut (of_decide_eq_true (by kernel_rfl)) 4 Try.underlying4 rfl ?_
  intro W base args ds p hval hA
  rw [Try.params5] at hA hval
  obtain ⟨v0, v1, v2, d0, d1, d2, p0, p1, p2, rfl, rfl, rfl, h0, h1, h2⟩ := trodAll_three hA
  obtain ⟨x0, rfl, _, _, wx0⟩ := open_float Try.underlying25 (hval 0 _ _ rfl rfl) h0
  obtain ⟨x1, rfl, _, _, wx1⟩ := open_float Try.underlying25 (hval 1 _ _ rfl rfl) h1
  obtain ⟨x2, rfl, _, _, wx2⟩ := open_float Try.underlying25 (hval 2 _ _ rfl rfl) h2
  exact walk W x0 wx0 x1 wx1 x2 wx2
theorem over : Rows.fnExactNewStringRow.holds Try.pinned (OpenSpec.ofChange Rows.fnExactNewStringSpec) :=
  OpenClaim.holds_of_wide 5 Try.f5 rfl rfl rfl rfl rfl rfl rfl ⟨rfl, rfl, rfl, rfl, rfl⟩ rfl rfl rfl rfl rfl (by kernel_rfl) Try.func5 (by kernel_rfl)
    (of_decide_eq_true (by kernel_rfl)) (by unfold Func.isWrapper; first | (rw [if_pos (by decide +kernel)]; kernel_rfl) | (rw [if_neg (by decide +kernel)]; exact ⟨rfl, rfl⟩))
    (fun os started H enc _ => lifted os started H enc)
/-- THE STATEMENT. -/
theorem proved : Rows.FnExactNewStringSaid := over
#print axioms proved
end Go.Proofs.Ytpchebclhjgcmaa.fnExactNewString
