/- The statement Rows.FnExactSamePipeSaid: the law FnExactSamePipe returns true for every input, and its arguments read as before. No condition. -/
import Derived.Test.YtpchebclhjgcmaaRows
import Derived.Test.YtpchebclhjgcmaaLw
namespace Go.Proofs.Ytpchebclhjgcmaa.fnExactSamePipe
open Go.ChangeShapes Go.WideShapes Go.ChangeAt Go.RowKit Go.Fl

set_option maxRecDepth 20000 in
set_option maxHeartbeats 2000000 in
theorem walk_big1 (w : World) (p q : PipV) (hp : PipAt w p) (hq : PipAt w q) (hf : PipFit p) (hbig : 1048576 < (totP p : Int)) :
    Calls Try.prog 9 #[.agg p.cells.toArray, .agg q.cells.toArray] w fun e w' => e = .returned (.bool true) ∧ Below w.heap.size w w' := by
  have q1 : Row ((w.alloc (.cells p.cells.toArray 68)).alloc (.cells q.cells.toArray 68)) w.heap.size p.cells.toArray 68 := (Row.new _ _ _ _ rfl).alloc _
  have q2 : Row ((w.alloc (.cells p.cells.toArray 68)).alloc (.cells q.cells.toArray 68)) (w.heap.size + 1) q.cells.toArray 68 := Row.new _ _ _ _ (by simp)
  have h0 := Lib.hid (Go.Joins.below_alloc2 w (.cells p.cells.toArray 68) (.cells q.cells.toArray 68))
  have hb := Below.refl ((w.alloc (.cells p.cells.toArray 68)).alloc (.cells q.cells.toArray 68)).heap.size ((w.alloc (.cells p.cells.toArray 68)).alloc (.cells q.cells.toArray 68))
  have HP := Lib.hid (hp.below h0.out); have HQ := Lib.hid (hq.below h0.out); clear hp hq
  have HB := Lib.hid hbig; have HF := Lib.hid hf; clear hbig hf
  go_enter Try.func9, Try.ntmps9
  go_wp2_with (first
    | (refine wpList_load_cells rfl 68 _ rfl _ rfl (q1.below hb q1.lt) Try.underlying68 rfl info_pipl ?_)
    | (go_at_call 37; refine (c_szPipe_big _ _ _ HP.out HF.out (by decide) (by decide) HB.out).mono ?_; rintro e w1 ⟨rfl, b⟩))
  go_ret
  exact ⟨rfl, seq_below h0.out (seq_below hb b)⟩
set_option maxRecDepth 20000 in
set_option maxHeartbeats 2000000 in
theorem walk_big2 (w : World) (p q : PipV) (hp : PipAt w p) (hq : PipAt w q) (hf : PipFit q) (hn : (totP p : Int) ≤ 1048576) (hbig : 1048576 - (totP p : Int) < (totP q : Int)) :
    Calls Try.prog 9 #[.agg p.cells.toArray, .agg q.cells.toArray] w fun e w' => e = .returned (.bool true) ∧ Below w.heap.size w w' := by
  have q1 : Row ((w.alloc (.cells p.cells.toArray 68)).alloc (.cells q.cells.toArray 68)) w.heap.size p.cells.toArray 68 := (Row.new _ _ _ _ rfl).alloc _
  have q2 : Row ((w.alloc (.cells p.cells.toArray 68)).alloc (.cells q.cells.toArray 68)) (w.heap.size + 1) q.cells.toArray 68 := Row.new _ _ _ _ (by simp)
  have h0 := Lib.hid (Go.Joins.below_alloc2 w (.cells p.cells.toArray 68) (.cells q.cells.toArray 68))
  have hb := Below.refl ((w.alloc (.cells p.cells.toArray 68)).alloc (.cells q.cells.toArray 68)).heap.size ((w.alloc (.cells p.cells.toArray 68)).alloc (.cells q.cells.toArray 68))
  have HP := Lib.hid (hp.below h0.out); have HQ := Lib.hid (hq.below h0.out); clear hp hq
  have hpos : ¬ (1048576 - (totP p : Int) < 0) := by omega
  have HB := Lib.hid hn; have H0 := Lib.hid (show (0 : Int) ≤ 1048576 - (totP p : Int) from by omega); have H1 := Lib.hid (show 1048576 - (totP p : Int) ≤ 1048576 from by omega); have HB2 := Lib.hid hbig; have HF := Lib.hid hf; clear hn hbig hf
  go_enter Try.func9, Try.ntmps9
  go_wp2_with (first | (refine wpList_load_cells rfl 68 _ rfl _ rfl (q1.below hb q1.lt) Try.underlying68 rfl info_pipl ?_))
  refine (c_szPipe _ _ _ (HP.out.below hb) (by decide) HB.out).mono ?_; rintro e w1 ⟨rfl, b⟩
  replace hb := seq_below hb b; clear b
  go_wp2_with (first | (refine wpList_load_cells rfl 68 _ rfl _ rfl (q2.below hb q2.lt) Try.underlying68 rfl info_pipl ?_))
  refine (c_szPipe_big _ _ _ (HQ.out.below hb) HF.out H0.out H1.out HB2.out).mono ?_; rintro e w2 ⟨rfl, b⟩
  replace hb := seq_below hb b; clear b
  go_wp2_with fail
  go_ret
  exact ⟨rfl, seq_below h0.out hb⟩
set_option maxRecDepth 20000 in
set_option maxHeartbeats 2000000 in
theorem walk_ok (w : World) (p q : PipV) (hp : PipAt w p) (hq : PipAt w q) (hn : (totP p : Int) ≤ 1048576) (hn2 : (totP q : Int) ≤ 1048576 - (totP p : Int)) :
    Calls Try.prog 9 #[.agg p.cells.toArray, .agg q.cells.toArray] w fun e w' => e = .returned (.bool true) ∧ Below w.heap.size w w' := by
  have q1 : Row ((w.alloc (.cells p.cells.toArray 68)).alloc (.cells q.cells.toArray 68)) w.heap.size p.cells.toArray 68 := (Row.new _ _ _ _ rfl).alloc _
  have q2 : Row ((w.alloc (.cells p.cells.toArray 68)).alloc (.cells q.cells.toArray 68)) (w.heap.size + 1) q.cells.toArray 68 := Row.new _ _ _ _ (by simp)
  have h0 := Lib.hid (Go.Joins.below_alloc2 w (.cells p.cells.toArray 68) (.cells q.cells.toArray 68))
  have hb := Below.refl ((w.alloc (.cells p.cells.toArray 68)).alloc (.cells q.cells.toArray 68)).heap.size ((w.alloc (.cells p.cells.toArray 68)).alloc (.cells q.cells.toArray 68))
  have HP := Lib.hid (hp.below h0.out); have HQ := Lib.hid (hq.below h0.out); clear hp hq
  have hpos : ¬ (1048576 - (totP p : Int) < 0) := by omega
  have hpos2 : ¬ (1048576 - (totP p : Int) - (totP q : Int) < 0) := by omega
  have HB := Lib.hid hn; have H1 := Lib.hid (show 1048576 - (totP p : Int) ≤ 1048576 from by omega); have HB2 := Lib.hid hn2; have SP := Lib.hid (PipSz.of (p := p) (by omega)); have SQ := Lib.hid (PipSz.of (p := q) (by omega))
  clear hn hn2
  have hvv : (spB p q != spB p q) = false := by simp
  go_enter Try.func9, Try.ntmps9
  go_wp2_with (first | (refine wpList_load_cells rfl 68 _ rfl _ rfl (q1.below hb q1.lt) Try.underlying68 rfl info_pipl ?_))
  refine (c_szPipe _ _ _ (HP.out.below hb) (by decide) HB.out).mono ?_; rintro e w1 ⟨rfl, b⟩
  replace hb := seq_below hb b; clear b
  go_wp2_with (first | (refine wpList_load_cells rfl 68 _ rfl _ rfl (q2.below hb q2.lt) Try.underlying68 rfl info_pipl ?_))
  refine (c_szPipe _ _ _ (HQ.out.below hb) H1.out HB2.out).mono ?_; rintro e w2 ⟨rfl, b⟩
  replace hb := seq_below hb b; clear b
  go_wp2_with fail
  have s0 := (Below.refl w2.heap.size w2).drew
  refine wp_region_seq (S := fun w' => Below w2.heap.size w2 w') [(true, 0), (true, 2), (false, 1), (false, 3), (false, 4), (true, 5)] (by kernel_rfl) (by kernel_rfl) (by kernel_rfl) (fun _ _ d _ _ h => by cases d <;> exact h) s0 ?_
  refine wpSeq_held rfl (yields_load_cells rfl _ _ rfl _ rfl (q1.below hb q1.lt) (q1.below hb q1.lt).lt (fun _ h => h) Try.underlying68 rfl info_pipl) ?_
  refine wpSeq_held rfl (yields_load_cells rfl _ _ rfl _ rfl (q2.below hb q2.lt) (q2.below hb q2.lt).lt (fun _ h => h) Try.underlying68 rfl info_pipl) ?_
  refine wpSeq_step rfl rfl (fun K hK => ?_)
  go_wp2_with fail
  refine (c_toPipe _ _ ((HP.out.below hb).below s0) SP.out).mono ?_; rintro e wa1 ⟨a1, rfl, hX', hE1', b1⟩
  have s1 := seq_below s0 b1
  refine hK _ _ ⟨s1, ?_⟩; clear hK
  have HX := Lib.hid hX'; have HE1 := Lib.hid hE1'; clear hX' hE1'
  refine wpSeq_step rfl rfl (fun K hK => ?_)
  go_wp2_with fail
  refine (c_toPipe _ _ ((HQ.out.below hb).below s1) SQ.out).mono ?_; rintro e wa2 ⟨a2, rfl, hY', hE2', b2⟩
  have s2 := seq_below s1 b2
  refine hK _ _ ⟨s2, ?_⟩; clear hK
  have HY := Lib.hid hY'; have HE2 := Lib.hid hE2'; clear hY' hE2'
  refine wpSeq_step rfl rfl (fun K hK => ?_)
  go_wp2_with fail
  refine (c_sSamePipe _ _ _ (HX.out.below b2) HY.out (PipSz.of_eq SP.out HE1.out)).mono ?_; rintro e wa3 ⟨rfl, b3⟩
  have s3 := seq_below s2 b3
  refine hK _ _ ⟨s3, ?_⟩; clear hK
  rw [spB_congr HE1.out HE2.out]
  refine wpSeq_held rfl (yields_move rfl _ (.inr rfl)) ?_
  refine wpSeq_nil ?_
  clear HX HY HE1 HE2
  replace hb := seq_below hb s3
  clear s0 s1 s2 s3 b1 b2 b3
  go_wp2_with (first | (refine wpList_load_cells rfl 68 _ rfl _ rfl (q1.below hb q1.lt) Try.underlying68 rfl info_pipl ?_))
  refine (c_toPipe _ _ (HP.out.below hb) SP.out).mono ?_; rintro e w3 ⟨x1, rfl, hX', hEX', b⟩
  replace hb := seq_below hb b; clear b
  have HX := Lib.hid hX'; have HEX := Lib.hid hEX'; clear hX' hEX'
  go_wp2_with (first | (refine wpList_store_newest (cells := x1.cells.toArray) rfl 54 _ _ rfl rfl rfl info_pip rfl rfl (fun w4 b4 hrX => ?_); replace HX := Lib.hid (HX.out.below b4); replace hb := seq_below hb b4; clear b4) | (refine wpList_load_cells rfl 68 _ rfl _ rfl (q2.below hb q2.lt) Try.underlying68 rfl info_pipl ?_))
  refine (c_toPipe _ _ (HQ.out.below hb) SQ.out).mono ?_; rintro e w5 ⟨x2, rfl, hY', hEY', b⟩
  replace HX := Lib.hid (HX.out.below b)
  replace hb := seq_below hb b; replace hrX := hrX.below b hrX.lt; clear b
  have HY := Lib.hid hY'; have HEY := Lib.hid hEY'; clear hY' hEY'
  go_wp2_with (first | (refine wpList_store_newest (cells := x2.cells.toArray) rfl 54 _ _ rfl rfl rfl info_pip rfl rfl (fun w6 b4 hrY => ?_); replace HX := Lib.hid (HX.out.below b4); replace HY := Lib.hid (HY.out.below b4); replace hb := seq_below hb b4; replace hrX := hrX.below b4 hrX.lt; clear b4) | (refine wpList_load_cells rfl 54 _ rfl _ rfl hrX Try.underlying54 rfl info_pip ?_) | (refine wpList_load_cells rfl 54 _ rfl _ rfl hrY Try.underlying54 rfl info_pip ?_))
  refine (c_iSamePipe _ _ _ HX.out HY.out (PipSz.of_eq SP.out HEX.out)).mono ?_; rintro e w7 ⟨rfl, b⟩
  replace HX := Lib.hid (HX.out.below b); replace HY := Lib.hid (HY.out.below b)
  replace hb := seq_below hb b; replace hrX := hrX.below b hrX.lt; replace hrY := hrY.below b hrY.lt; clear b
  rw [spB_congr HEX.out HEY.out]
  go_wp2_with fail
  have s0 := (Below.refl w7.heap.size w7).drew
  refine wp_region_seq (S := fun w' => Below w7.heap.size w7 w') [(true, 0), (true, 1), (false, 2), (false, 3), (false, 4)] (by kernel_rfl) (by kernel_rfl) (by kernel_rfl) (fun _ _ d _ _ h => by cases d <;> exact h) s0 ?_
  refine wpSeq_held rfl (yields_load_cells rfl _ _ rfl _ rfl hrX hrX.lt (fun _ h => h) Try.underlying54 rfl info_pip) ?_
  refine wpSeq_held rfl (yields_load_cells rfl _ _ rfl _ rfl (q1.below hb q1.lt) (q1.below hb q1.lt).lt (fun _ h => h) Try.underlying68 rfl info_pipl) ?_
  refine wpSeq_step rfl rfl (fun K hK => ?_)
  go_wp2_with fail
  refine (c_toPipe _ _ ((HP.out.below hb).below s0) SP.out).mono ?_; rintro e wr1 ⟨y1, rfl, hY', hE', b1⟩
  have s1 := seq_below s0 b1
  refine hK _ _ ⟨s1, ?_⟩; clear hK
  have RY := Lib.hid hY'; have RE := Lib.hid hE'; clear hY' hE'
  refine wpSeq_step rfl rfl (fun K hK => ?_)
  go_wp2_with fail
  refine (c_eqPipe _ _ _ ((HX.out.below s1)) RY.out (PipSz.of_eq SP.out HEX.out) (HEX.out.mid RE.out)).mono ?_; rintro e wr2 ⟨rfl, b2⟩
  have s2 := seq_below s1 b2
  refine hK _ _ ⟨s2, ?_⟩; clear hK
  refine wpSeq_step rfl rfl (fun K hK => ?_)
  go_wp2_with fail
  refine ⟨s2, ?_⟩
  refine wpSeq_nil ?_
  replace hb := seq_below hb s2; replace hrX := hrX.below s2 hrX.lt; replace hrY := hrY.below s2 hrY.lt
  replace HX := Lib.hid (HX.out.below s2); replace HY := Lib.hid (HY.out.below s2)
  clear s0 s1 s2 b1 b2 RY RE
  go_wp2_with fail
  have s0 := (Below.refl wr2.heap.size wr2).drew
  refine wp_region_seq (S := fun w' => Below wr2.heap.size wr2 w') [(true, 0), (true, 1), (false, 2), (false, 3), (false, 4)] (by kernel_rfl) (by kernel_rfl) (by kernel_rfl) (fun _ _ d _ _ h => by cases d <;> exact h) s0 ?_
  refine wpSeq_held rfl (yields_load_cells rfl _ _ rfl _ rfl hrY hrY.lt (fun _ h => h) Try.underlying54 rfl info_pip) ?_
  refine wpSeq_held rfl (yields_load_cells rfl _ _ rfl _ rfl (q2.below hb q2.lt) (q2.below hb q2.lt).lt (fun _ h => h) Try.underlying68 rfl info_pipl) ?_
  refine wpSeq_step rfl rfl (fun K hK => ?_)
  go_wp2_with fail
  refine (c_toPipe _ _ ((HQ.out.below hb).below s0) SQ.out).mono ?_; rintro e wr3 ⟨y3, rfl, hY', hE', b1⟩
  have s1 := seq_below s0 b1
  refine hK _ _ ⟨s1, ?_⟩; clear hK
  have RY := Lib.hid hY'; have RE := Lib.hid hE'; clear hY' hE'
  refine wpSeq_step rfl rfl (fun K hK => ?_)
  go_wp2_with fail
  refine (c_eqPipe _ _ _ ((HY.out.below s1)) RY.out (PipSz.of_eq SQ.out HEY.out) (HEY.out.mid RE.out)).mono ?_; rintro e wr4 ⟨rfl, b2⟩
  have s2 := seq_below s1 b2
  refine hK _ _ ⟨s2, ?_⟩; clear hK
  refine wpSeq_step rfl rfl (fun K hK => ?_)
  go_wp2_with fail
  refine ⟨s2, ?_⟩
  refine wpSeq_nil ?_
  replace hb := seq_below hb s2; replace hrX := hrX.below s2 hrX.lt; replace hrY := hrY.below s2 hrY.lt
  replace HX := Lib.hid (HX.out.below s2); replace HY := Lib.hid (HY.out.below s2)
  clear s0 s1 s2 b1 b2 RY RE
  go_wp2_with fail
  go_ret
  exact ⟨rfl, seq_below h0.out hb⟩
theorem walk (w : World) (p : PipV) (hp : PipAt w p) (fp : PipFit p) (q : PipV) (hq : PipAt w q) (fq : PipFit q) :
    Calls Try.prog 9 #[.agg p.cells.toArray, .agg q.cells.toArray] w fun e w' => e = .returned (.bool true) ∧ Below w.heap.size w w' := by
  by_cases hbig : 1048576 < (totP p : Int)
  · exact walk_big1 w p q hp hq fp hbig
  by_cases hbig2 : 1048576 - (totP p : Int) < (totP q : Int)
  · exact walk_big2 w p q hp hq fq (by omega) hbig2
  · exact walk_ok w p q hp hq (by omega) (by omega)

theorem own : ownKnob Try.prog.godebug = none := by kernel_rfl
theorem laidOut : laidOutB Try.prog = true := by kernel_rfl
set_option maxRecDepth 100000 in
set_option maxHeartbeats 1000000 in
theorem lifted (os : Os) (started : os.Started) (H : Type) (enc : TypeId × Value → H) :
    ReturnsInHanded {} Try.checked os 9 .any (Rows.fnExactSamePipeSpec.pre6 enc Try.prog Try.f9 [] false) (Rows.fnExactSamePipeSpec.post enc Try.prog Try.f9 false true false false) := by
  refine law_lifted (C := Try.checked) own started (by kernel_rfl) Try.func9
    (ChangeSpec.witness6 (enc := enc) (C := Try.checked) false ⟨#[], #[.agg (pipC none 0 0 none 0 0 none 0 0 ⟨0, 0, 0, 0, 0, 0⟩ false 0 0 0).toArray, .agg (pipC none 0 0 none 0 0 none 0 0 ⟨0, 0, 0, 0, 0, 0⟩ false 0 0 0).toArray], []⟩ 8 (by kernel_rfl) (by kernel_rfl) (by kernel_rfl) (by kernel_rfl))
    rfl 2 rfl (fun ds h => by match ds, h with | [d0, d1], _ => exact ⟨rfl, rfl, rfl⟩) laidOut (of_decide_eq_true (by kernel_rfl)) 4 Try.underlying4 rfl ?_
  intro W base args ds p hval hA
  rw [Try.params9] at hA hval
  obtain ⟨v0, v1, d0, d1, p0, p1, rfl, rfl, rfl, h0, h1⟩ := trodAll_two hA
  obtain ⟨A0, c0, rs0, B0, d0, qs0, C0, e0, xs0, F0, o0, l0, r0, s0, rfl, ha0, hb0, hc0, f10, f20, f30, f40, f50⟩ := open_pipe pipT (hval 0 _ _ rfl rfl) h0
  obtain ⟨A1, c1, rs1, B1, d1, qs1, C1, e1, xs1, F1, o1, l1, r1, s1, rfl, ha1, hb1, hc1, f11, f21, f31, f41, f51⟩ := open_pipe pipT (hval 1 _ _ rfl rfl) h1
  exact walk W ⟨A0, c0, rs0, B0, d0, qs0, C0, e0, xs0, F0, o0, l0, r0, s0⟩ ⟨ha0, hb0, hc0⟩ ⟨⟨f10, f20⟩, ⟨f30, f40⟩, f50⟩ ⟨A1, c1, rs1, B1, d1, qs1, C1, e1, xs1, F1, o1, l1, r1, s1⟩ ⟨ha1, hb1, hc1⟩ ⟨⟨f11, f21⟩, ⟨f31, f41⟩, f51⟩
theorem over : Rows.fnExactSamePipeRow.holds Try.pinned (OpenSpec.ofChange Rows.fnExactSamePipeSpec) :=
  OpenClaim.holds_of_wide 9 Try.f9 rfl rfl rfl rfl rfl rfl rfl ⟨rfl, rfl, rfl, rfl, rfl⟩ rfl rfl rfl rfl rfl (by kernel_rfl) Try.func9 (by kernel_rfl)
    (of_decide_eq_true (by kernel_rfl)) (by unfold Func.isWrapper; first | (rw [if_pos (by decide +kernel)]; kernel_rfl) | (rw [if_neg (by decide +kernel)]; exact ⟨rfl, rfl⟩))
    (fun os started H enc _ => lifted os started H enc)
/-- THE STATEMENT. -/
theorem proved : Rows.FnExactSamePipeSaid := over
#print axioms proved
end Go.Proofs.Ytpchebclhjgcmaa.fnExactSamePipe
