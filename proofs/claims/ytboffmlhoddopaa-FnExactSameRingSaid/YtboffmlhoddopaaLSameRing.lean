/- The statement Rows.FnExactSameRingSaid: the law FnExactSameRing returns true for every input, and its arguments read as before. No condition. -/
import Derived.Test.YtboffmlhoddopaaRows
import Derived.Test.YtboffmlhoddopaaSv
namespace Go.Proofs.Ytboffmlhoddopaa.fnExactSameRing
open Go.ChangeShapes Go.WideShapes Go.ChangeAt Go.RowKit Go.Fl

set_option maxRecDepth 20000 in
set_option maxHeartbeats 2000000 in
theorem walk (w : World) (A : Option Addr) (c : Nat) (xs : List Nat) (a0 : Int) (hs : Sl w A xs) (_ : (Lit.int .i64 a0).wf = true) (hm : xs.length ≤ maxLen) (B : Option Addr) (d : Nat) (ys : List Nat) (b0 : Int) (ht : Sl w B ys) (_ : (Lit.int .i64 b0).wf = true) (hm2 : ys.length ≤ maxLen) :
    Calls Try.prog 10 #[.agg #[.slice A xs.length c, .int .i64 a0], .agg #[.slice B ys.length d, .int .i64 b0]] w fun e w' => e = .returned (.bool true) ∧ Below w.heap.size w w' := by
  have q1 : Row ((w.alloc (.cells #[.slice A xs.length c, .int .i64 a0] 39)).alloc (.cells #[.slice B ys.length d, .int .i64 b0] 39)) w.heap.size #[.slice A xs.length c, .int .i64 a0] 39 := (Row.new _ _ _ _ rfl).alloc _
  have q2 : Row ((w.alloc (.cells #[.slice A xs.length c, .int .i64 a0] 39)).alloc (.cells #[.slice B ys.length d, .int .i64 b0] 39)) (w.heap.size + 1) #[.slice B ys.length d, .int .i64 b0] 39 := Row.new _ _ _ _ (by simp)
  have hb := Go.Joins.below_alloc2 w (.cells #[.slice A xs.length c, .int .i64 a0] 39) (.cells #[.slice B ys.length d, .int .i64 b0] 39)
  have HM := Lib.hid (show (xs.length : Int) ≤ 9223372036854775807 from by unfold maxLen at hm; omega)
  have HM2 := Lib.hid (show (ys.length : Int) ≤ 9223372036854775807 from by unfold maxLen at hm2; omega)
  have HS := Lib.hid (hs.below hb); have HT := Lib.hid (ht.below hb); clear hs ht hm hm2
  by_cases hbig : 1048576 < (xs.length : Int)
  · have HB := Lib.hid hbig; clear hbig
    go_enter Try.func10, Try.ntmps10
    go_wp2_with (first
    | (refine wpList_load_cells rfl 39 _ rfl _ rfl q1 Try.underlying39 rfl info_lring ?_)
    | (refine wpList_load_cells rfl 39 _ rfl _ rfl q2 Try.underlying39 rfl info_lring ?_)
      | (go_at_call 25; refine (c_szRing_big _ _ _ _ _ HB.out HM.out).mono ?_; rintro e w1 ⟨rfl, b⟩))
    go_ret
    exact ⟨rfl, seq_below hb b⟩
  have HB := Lib.hid (show (xs.length : Int) ≤ 1048576 from by omega)
  have hpos : ¬ (1048576 - (xs.length : Int) < 0) := by omega
  have HP := Lib.hid (show (0 : Int) ≤ 1048576 - (xs.length : Int) from by omega)
  have HP2 := Lib.hid (show 1048576 - (xs.length : Int) ≤ 1048576 from by omega)
  clear hbig
  by_cases hbig : 1048576 - (xs.length : Int) < (ys.length : Int)
  · have HB2 := Lib.hid hbig; clear hbig
    go_enter Try.func10, Try.ntmps10
    go_wp2_with (first
    | (refine wpList_load_cells rfl 39 _ rfl _ rfl q1 Try.underlying39 rfl info_lring ?_)
    | (refine wpList_load_cells rfl 39 _ rfl _ rfl q2 Try.underlying39 rfl info_lring ?_)
      | (have _ := m1; go_at_call 25; refine (c_szRingL_big _ _ _ _ _ _ HP.out HP2.out HB2.out HM2.out).mono ?_; rintro e w1 ⟨rfl, b⟩)
      | (go_at_call 25; refine (c_szRing _ _ _ _ _ HB.out).mono ?_; rintro e w1 ⟨rfl, b⟩; replace q1 := q1.below b q1.lt; replace q2 := q2.below b q2.lt; replace hb := seq_below hb b; replace HS := Lib.hid (HS.out.below b); replace HT := Lib.hid (HT.out.below b); clear b; have m1 := True.intro))
    go_ret
    exact ⟨rfl, seq_below hb b⟩
  have HB2 := Lib.hid (show (ys.length : Int) ≤ 1048576 - (xs.length : Int) from by omega)
  have hpos2 : ¬ (1048576 - (xs.length : Int) - (ys.length : Int) < 0) := by omega
  have HL := Lib.hid (show xs.length ≤ 4294967296 from by omega)
  have HL2 := Lib.hid (show ys.length ≤ 4294967296 from by omega)
  have HI := Lib.hid (show (xs.length : Int) ≤ 4294967296 from by omega)
  clear hbig
  go_enter Try.func10, Try.ntmps10
  go_wp2_with (first
    | (refine wpList_load_cells rfl 39 _ rfl _ rfl q1 Try.underlying39 rfl info_lring ?_)
    | (refine wpList_load_cells rfl 39 _ rfl _ rfl q2 Try.underlying39 rfl info_lring ?_)
    | (have _ := m1; go_at_call 25; refine (c_szRingL _ _ _ _ _ _ HP2.out HB2.out).mono ?_; rintro e w2 ⟨rfl, b⟩; replace q1 := q1.below b q1.lt; replace q2 := q2.below b q2.lt; replace hb := seq_below hb b; replace HS := Lib.hid (HS.out.below b); replace HT := Lib.hid (HT.out.below b); clear b)
    | (go_at_call 25; refine (c_szRing _ _ _ _ _ HB.out).mono ?_; rintro e w1 ⟨rfl, b⟩; replace q1 := q1.below b q1.lt; replace q2 := q2.below b q2.lt; replace hb := seq_below hb b; replace HS := Lib.hid (HS.out.below b); replace HT := Lib.hid (HT.out.below b); clear b; have m1 := True.intro))
  clear m1
  have s0 := (Below.refl w2.heap.size w2).drew
  refine wp_region_seq (S := fun w' => Below w2.heap.size w2 w') [(true, 0), (true, 2), (false, 1), (false, 3), (false, 4), (true, 5)] (by kernel_rfl) (by kernel_rfl) (by kernel_rfl) (fun _ _ d _ _ h => by cases d <;> exact h) s0 ?_
  refine wpSeq_held rfl (yields_load_cells rfl _ _ rfl _ rfl q1 q1.lt (fun _ h => h) Try.underlying39 rfl info_lring) ?_
  refine wpSeq_held rfl (yields_load_cells rfl _ _ rfl _ rfl q2 q2.lt (fun _ h => h) Try.underlying39 rfl info_lring) ?_
  refine wpSeq_step rfl rfl (fun K hK => ?_)
  go_wp2_with fail
  refine (c_toRing _ _ _ _ _ (HS.out.below s0) HL.out).mono ?_; rintro e w3 ⟨g1, rfl, hX, _, b1⟩
  have s1 := seq_below s0 b1
  refine hK _ _ ⟨s1, ?_⟩; clear hK
  refine wpSeq_step rfl rfl (fun K hK => ?_)
  go_wp2_with fail
  refine (c_toRing _ _ _ _ _ (HT.out.below s1) HL2.out).mono ?_; rintro e w4 ⟨g2, rfl, hY, _, b2⟩
  have s2 := seq_below s1 b2
  refine hK _ _ ⟨s2, ?_⟩; clear hK
  refine wpSeq_step rfl rfl (fun K hK => ?_)
  go_wp2_with fail
  refine (c_sSameRing _ _ _ _ _ _ _ _ _ (Sl.of_blk (hX.below b2 hX.lt)) (Sl.of_blk hY) HI.out).mono ?_; rintro e w5 ⟨rfl, b3⟩
  have s3 := seq_below s2 b3
  refine hK _ _ ⟨s3, ?_⟩; clear hK
  refine wpSeq_held rfl (yields_move rfl _ (.inr rfl)) ?_
  refine wpSeq_nil ?_
  clear hX hY
  replace q1 := q1.below s3 q1.lt; replace q2 := q2.below s3 q2.lt; replace hb := seq_below hb s3; replace HS := Lib.hid (HS.out.below s3); replace HT := Lib.hid (HT.out.below s3); clear s0 s1 s2 s3 b1 b2 b3
  go_wp2_with (first
    | (refine wpList_load_cells rfl 39 _ rfl _ rfl q1 Try.underlying39 rfl info_lring ?_)
    | (refine wpList_load_cells rfl 39 _ rfl _ rfl q2 Try.underlying39 rfl info_lring ?_)
    | (have _ := m1; go_at_call 27; refine (c_toRing _ _ _ _ _ (HT.out) HL2.out).mono ?_; rintro e w6 ⟨gY, rfl, hY, _, b⟩)
    | (go_at_call 27; refine (c_toRing _ _ _ _ _ (HS.out) HL.out).mono ?_; rintro e w6 ⟨gX, rfl, hX, _, b⟩)
    | (have _ := m1; refine wpList_store_newest (cells := #[.slice (some ⟨gY, 0, none⟩) ys.length ys.length, .int .i64 b0]) rfl 42 _ _ rfl rfl rfl info_ring rfl rfl (fun w7 b4 hR2 => ?_); replace b := seq_below b b4; replace hY := hY.below b4 hY.lt; replace q1 := q1.below b q1.lt; replace q2 := q2.below b q2.lt; replace hb := seq_below hb b; replace HS := Lib.hid (HS.out.below b); replace HT := Lib.hid (HT.out.below b); replace hX := hX.below b hX.lt; replace hR1 := hR1.below b hR1.lt; clear b b4)
    | (refine wpList_store_newest (cells := #[.slice (some ⟨gX, 0, none⟩) xs.length xs.length, .int .i64 a0]) rfl 42 _ _ rfl rfl rfl info_ring rfl rfl (fun w7 b4 hR1 => ?_); replace b := seq_below b b4; replace hX := hX.below b4 hX.lt; replace q1 := q1.below b q1.lt; replace q2 := q2.below b q2.lt; replace hb := seq_below hb b; replace HS := Lib.hid (HS.out.below b); replace HT := Lib.hid (HT.out.below b); clear b b4; have m1 := True.intro)
    | (refine wpList_load_cells rfl 42 _ rfl _ rfl hR1 Try.underlying42 rfl info_ring ?_)
    | (refine wpList_load_cells rfl 42 _ rfl _ rfl hR2 Try.underlying42 rfl info_ring ?_)
    | (go_at_call 38; refine (c_iSameRing _ _ _ _ _ _ _ _ _ (Sl.of_blk hX) (Sl.of_blk hY) HI.out).mono ?_; rintro e w8 ⟨rfl, b⟩; replace q1 := q1.below b q1.lt; replace q2 := q2.below b q2.lt; replace hb := seq_below hb b; replace HS := Lib.hid (HS.out.below b); replace HT := Lib.hid (HT.out.below b); replace hX := hX.below b hX.lt; replace hY := hY.below b hY.lt; replace hR1 := hR1.below b hR1.lt; replace hR2 := hR2.below b hR2.lt; clear b))
  have s0 := (Below.refl w8.heap.size w8).drew
  refine wp_region_seq (S := fun w' => Below w8.heap.size w8 w') [(true, 0), (true, 1), (false, 2), (false, 3), (false, 4)] (by kernel_rfl) (by kernel_rfl) (by kernel_rfl) (fun _ _ d _ _ h => by cases d <;> exact h) s0 ?_
  refine wpSeq_held rfl (yields_load_cells rfl _ _ rfl _ rfl hR1 hR1.lt (fun _ h => h) Try.underlying42 rfl info_ring) ?_
  refine wpSeq_held rfl (yields_load_cells rfl _ _ rfl _ rfl q1 q1.lt (fun _ h => h) Try.underlying39 rfl info_lring) ?_
  refine wpSeq_step rfl rfl (fun K hK => ?_)
  go_wp2_with fail
  refine (c_toRing _ _ _ _ _ (HS.out.below s0) HL.out).mono ?_; rintro e w9 ⟨gZ, rfl, hZ, _, b1⟩
  have s1 := seq_below s0 b1
  refine hK _ _ ⟨s1, ?_⟩; clear hK
  refine wpSeq_step rfl rfl (fun K hK => ?_)
  go_wp2_with fail
  refine (c_eqRing _ _ _ _ _ _ _ _ (Sl.of_blk (hX.below s1 hX.lt)) (Sl.of_blk hZ) rfl HL.out (fun _ _ => rfl)).mono ?_; rintro e w10 ⟨rfl, b2⟩
  have s2 := seq_below s1 b2
  refine hK _ _ ⟨s2, ?_⟩; clear hK
  refine wpSeq_step rfl rfl (fun K hK => ?_)
  go_wp2_with fail
  refine ⟨s2, ?_⟩
  refine wpSeq_nil ?_
  clear hZ
  replace q1 := q1.below s2 q1.lt; replace q2 := q2.below s2 q2.lt; replace hb := seq_below hb s2; replace HS := Lib.hid (HS.out.below s2); replace HT := Lib.hid (HT.out.below s2); replace hX := hX.below s2 hX.lt; replace hY := hY.below s2 hY.lt; replace hR1 := hR1.below s2 hR1.lt; replace hR2 := hR2.below s2 hR2.lt
  clear s0 s1 s2 b1 b2
  go_wp2_with fail
  have s0 := (Below.refl w10.heap.size w10).drew
  refine wp_region_seq (S := fun w' => Below w10.heap.size w10 w') [(true, 0), (true, 1), (false, 2), (false, 3), (false, 4)] (by kernel_rfl) (by kernel_rfl) (by kernel_rfl) (fun _ _ d _ _ h => by cases d <;> exact h) s0 ?_
  refine wpSeq_held rfl (yields_load_cells rfl _ _ rfl _ rfl hR2 hR2.lt (fun _ h => h) Try.underlying42 rfl info_ring) ?_
  refine wpSeq_held rfl (yields_load_cells rfl _ _ rfl _ rfl q2 q2.lt (fun _ h => h) Try.underlying39 rfl info_lring) ?_
  refine wpSeq_step rfl rfl (fun K hK => ?_)
  go_wp2_with fail
  refine (c_toRing _ _ _ _ _ (HT.out.below s0) HL2.out).mono ?_; rintro e w11 ⟨gZ, rfl, hZ, _, b1⟩
  have s1 := seq_below s0 b1
  refine hK _ _ ⟨s1, ?_⟩; clear hK
  refine wpSeq_step rfl rfl (fun K hK => ?_)
  go_wp2_with fail
  refine (c_eqRing _ _ _ _ _ _ _ _ (Sl.of_blk (hY.below s1 hY.lt)) (Sl.of_blk hZ) rfl HL2.out (fun _ _ => rfl)).mono ?_; rintro e w12 ⟨rfl, b2⟩
  have s2 := seq_below s1 b2
  refine hK _ _ ⟨s2, ?_⟩; clear hK
  refine wpSeq_step rfl rfl (fun K hK => ?_)
  go_wp2_with fail
  refine ⟨s2, ?_⟩
  refine wpSeq_nil ?_
  clear hZ
  replace hb := seq_below hb s2
  clear s0 s1 s2 b1 b2
  go_wp2_with fail
  go_ret
  exact ⟨rfl, hb⟩

theorem own : ownKnob Try.prog.godebug = none := by kernel_rfl
theorem laidOut : laidOutB Try.prog = true := by kernel_rfl
set_option maxRecDepth 100000 in
theorem lifted (os : Os) (started : os.Started) (H : Type) (enc : TypeId × Value → H) :
    ReturnsInHanded {} Try.checked os 10 .any (Rows.fnExactSameRingSpec.pre6 enc Try.prog Try.f10 [] false) (Rows.fnExactSameRingSpec.post enc Try.prog Try.f10 false true false false) := by
  refine law_lifted (C := Try.checked) own started (by kernel_rfl) Try.func10
    (ChangeSpec.witness6 (enc := enc) (C := Try.checked) false ⟨#[], #[.agg #[.slice none 0 0, .int .i64 0], .agg #[.slice none 0 0, .int .i64 0]], []⟩ 8 (by kernel_rfl) (by kernel_rfl) (by kernel_rfl) (by kernel_rfl))
    rfl 2 rfl (fun ds h => by match ds, h with | [d0, d1], _ => exact ⟨rfl, rfl, rfl⟩) laidOut (of_decide_eq_true (by kernel_rfl)) 4 Try.underlying4 rfl ?_
  intro W base args ds p hval hA
  rw [Try.params10] at hA hval
  obtain ⟨v0, v1, d0, d1, p0, p1, rfl, rfl, rfl, h0, h1⟩ := trodAll_two hA
  obtain ⟨A0, c0, xs0, n0, rfl, hs0, hw0, hm0⟩ := open_ring Try.underlying39 rfl rfl (by kernel_rfl) (by kernel_rfl) (by kernel_rfl) Try.underlying37 Try.underlying22 (by kernel_rfl) Try.underlying2 (hval 0 _ _ rfl rfl) h0
  obtain ⟨A1, c1, xs1, n1, rfl, hs1, hw1, hm1⟩ := open_ring Try.underlying39 rfl rfl (by kernel_rfl) (by kernel_rfl) (by kernel_rfl) Try.underlying37 Try.underlying22 (by kernel_rfl) Try.underlying2 (hval 1 _ _ rfl rfl) h1
  exact walk W A0 c0 xs0 n0 hs0 hw0 hm0 A1 c1 xs1 n1 hs1 hw1 hm1
theorem over : Rows.fnExactSameRingRow.holds Try.pinned (OpenSpec.ofChange Rows.fnExactSameRingSpec) :=
  OpenClaim.holds_of_wide 10 Try.f10 rfl rfl rfl rfl rfl rfl rfl ⟨rfl, rfl, rfl, rfl, rfl⟩ rfl rfl rfl rfl rfl (by kernel_rfl) Try.func10 (by kernel_rfl)
    (of_decide_eq_true (by kernel_rfl)) (by unfold Func.isWrapper; first | (rw [if_pos (by decide +kernel)]; kernel_rfl) | (rw [if_neg (by decide +kernel)]; exact ⟨rfl, rfl⟩))
    (fun os started H enc _ => lifted os started H enc)
/-- THE STATEMENT. -/
theorem proved : Rows.FnExactSameRingSaid := over
#print axioms proved
end Go.Proofs.Ytboffmlhoddopaa.fnExactSameRing
