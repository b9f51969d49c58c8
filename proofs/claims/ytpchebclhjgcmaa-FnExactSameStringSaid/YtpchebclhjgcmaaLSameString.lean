/- The statement Rows.FnExactSameStringSaid: the law FnExactSameString returns true for every input, and its arguments read as before. No condition. -/
import Derived.Test.YtpchebclhjgcmaaRows
import Derived.Test.YtpchebclhjgcmaaHg
namespace Go.Proofs.Ytpchebclhjgcmaa.fnExactSameString
open Go.ChangeShapes Go.WideShapes Go.ChangeAt Go.RowKit Go.Fl

set_option maxRecDepth 20000 in
set_option maxHeartbeats 2000000 in
theorem walk_big1 (w : World) (A : Option Addr) (c : Nat) (xs : List Nat) (a0 : Int) (F G : Fil) (l : Nat) (B : Option Addr) (d : Nat) (ys : List Nat) (b0 : Int) (F' G' : Fil) (l' : Nat) (hm : (xs.length : Int) ≤ 9223372036854775807) (hbig : 1048576 < (xs.length : Int)) :
    Calls Try.prog 3 #[.agg (strC A xs.length c a0 F G l).toArray, .agg (strC B ys.length d b0 F' G' l').toArray] w fun e w' => e = .returned (.bool true) ∧ Below w.heap.size w w' := by
  have q1 : Row ((w.alloc (.cells (strC A xs.length c a0 F G l).toArray 31)).alloc (.cells (strC B ys.length d b0 F' G' l').toArray 31)) w.heap.size (strC A xs.length c a0 F G l).toArray 31 := (Row.new _ _ _ _ rfl).alloc _
  have q2 : Row ((w.alloc (.cells (strC A xs.length c a0 F G l).toArray 31)).alloc (.cells (strC B ys.length d b0 F' G' l').toArray 31)) (w.heap.size + 1) (strC B ys.length d b0 F' G' l').toArray 31 := Row.new _ _ _ _ (by simp)
  have h0 := Lib.hid (Go.Joins.below_alloc2 w (.cells (strC A xs.length c a0 F G l).toArray 31) (.cells (strC B ys.length d b0 F' G' l').toArray 31))
  have hb := Below.refl ((w.alloc (.cells (strC A xs.length c a0 F G l).toArray 31)).alloc (.cells (strC B ys.length d b0 F' G' l').toArray 31)).heap.size ((w.alloc (.cells (strC A xs.length c a0 F G l).toArray 31)).alloc (.cells (strC B ys.length d b0 F' G' l').toArray 31))
  have HB := Lib.hid hbig; have HM := Lib.hid hm; clear hbig hm
  go_enter Try.func3, Try.ntmps3
  go_wp2_with (first
    | (refine wpList_load_cells rfl 31 _ rfl _ rfl (q1.below hb q1.lt) Try.underlying31 rfl info_strl ?_)
    | (go_at_call 10; refine (c_szString_big _ _ _ _ _ _ _ _ _ (by decide) (by decide) HB.out HM.out).mono ?_; rintro e w1 ⟨rfl, b⟩))
  go_ret
  exact ⟨rfl, seq_below h0.out (seq_below hb b)⟩
set_option maxRecDepth 20000 in
set_option maxHeartbeats 2000000 in
theorem walk_big2 (w : World) (A : Option Addr) (c : Nat) (xs : List Nat) (a0 : Int) (F G : Fil) (l : Nat) (B : Option Addr) (d : Nat) (ys : List Nat) (b0 : Int) (F' G' : Fil) (l' : Nat) (hn : (xs.length : Int) ≤ 1048576) (hm : (ys.length : Int) ≤ 9223372036854775807) (hbig : 1048576 - (xs.length : Int) < (ys.length : Int)) :
    Calls Try.prog 3 #[.agg (strC A xs.length c a0 F G l).toArray, .agg (strC B ys.length d b0 F' G' l').toArray] w fun e w' => e = .returned (.bool true) ∧ Below w.heap.size w w' := by
  have q1 : Row ((w.alloc (.cells (strC A xs.length c a0 F G l).toArray 31)).alloc (.cells (strC B ys.length d b0 F' G' l').toArray 31)) w.heap.size (strC A xs.length c a0 F G l).toArray 31 := (Row.new _ _ _ _ rfl).alloc _
  have q2 : Row ((w.alloc (.cells (strC A xs.length c a0 F G l).toArray 31)).alloc (.cells (strC B ys.length d b0 F' G' l').toArray 31)) (w.heap.size + 1) (strC B ys.length d b0 F' G' l').toArray 31 := Row.new _ _ _ _ (by simp)
  have h0 := Lib.hid (Go.Joins.below_alloc2 w (.cells (strC A xs.length c a0 F G l).toArray 31) (.cells (strC B ys.length d b0 F' G' l').toArray 31))
  have hb := Below.refl ((w.alloc (.cells (strC A xs.length c a0 F G l).toArray 31)).alloc (.cells (strC B ys.length d b0 F' G' l').toArray 31)).heap.size ((w.alloc (.cells (strC A xs.length c a0 F G l).toArray 31)).alloc (.cells (strC B ys.length d b0 F' G' l').toArray 31))
  have hpos : ¬ (1048576 - (xs.length : Int) < 0) := by omega
  have HB := Lib.hid hn; have HP := Lib.hid (show (0 : Int) ≤ 1048576 - (xs.length : Int) from by omega); have HP2 := Lib.hid (show 1048576 - (xs.length : Int) ≤ 1048576 from by omega); have HB2 := Lib.hid hbig; have HM := Lib.hid hm; clear hn hbig hm
  go_enter Try.func3, Try.ntmps3
  go_wp2_with (first | (refine wpList_load_cells rfl 31 _ rfl _ rfl (q1.below hb q1.lt) Try.underlying31 rfl info_strl ?_))
  refine (c_szString _ _ _ _ _ _ _ _ _ (by decide) HB.out).mono ?_; rintro e w1 ⟨rfl, b⟩
  replace hb := seq_below hb b; clear b
  go_wp2_with (first | (refine wpList_load_cells rfl 31 _ rfl _ rfl (q2.below hb q2.lt) Try.underlying31 rfl info_strl ?_))
  refine (c_szString_big _ _ _ _ _ _ _ _ _ HP.out HP2.out HB2.out HM.out).mono ?_; rintro e w2 ⟨rfl, b⟩
  replace hb := seq_below hb b; clear b
  go_wp2_with fail
  go_ret
  exact ⟨rfl, seq_below h0.out hb⟩
set_option maxRecDepth 20000 in
set_option maxHeartbeats 2000000 in
theorem walk_ok (w : World) (A : Option Addr) (c : Nat) (xs : List Nat) (a0 : Int) (F G : Fil) (l : Nat) (B : Option Addr) (d : Nat) (ys : List Nat) (b0 : Int) (F' G' : Fil) (l' : Nat) (hs : Sl w A xs) (ht : Sl w B ys) (hn : (xs.length : Int) ≤ 1048576) (hn2 : (ys.length : Int) ≤ 1048576 - (xs.length : Int)) :
    Calls Try.prog 3 #[.agg (strC A xs.length c a0 F G l).toArray, .agg (strC B ys.length d b0 F' G' l').toArray] w fun e w' => e = .returned (.bool true) ∧ Below w.heap.size w w' := by
  have q1 : Row ((w.alloc (.cells (strC A xs.length c a0 F G l).toArray 31)).alloc (.cells (strC B ys.length d b0 F' G' l').toArray 31)) w.heap.size (strC A xs.length c a0 F G l).toArray 31 := (Row.new _ _ _ _ rfl).alloc _
  have q2 : Row ((w.alloc (.cells (strC A xs.length c a0 F G l).toArray 31)).alloc (.cells (strC B ys.length d b0 F' G' l').toArray 31)) (w.heap.size + 1) (strC B ys.length d b0 F' G' l').toArray 31 := Row.new _ _ _ _ (by simp)
  have h0 := Lib.hid (Go.Joins.below_alloc2 w (.cells (strC A xs.length c a0 F G l).toArray 31) (.cells (strC B ys.length d b0 F' G' l').toArray 31))
  have hb := Below.refl ((w.alloc (.cells (strC A xs.length c a0 F G l).toArray 31)).alloc (.cells (strC B ys.length d b0 F' G' l').toArray 31)).heap.size ((w.alloc (.cells (strC A xs.length c a0 F G l).toArray 31)).alloc (.cells (strC B ys.length d b0 F' G' l').toArray 31))
  have HS := Lib.hid (hs.below h0.out); have HT := Lib.hid (ht.below h0.out); clear hs ht
  have hpos : ¬ (1048576 - (xs.length : Int) < 0) := by omega
  have hpos2 : ¬ (1048576 - (xs.length : Int) - (ys.length : Int) < 0) := by omega
  have HB := Lib.hid hn; have HP2 := Lib.hid (show 1048576 - (xs.length : Int) ≤ 1048576 from by omega); have HB2 := Lib.hid hn2; have HL := Lib.hid (show xs.length ≤ 4294967296 from by omega); have HL2 := Lib.hid (show ys.length ≤ 4294967296 from by omega); have HI := Lib.hid (show (xs.length : Int) ≤ 4294967296 from by omega)
  clear hn hn2
  have hvv : (ssB xs ys a0 b0 F F' G G' l l' != ssB xs ys a0 b0 F F' G G' l l') = false := by simp
  go_enter Try.func3, Try.ntmps3
  go_wp2_with (first | (refine wpList_load_cells rfl 31 _ rfl _ rfl (q1.below hb q1.lt) Try.underlying31 rfl info_strl ?_))
  refine (c_szString _ _ _ _ _ _ _ _ _ (by decide) HB.out).mono ?_; rintro e w1 ⟨rfl, b⟩
  replace hb := seq_below hb b; clear b
  go_wp2_with (first | (refine wpList_load_cells rfl 31 _ rfl _ rfl (q2.below hb q2.lt) Try.underlying31 rfl info_strl ?_))
  refine (c_szString _ _ _ _ _ _ _ _ _ HP2.out HB2.out).mono ?_; rintro e w2 ⟨rfl, b⟩
  replace hb := seq_below hb b; clear b
  go_wp2_with fail
  have s0 := (Below.refl w2.heap.size w2).drew
  refine wp_region_seq (S := fun w' => Below w2.heap.size w2 w') [(true, 0), (true, 2), (false, 1), (false, 3), (false, 4), (true, 5)] (by kernel_rfl) (by kernel_rfl) (by kernel_rfl) (fun _ _ d _ _ h => by cases d <;> exact h) s0 ?_
  refine wpSeq_held rfl (yields_load_cells rfl _ _ rfl _ rfl (q1.below hb q1.lt) (q1.below hb q1.lt).lt (fun _ h => h) Try.underlying31 rfl info_strl) ?_
  refine wpSeq_held rfl (yields_load_cells rfl _ _ rfl _ rfl (q2.below hb q2.lt) (q2.below hb q2.lt).lt (fun _ h => h) Try.underlying31 rfl info_strl) ?_
  refine wpSeq_step rfl rfl (fun K hK => ?_)
  go_wp2_with fail
  refine (c_toString _ _ _ _ _ _ _ _ ((HS.out.below hb).below s0) HL.out).mono ?_; rintro e wa1 ⟨g1, rfl, hX, _, b1⟩
  have s1 := seq_below s0 b1
  refine hK _ _ ⟨s1, ?_⟩; clear hK
  refine wpSeq_step rfl rfl (fun K hK => ?_)
  go_wp2_with fail
  refine (c_toString _ _ _ _ _ _ _ _ ((HT.out.below hb).below s1) HL2.out).mono ?_; rintro e wa2 ⟨g2, rfl, hY, _, b2⟩
  have s2 := seq_below s1 b2
  refine hK _ _ ⟨s2, ?_⟩; clear hK
  refine wpSeq_step rfl rfl (fun K hK => ?_)
  go_wp2_with fail
  refine (c_sSameString _ _ _ _ _ _ _ _ _ _ _ _ _ _ _ (Sl.of_blk (hX.below b2 hX.lt)) (Sl.of_blk hY) HI.out).mono ?_; rintro e wa3 ⟨rfl, b3⟩
  have s3 := seq_below s2 b3
  refine hK _ _ ⟨s3, ?_⟩; clear hK
  refine wpSeq_held rfl (yields_move rfl _ (.inr rfl)) ?_
  refine wpSeq_nil ?_
  clear hX hY
  replace hb := seq_below hb s3
  clear s0 s1 s2 s3 b1 b2 b3
  go_wp2_with (first | (refine wpList_load_cells rfl 31 _ rfl _ rfl (q1.below hb q1.lt) Try.underlying31 rfl info_strl ?_))
  refine (c_toString _ _ _ _ _ _ _ _ (HS.out.below hb) HL.out).mono ?_; rintro e w3 ⟨gX, rfl, hX, hgX, b⟩
  clear hgX
  replace hb := seq_below hb b; clear b
  go_wp2_with (first | (refine wpList_store_newest (cells := (strC (some ⟨gX, 0, none⟩) xs.length xs.length a0 F G l).toArray) rfl 37 _ _ rfl rfl rfl info_str rfl rfl (fun w4 b4 hrX => ?_); replace hb := seq_below hb b4; replace hX := hX.below b4 hX.lt; clear b4) | (refine wpList_load_cells rfl 31 _ rfl _ rfl (q2.below hb q2.lt) Try.underlying31 rfl info_strl ?_))
  refine (c_toString _ _ _ _ _ _ _ _ (HT.out.below hb) HL2.out).mono ?_; rintro e w5 ⟨gY, rfl, hY, hgY, b⟩
  clear hgY
  replace hb := seq_below hb b; replace hX := hX.below b hX.lt; replace hrX := hrX.below b hrX.lt; clear b
  go_wp2_with (first | (refine wpList_store_newest (cells := (strC (some ⟨gY, 0, none⟩) ys.length ys.length b0 F' G' l').toArray) rfl 37 _ _ rfl rfl rfl info_str rfl rfl (fun w6 b4 hrY => ?_); replace hb := seq_below hb b4; replace hX := hX.below b4 hX.lt; replace hrX := hrX.below b4 hrX.lt; replace hY := hY.below b4 hY.lt; clear b4) | (refine wpList_load_cells rfl 37 _ rfl _ rfl hrX Try.underlying37 rfl info_str ?_) | (refine wpList_load_cells rfl 37 _ rfl _ rfl hrY Try.underlying37 rfl info_str ?_))
  refine (c_iSameString _ _ _ _ _ _ _ _ _ _ _ _ _ _ _ (Sl.of_blk hX) (Sl.of_blk hY) HI.out).mono ?_; rintro e w7 ⟨rfl, b⟩
  replace hb := seq_below hb b; replace hX := hX.below b hX.lt; replace hrX := hrX.below b hrX.lt; replace hY := hY.below b hY.lt; replace hrY := hrY.below b hrY.lt; clear b
  go_wp2_with fail
  have s0 := (Below.refl w7.heap.size w7).drew
  refine wp_region_seq (S := fun w' => Below w7.heap.size w7 w') [(true, 0), (true, 1), (false, 2), (false, 3), (false, 4)] (by kernel_rfl) (by kernel_rfl) (by kernel_rfl) (fun _ _ d _ _ h => by cases d <;> exact h) s0 ?_
  refine wpSeq_held rfl (yields_load_cells rfl _ _ rfl _ rfl hrX hrX.lt (fun _ h => h) Try.underlying37 rfl info_str) ?_
  refine wpSeq_held rfl (yields_load_cells rfl _ _ rfl _ rfl (q1.below hb q1.lt) (q1.below hb q1.lt).lt (fun _ h => h) Try.underlying31 rfl info_strl) ?_
  refine wpSeq_step rfl rfl (fun K hK => ?_)
  go_wp2_with fail
  refine (c_toString _ _ _ _ _ _ _ _ ((HS.out.below hb).below s0) HL.out).mono ?_; rintro e wr1 ⟨gYY, rfl, hYY, _, b1⟩
  have s1 := seq_below s0 b1
  refine hK _ _ ⟨s1, ?_⟩; clear hK
  refine wpSeq_step rfl rfl (fun K hK => ?_)
  go_wp2_with fail
  refine (c_eqString _ _ _ _ _ _ _ _ _ _ _ _ _ _ _ (Sl.of_blk (hX.below s1 hX.lt)) (Sl.of_blk hYY) rfl rfl (by have := HL.out; omega) (fun _ _ => rfl) (FilEq.refl _) (FilEq.refl _) rfl).mono ?_; rintro e wr2 ⟨rfl, b2⟩
  have s2 := seq_below s1 b2
  refine hK _ _ ⟨s2, ?_⟩; clear hK
  refine wpSeq_step rfl rfl (fun K hK => ?_)
  go_wp2_with fail
  refine ⟨s2, ?_⟩
  refine wpSeq_nil ?_
  replace hb := seq_below hb s2; replace hX := hX.below s2 hX.lt; replace hrX := hrX.below s2 hrX.lt; replace hY := hY.below s2 hY.lt; replace hrY := hrY.below s2 hrY.lt
  clear s0 s1 s2 b1 b2 hYY
  go_wp2_with fail
  have s0 := (Below.refl wr2.heap.size wr2).drew
  refine wp_region_seq (S := fun w' => Below wr2.heap.size wr2 w') [(true, 0), (true, 1), (false, 2), (false, 3), (false, 4)] (by kernel_rfl) (by kernel_rfl) (by kernel_rfl) (fun _ _ d _ _ h => by cases d <;> exact h) s0 ?_
  refine wpSeq_held rfl (yields_load_cells rfl _ _ rfl _ rfl hrY hrY.lt (fun _ h => h) Try.underlying37 rfl info_str) ?_
  refine wpSeq_held rfl (yields_load_cells rfl _ _ rfl _ rfl (q2.below hb q2.lt) (q2.below hb q2.lt).lt (fun _ h => h) Try.underlying31 rfl info_strl) ?_
  refine wpSeq_step rfl rfl (fun K hK => ?_)
  go_wp2_with fail
  refine (c_toString _ _ _ _ _ _ _ _ ((HT.out.below hb).below s0) HL2.out).mono ?_; rintro e wr3 ⟨gYY, rfl, hYY, _, b1⟩
  have s1 := seq_below s0 b1
  refine hK _ _ ⟨s1, ?_⟩; clear hK
  refine wpSeq_step rfl rfl (fun K hK => ?_)
  go_wp2_with fail
  refine (c_eqString _ _ _ _ _ _ _ _ _ _ _ _ _ _ _ (Sl.of_blk (hY.below s1 hY.lt)) (Sl.of_blk hYY) rfl rfl (by have := HL2.out; omega) (fun _ _ => rfl) (FilEq.refl _) (FilEq.refl _) rfl).mono ?_; rintro e wr4 ⟨rfl, b2⟩
  have s2 := seq_below s1 b2
  refine hK _ _ ⟨s2, ?_⟩; clear hK
  refine wpSeq_step rfl rfl (fun K hK => ?_)
  go_wp2_with fail
  refine ⟨s2, ?_⟩
  refine wpSeq_nil ?_
  replace hb := seq_below hb s2; replace hX := hX.below s2 hX.lt; replace hrX := hrX.below s2 hrX.lt; replace hY := hY.below s2 hY.lt; replace hrY := hrY.below s2 hrY.lt
  clear s0 s1 s2 b1 b2 hYY
  go_wp2_with fail
  go_ret
  exact ⟨rfl, seq_below h0.out hb⟩
theorem walk (w : World) (A : Option Addr) (c : Nat) (xs : List Nat) (a0 : Int) (F G : Fil) (l : Nat) (hs : Sl w A xs) (_ : (Lit.int .i64 a0).wf = true) (hm : xs.length ≤ maxLen) (B : Option Addr) (d : Nat) (ys : List Nat) (b0 : Int) (F' G' : Fil) (l' : Nat) (ht : Sl w B ys) (_ : (Lit.int .i64 b0).wf = true) (hm2 : ys.length ≤ maxLen) :
    Calls Try.prog 3 #[.agg (strC A xs.length c a0 F G l).toArray, .agg (strC B ys.length d b0 F' G' l').toArray] w fun e w' => e = .returned (.bool true) ∧ Below w.heap.size w w' := by
  unfold maxLen at hm hm2
  by_cases hbig : 1048576 < (xs.length : Int)
  · exact walk_big1 w A c xs a0 F G l B d ys b0 F' G' l' (by omega) hbig
  by_cases hbig2 : 1048576 - (xs.length : Int) < (ys.length : Int)
  · exact walk_big2 w A c xs a0 F G l B d ys b0 F' G' l' (by omega) (by omega) hbig2
  · exact walk_ok w A c xs a0 F G l B d ys b0 F' G' l' hs ht (by omega) (by omega)

theorem own : ownKnob Try.prog.godebug = none := by kernel_rfl
theorem laidOut : laidOutB Try.prog = true := by kernel_rfl
set_option maxRecDepth 100000 in
theorem lifted (os : Os) (started : os.Started) (H : Type) (enc : TypeId × Value → H) :
    ReturnsInHanded {} Try.checked os 3 .any (Rows.fnExactSameStringSpec.pre6 enc Try.prog Try.f3 [] false) (Rows.fnExactSameStringSpec.post enc Try.prog Try.f3 false true false false) := by
  refine law_lifted (C := Try.checked) own started (by kernel_rfl) Try.func3
    (ChangeSpec.witness6 (enc := enc) (C := Try.checked) false ⟨#[], #[.agg (strC none 0 0 0 ⟨0, 0, 0, 0, 0, 0⟩ ⟨0, 0, 0, 0, 0, 0⟩ 0).toArray, .agg (strC none 0 0 0 ⟨0, 0, 0, 0, 0, 0⟩ ⟨0, 0, 0, 0, 0, 0⟩ 0).toArray], []⟩ 8 (by kernel_rfl) (by kernel_rfl) (by kernel_rfl) (by kernel_rfl))
    rfl 2 rfl (fun ds h => by match ds, h with | [d0, d1], _ => exact ⟨rfl, rfl, rfl⟩) laidOut (of_decide_eq_true (by kernel_rfl)) 4 Try.underlying4 rfl ?_
  intro W base args ds p hval hA
  rw [Try.params3] at hA hval
  obtain ⟨v0, v1, d0, d1, p0, p1, rfl, rfl, rfl, h0, h1⟩ := trodAll_two hA
  obtain ⟨A0, c0, xs0, n0, F0, G0, l0, rfl, hs0, hw0, hm0⟩ := open_str strT (hval 0 _ _ rfl rfl) h0
  obtain ⟨A1, c1, xs1, n1, F1, G1, l1, rfl, hs1, hw1, hm1⟩ := open_str strT (hval 1 _ _ rfl rfl) h1
  exact walk W A0 c0 xs0 n0 F0 G0 l0 hs0 hw0 hm0 A1 c1 xs1 n1 F1 G1 l1 hs1 hw1 hm1
theorem over : Rows.fnExactSameStringRow.holds Try.pinned (OpenSpec.ofChange Rows.fnExactSameStringSpec) :=
  OpenClaim.holds_of_wide 3 Try.f3 rfl rfl rfl rfl rfl rfl rfl ⟨rfl, rfl, rfl, rfl, rfl⟩ rfl rfl rfl rfl rfl (by kernel_rfl) Try.func3 (by kernel_rfl)
    (of_decide_eq_true (by kernel_rfl)) (by unfold Func.isWrapper; first | (rw [if_pos (by decide +kernel)]; kernel_rfl) | (rw [if_neg (by decide +kernel)]; exact ⟨rfl, rfl⟩))
    (fun os started H enc _ => lifted os started H enc)
/-- THE STATEMENT. -/
theorem proved : Rows.FnExactSameStringSaid := over
#print axioms proved
end Go.Proofs.Ytpchebclhjgcmaa.fnExactSameString
