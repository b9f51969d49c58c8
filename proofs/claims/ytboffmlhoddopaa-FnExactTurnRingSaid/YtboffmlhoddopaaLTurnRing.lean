/- The statement Rows.FnExactTurnRingSaid: the law FnExactTurnRing returns true for every input, and its arguments read as before. No condition. -/
import Derived.Test.YtboffmlhoddopaaRows
import Derived.Test.YtboffmlhoddopaaTe
namespace Go.Proofs.Ytboffmlhoddopaa.fnExactTurnRing
open Go.ChangeShapes Go.WideShapes Go.ChangeAt Go.RowKit Go.Fl

set_option maxRecDepth 20000 in
set_option maxHeartbeats 2000000 in
theorem walk_big (w : World) (A : Option Addr) (c : Nat) (xs : List Nat) (at0 : Int) (hm : (xs.length : Int) ≤ 9223372036854775807) (hbig : 1048576 < (xs.length : Int)) :
    Calls Try.prog 11 #[.agg #[.slice A xs.length c, .int .i64 at0]] w fun e w' => e = .returned (.bool true) ∧ Below w.heap.size w w' := by
  have q : Row (w.alloc (.cells #[.slice A xs.length c, .int .i64 at0] 39)) w.heap.size #[.slice A xs.length c, .int .i64 at0] 39 := Row.new _ _ _ _ rfl
  have hb := Go.Joins.below_alloc1 w (.cells #[.slice A xs.length c, .int .i64 at0] 39)
  have HB := Lib.hid hbig; have HM := Lib.hid hm; clear hbig hm
  go_enter Try.func11, Try.ntmps11
  go_wp2_with (first
    | (refine wpList_load_cells rfl 39 _ rfl _ rfl q Try.underlying39 rfl info_lring ?_)
    | (go_at_call 25; refine (c_szRing_big _ _ _ _ _ HB.out HM.out).mono ?_; rintro e w1 ⟨rfl, b⟩))
  go_ret
  exact ⟨rfl, seq_below hb b⟩
set_option maxRecDepth 20000 in
set_option maxHeartbeats 2000000 in
theorem walk_no (w : World) (A : Option Addr) (c : Nat) (xs : List Nat) (at0 : Int) (hs : Sl w A xs) (hn : (xs.length : Int) ≤ 1048576) (hr : ringOk xs.length at0 = false) :
    Calls Try.prog 11 #[.agg #[.slice A xs.length c, .int .i64 at0]] w fun e w' => e = .returned (.bool true) ∧ Below w.heap.size w w' := by
  have q : Row (w.alloc (.cells #[.slice A xs.length c, .int .i64 at0] 39)) w.heap.size #[.slice A xs.length c, .int .i64 at0] 39 := Row.new _ _ _ _ rfl
  have hb := Go.Joins.below_alloc1 w (.cells #[.slice A xs.length c, .int .i64 at0] 39)
  have HS := Lib.hid (hs.below hb); clear hs
  have h0 := Lib.hid hb; clear hb; have hb := Below.refl (w.alloc (.cells #[.slice A xs.length c, .int .i64 at0] 39)).heap.size (w.alloc (.cells #[.slice A xs.length c, .int .i64 at0] 39))
  have HR := Lib.hid hr; have HB := Lib.hid hn
  have HI := Lib.hid (show (xs.length : Int) ≤ 4294967296 from by omega); have HL := Lib.hid (show xs.length ≤ 4294967296 from by omega)
  have hpos : ¬ (1048576 - (xs.length : Int) < 0) := by omega
  have hp : ¬ (1 + (xs.length : Int) < 0) := by omega
  clear hr hn
  go_enter Try.func11, Try.ntmps11
  go_wp2_with (first | (refine wpList_load_cells rfl 39 _ rfl _ rfl (q.below hb q.lt) Try.underlying39 rfl info_lring ?_))
  refine (c_szRing _ _ _ _ _ HB.out).mono ?_; rintro e w1 ⟨rfl, b⟩
  replace hb := seq_below hb b; clear b
  go_wp2_with (first | (refine wpList_load_cells rfl 39 _ rfl _ rfl (q.below hb q.lt) Try.underlying39 rfl info_lring ?_))
  refine (c_toRing _ _ _ _ _ (HS.out.below hb) HL.out).mono ?_; rintro e w2 ⟨gZ, rfl, _, _, b⟩
  replace hb := seq_below hb b; clear b
  go_wp2_with fail
  refine (c_sTurnRing_no _ _ _ _ _ HI.out HR.out).mono ?_; rintro e w3 ⟨rfl, b⟩
  replace hb := seq_below hb b; clear b
  go_wp2_with (first | (refine wpList_store_newest (cells := #[.slice none 0 0, .int .i64 0]) rfl 42 _ _ rfl rfl rfl info_ring rfl rfl (fun w4 b4 hrS => ?_); replace hb := seq_below hb b4; clear b4) | (refine wpList_load_cells rfl 39 _ rfl _ rfl (q.below hb q.lt) Try.underlying39 rfl info_lring ?_))
  refine (c_toRing _ _ _ _ _ (HS.out.below hb) HL.out).mono ?_; rintro e w5 ⟨gX, rfl, hX, hgX, b⟩
  have NS := Lib.hid (Nat.ne_of_lt (Nat.lt_of_lt_of_le hrS.lt hgX)); have NB := Lib.hid (Nat.le_trans hb.size hgX); clear hgX
  replace hb := seq_below hb b; replace hrS := hrS.below b hrS.lt; clear b
  go_wp2_with (first | (refine wpList_store_newest (cells := #[.slice (some ⟨gX, 0, none⟩) xs.length xs.length, .int .i64 at0]) rfl 42 _ _ rfl rfl rfl info_ring rfl rfl (fun w6 b4 hrX => ?_); have NX := Lib.hid (Nat.ne_of_gt hX.lt); have LX := Lib.hid hX.lt; replace hb := seq_below hb b4; replace hrS := hrS.below b4 hrS.lt; replace hX := hX.below b4 hX.lt; clear b4) | (refine wpList_load_cells rfl 42 _ rfl _ rfl hrX Try.underlying42 rfl info_ring ?_))
  refine (c_iTurnRing_no _ _ _ _ _ HI.out HR.out).mono ?_; rintro e w7 ⟨rfl, b⟩
  have LX := Lib.hid hX.lt
  replace hb := seq_below hb b; replace hrS := hrS.below b hrS.lt; replace hX := hX.below b hX.lt; replace hrX := hrX.below b hrX.lt; clear b
  go_wp2_with (first | (refine wpList_store_newest (cells := #[.slice none 0 0, .int .i64 0]) rfl 42 _ _ rfl rfl rfl info_ring rfl rfl (fun w8 b4 hrI => ?_); have NI := Lib.hid (Nat.ne_of_gt hX.lt); replace hb := seq_below hb b4; replace hrS := hrS.below b4 hrS.lt; replace hX := hX.below b4 hX.lt; replace hrX := hrX.below b4 hrX.lt; clear b4) | (refine wpList_load_cells rfl 42 _ rfl _ rfl hrI Try.underlying42 rfl info_ring ?_) | (refine wpList_load_cells rfl 42 _ rfl _ rfl hrS Try.underlying42 rfl info_ring ?_))
  refine (c_eqRing _ _ _ _ [] [] _ _ (.inl rfl) (.inl rfl) rfl (by decide) (fun _ _ => rfl)).mono ?_; rintro e w9 ⟨rfl, b⟩
  replace hb := seq_below hb b; replace hrS := hrS.below b hrS.lt; replace hX := hX.below b hX.lt; replace hrX := hrX.below b hrX.lt; replace hrI := hrI.below b hrI.lt; clear b
  go_wp2_with fail
  have s0 := (Below.refl w9.heap.size w9).drew
  refine wp_region_seq (S := fun w' => Below w9.heap.size w9 w') [(true, 0), (true, 1), (false, 2), (false, 3), (false, 4)] (by kernel_rfl) (by kernel_rfl) (by kernel_rfl) (fun _ _ d _ _ h => by cases d <;> exact h) s0 ?_
  refine wpSeq_held rfl (yields_load_cells rfl _ _ rfl _ rfl hrX hrX.lt (fun _ h => h) Try.underlying42 rfl info_ring) ?_
  refine wpSeq_held rfl (yields_load_cells rfl _ _ rfl _ rfl (q.below hb q.lt) (q.below hb q.lt).lt (fun _ h => h) Try.underlying39 rfl info_lring) ?_
  refine wpSeq_step rfl rfl (fun K hK => ?_)
  go_wp2_with fail
  refine (c_toRing _ _ _ _ _ ((HS.out.below hb).below s0) HL.out).mono ?_; rintro e wr1 ⟨gY, rfl, hY, _, b1⟩
  have s1 := seq_below s0 b1
  refine hK _ _ ⟨s1, ?_⟩; clear hK
  refine wpSeq_step rfl rfl (fun K hK => ?_)
  go_wp2_with fail
  refine (c_eqRing _ _ _ _ _ _ _ _ (Sl.of_blk (hX.below s1 hX.lt)) (Sl.of_blk hY) rfl HL.out (fun _ _ => rfl)).mono ?_; rintro e wr2 ⟨rfl, b2⟩
  have s2 := seq_below s1 b2
  refine hK _ _ ⟨s2, ?_⟩; clear hK
  refine wpSeq_step rfl rfl (fun K hK => ?_)
  go_wp2_with fail
  refine ⟨s2, ?_⟩
  refine wpSeq_nil ?_
  replace hb := seq_below hb s2; replace hrS := hrS.below s2 hrS.lt; replace hX := hX.below s2 hX.lt; replace hrX := hrX.below s2 hrX.lt; replace hrI := hrI.below s2 hrI.lt
  clear s0 s1 s2 b1 b2 hY
  go_wp2_with (first | (refine wpList_load_cells rfl 42 _ rfl _ rfl hrX Try.underlying42 rfl info_ring ?_))
  refine (c_markRing_own _ _ _ _ _ _ _ (Own.of_blk hX (Nat.le_refl _) (by have := HL.out; unfold maxLen; omega)) HI.out (by decide) (by decide)).mono ?_; rintro e w10 ⟨rfl, _, b⟩
  replace hb := hb.trans (below_grownBy b hb.size (fun k hk => by cases hk; exact NB.out)); replace hrS := hrS.grown b (fun e => NS.out (by cases e; rfl)); replace hrI := hrI.grown b (fun e => NI.out (by cases e; rfl))
  clear b
  clear hrX hX
  have i0 := hrI.cell 0 _ rfl; have i1 := hrI.cell 1 _ rfl; have t0 := hrS.cell 0 _ rfl; have t1 := hrS.cell 1 _ rfl
  go_wp2_with (first | (refine wpList_load_cells rfl 42 _ rfl _ rfl hrI Try.underlying42 rfl info_ring ?_) | (refine wpList_load_cells rfl 42 _ rfl _ rfl hrS Try.underlying42 rfl info_ring ?_))
  refine (c_eqRing _ _ _ _ [] [] _ _ (.inl rfl) (.inl rfl) rfl (by decide) (fun _ _ => rfl)).mono ?_; rintro e w11 ⟨rfl, b⟩
  clear i0 i1 t0 t1
  replace hb := seq_below hb b; replace hrS := hrS.below b hrS.lt; replace hrI := hrI.below b hrI.lt; clear b
  go_wp2_with (first | (refine wpList_load_cells rfl 42 _ rfl _ rfl hrI Try.underlying42 rfl info_ring ?_))
  refine (c_markRing_nil _ _ _ _ _).mono ?_; rintro e w12 ⟨rfl, b⟩
  replace hb := seq_below hb b; replace hrS := hrS.below b hrS.lt; replace hrI := hrI.below b hrI.lt; clear b
  go_wp2_with (first | (refine wpList_load_cells rfl 42 _ rfl _ rfl hrI Try.underlying42 rfl info_ring ?_))
  refine (c_heldRing_nil _ _ _ _ _ (by decide)).mono ?_; rintro e w13 ⟨rfl, b⟩
  replace hb := seq_below hb b; replace hrS := hrS.below b hrS.lt; replace hrI := hrI.below b hrI.lt; clear b
  go_wp2_with (first | (refine wpList_load_cells rfl 39 _ rfl _ rfl (q.below hb q.lt) Try.underlying39 rfl info_lring ?_))
  refine (c_toRing _ _ _ _ _ (HS.out.below hb) HL.out).mono ?_; rintro e w14 ⟨gW, rfl, _, _, b⟩
  replace hb := seq_below hb b; replace hrS := hrS.below b hrS.lt; replace hrI := hrI.below b hrI.lt; clear b
  go_wp2_with fail
  refine (c_iTurnRing_no _ _ _ _ _ HI.out HR.out).mono ?_; rintro e w15 ⟨rfl, b⟩
  replace hb := seq_below hb b; replace hrS := hrS.below b hrS.lt; replace hrI := hrI.below b hrI.lt; clear b
  go_wp2_with (first | (refine wpList_store_newest (cells := #[.slice none 0 0, .int .i64 0]) rfl 42 _ _ rfl rfl rfl info_ring rfl rfl (fun w16 b4 hrH => ?_); replace hb := seq_below hb b4; replace hrS := hrS.below b4 hrS.lt; replace hrI := hrI.below b4 hrI.lt; clear b4) | (refine wpList_load_cells rfl 42 _ rfl _ rfl hrH Try.underlying42 rfl info_ring ?_) | (refine wpList_load_cells rfl 42 _ rfl _ rfl hrS Try.underlying42 rfl info_ring ?_))
  refine (c_eqRing _ _ _ _ [] [] _ _ (.inl rfl) (.inl rfl) rfl (by decide) (fun _ _ => rfl)).mono ?_; rintro e w17 ⟨rfl, b⟩
  replace hb := seq_below hb b; replace hrS := hrS.below b hrS.lt; replace hrI := hrI.below b hrI.lt; replace hrH := hrH.below b hrH.lt; clear b
  go_wp2_with (first | (refine wpList_load_cells rfl 42 _ rfl _ rfl hrI Try.underlying42 rfl info_ring ?_))
  refine (c_heldRing_nil _ _ _ _ _ (by decide)).mono ?_; rintro e w18 ⟨rfl, b⟩
  replace hb := seq_below hb b; replace hrS := hrS.below b hrS.lt; replace hrI := hrI.below b hrI.lt; replace hrH := hrH.below b hrH.lt; clear b
  go_wp2_with fail
  go_ret
  exact ⟨rfl, seq_below h0.out hb⟩
set_option maxRecDepth 20000 in
set_option maxHeartbeats 2000000 in
theorem walk_ok (w : World) (A : Option Addr) (c : Nat) (xs : List Nat) (j : Nat) (hs : Sl w A xs) (hn : (xs.length : Int) ≤ 1024) (hr : ringOk xs.length j = true) (h1 : 1 ≤ xs.length) (h2 : j < xs.length) :
    Calls Try.prog 11 #[.agg #[.slice A xs.length c, .int .i64 j]] w fun e w' => e = .returned (.bool true) ∧ Below w.heap.size w w' := by
  have q : Row (w.alloc (.cells #[.slice A xs.length c, .int .i64 j] 39)) w.heap.size #[.slice A xs.length c, .int .i64 j] 39 := Row.new _ _ _ _ rfl
  have hb := Go.Joins.below_alloc1 w (.cells #[.slice A xs.length c, .int .i64 j] 39)
  have HS := Lib.hid (hs.below hb); clear hs
  have h0 := Lib.hid hb; clear hb; have hb := Below.refl (w.alloc (.cells #[.slice A xs.length c, .int .i64 j] 39)).heap.size (w.alloc (.cells #[.slice A xs.length c, .int .i64 j] 39))
  have HR := Lib.hid hr; have HB := Lib.hid (show (xs.length : Int) ≤ 1048576 from by omega); have HN := Lib.hid hn; have H1 := Lib.hid h1; have H2 := Lib.hid h2; have HT := Lib.hid (turn_len xs j h2)
  have HI := Lib.hid (show (xs.length : Int) ≤ 4294967296 from by omega); have HL := Lib.hid (show xs.length ≤ 4294967296 from by omega)
  have hpos : ¬ (1048576 - (xs.length : Int) < 0) := by omega
  have hp : ¬ (1 + (xs.length : Int) < 0) := by omega
  clear hr hn h1 h2
  go_enter Try.func11, Try.ntmps11
  go_wp2_with (first | (refine wpList_load_cells rfl 39 _ rfl _ rfl (q.below hb q.lt) Try.underlying39 rfl info_lring ?_))
  refine (c_szRing _ _ _ _ _ HB.out).mono ?_; rintro e w1 ⟨rfl, b⟩
  replace hb := seq_below hb b; clear b
  go_wp2_with (first | (refine wpList_load_cells rfl 39 _ rfl _ rfl (q.below hb q.lt) Try.underlying39 rfl info_lring ?_))
  refine (c_toRing _ _ _ _ _ (HS.out.below hb) HL.out).mono ?_; rintro e w2 ⟨gZ, rfl, hZ, _, b⟩
  replace hb := seq_below hb b; clear b
  go_wp2_with fail
  refine (c_sTurnRing _ _ _ _ _ (Sl.of_blk hZ) HN.out HR.out H1.out H2.out (Nat.le_refl _)).mono ?_; rintro e w3 ⟨A1, c1, rfl, oS, b⟩
  clear hZ
  replace hb := seq_below hb b; clear b
  go_wp2_with (first | (refine wpList_store_newest (cells := #[.slice A1 xs.length c1, .int .i64 0]) rfl 42 _ _ rfl rfl rfl info_ring rfl rfl (fun w4 b4 hrS => ?_); replace hb := seq_below hb b4; replace oS := oS.below b4 (Nat.le_refl _); clear b4) | (refine wpList_load_cells rfl 39 _ rfl _ rfl (q.below hb q.lt) Try.underlying39 rfl info_lring ?_))
  refine (c_toRing _ _ _ _ _ (HS.out.below hb) HL.out).mono ?_; rintro e w5 ⟨gX, rfl, hX, hgX, b⟩
  have NO := Lib.hid (fun k (hk : ownBlk A1 = some k) => Nat.ne_of_lt (Nat.lt_of_lt_of_le (oS.lt k hk) hgX)); have NS := Lib.hid (Nat.ne_of_lt (Nat.lt_of_lt_of_le hrS.lt hgX)); have NB := Lib.hid (Nat.le_trans hb.size hgX); clear hgX
  replace hb := seq_below hb b; replace oS := oS.below b (Nat.le_refl _); replace hrS := hrS.below b hrS.lt; clear b
  go_wp2_with (first | (refine wpList_store_newest (cells := #[.slice (some ⟨gX, 0, none⟩) xs.length xs.length, .int .i64 j]) rfl 42 _ _ rfl rfl rfl info_ring rfl rfl (fun w6 b4 hrX => ?_); have LX := Lib.hid hX.lt; replace hb := seq_below hb b4; replace oS := oS.below b4 (Nat.le_refl _); replace hrS := hrS.below b4 hrS.lt; replace hX := hX.below b4 hX.lt; clear b4) | (refine wpList_load_cells rfl 42 _ rfl _ rfl hrX Try.underlying42 rfl info_ring ?_))
  refine (c_iTurnRing _ _ _ _ _ (Sl.of_blk hX) HN.out HR.out H1.out H2.out (Nat.le_refl _)).mono ?_; rintro e w7 ⟨A2, c2, rfl, oI, b⟩
  have NI := Lib.hid (fun k (hk : ownBlk A2 = some k) => Nat.ne_of_gt (Nat.lt_of_lt_of_le hX.lt (oI.ge k hk))); have NIO := Lib.hid (fun k (hk : ownBlk A2 = some k) k1 (hk1 : ownBlk A1 = some k1) => Nat.ne_of_lt (Nat.lt_of_lt_of_le (oS.lt k1 hk1) (oI.ge k hk))); have NIS := Lib.hid (fun k (hk : ownBlk A2 = some k) => Nat.ne_of_lt (Nat.lt_of_lt_of_le hrS.lt (oI.ge k hk))); have NIB := Lib.hid (fun k (hk : ownBlk A2 = some k) => Nat.le_trans hb.size (oI.ge k hk))
  replace hb := seq_below hb b; replace oS := oS.below b (Nat.le_refl _); replace hrS := hrS.below b hrS.lt; replace hX := hX.below b hX.lt; replace hrX := hrX.below b hrX.lt; clear b
  go_wp2_with (first | (refine wpList_store_newest (cells := #[.slice A2 xs.length c2, .int .i64 0]) rfl 42 _ _ rfl rfl rfl info_ring rfl rfl (fun w8 b4 hrI => ?_); have NII := Lib.hid (fun k (hk : ownBlk A2 = some k) => Nat.ne_of_gt (oI.lt k hk)); have NIX := Lib.hid (Nat.ne_of_gt hX.lt); replace hb := seq_below hb b4; replace oS := oS.below b4 (Nat.le_refl _); replace hrS := hrS.below b4 hrS.lt; replace hX := hX.below b4 hX.lt; replace hrX := hrX.below b4 hrX.lt; replace oI := oI.below b4 (Nat.le_refl _); clear b4) | (refine wpList_load_cells rfl 42 _ rfl _ rfl hrI Try.underlying42 rfl info_ring ?_) | (refine wpList_load_cells rfl 42 _ rfl _ rfl hrS Try.underlying42 rfl info_ring ?_))
  refine (c_eqRing_n _ _ _ _ _ _ _ _ _ oI.sl oS.sl HT.out HT.out HI.out (fun _ _ => rfl)).mono ?_; rintro e w9 ⟨rfl, b⟩
  replace hb := seq_below hb b; replace oS := oS.below b (Nat.le_refl _); replace hrS := hrS.below b hrS.lt; replace hX := hX.below b hX.lt; replace hrX := hrX.below b hrX.lt; replace oI := oI.below b (Nat.le_refl _); replace hrI := hrI.below b hrI.lt; clear b
  go_wp2_with fail
  have s0 := (Below.refl w9.heap.size w9).drew
  refine wp_region_seq (S := fun w' => Below w9.heap.size w9 w') [(true, 0), (true, 1), (false, 2), (false, 3), (false, 4)] (by kernel_rfl) (by kernel_rfl) (by kernel_rfl) (fun _ _ d _ _ h => by cases d <;> exact h) s0 ?_
  refine wpSeq_held rfl (yields_load_cells rfl _ _ rfl _ rfl hrX hrX.lt (fun _ h => h) Try.underlying42 rfl info_ring) ?_
  refine wpSeq_held rfl (yields_load_cells rfl _ _ rfl _ rfl (q.below hb q.lt) (q.below hb q.lt).lt (fun _ h => h) Try.underlying39 rfl info_lring) ?_
  refine wpSeq_step rfl rfl (fun K hK => ?_)
  go_wp2_with fail
  refine (c_toRing _ _ _ _ _ ((HS.out.below hb).below s0) HL.out).mono ?_; rintro e wr1 ⟨gY, rfl, hY, _, b1⟩
  have s1 := seq_below s0 b1
  refine hK _ _ ⟨s1, ?_⟩; clear hK
  refine wpSeq_step rfl rfl (fun K hK => ?_)
  go_wp2_with fail
  refine (c_eqRing _ _ _ _ _ _ _ _ (Sl.of_blk (hX.below s1 hX.lt)) (Sl.of_blk hY) rfl HL.out (fun _ _ => rfl)).mono ?_; rintro e wr2 ⟨rfl, b2⟩
  have s2 := seq_below s1 b2
  refine hK _ _ ⟨s2, ?_⟩; clear hK
  refine wpSeq_step rfl rfl (fun K hK => ?_)
  go_wp2_with fail
  refine ⟨s2, ?_⟩
  refine wpSeq_nil ?_
  replace hb := seq_below hb s2; replace oS := oS.below s2 (Nat.le_refl _); replace hrS := hrS.below s2 hrS.lt; replace hX := hX.below s2 hX.lt; replace hrX := hrX.below s2 hrX.lt; replace oI := oI.below s2 (Nat.le_refl _); replace hrI := hrI.below s2 hrI.lt
  clear s0 s1 s2 b1 b2 hY
  go_wp2_with (first | (refine wpList_load_cells rfl 42 _ rfl _ rfl hrX Try.underlying42 rfl info_ring ?_))
  refine (c_markRing_own _ _ _ _ _ _ _ (Own.of_blk hX (Nat.le_refl _) (by have := HL.out; unfold maxLen; omega)) HI.out (by decide) (by decide)).mono ?_; rintro e w10 ⟨rfl, _, b⟩
  replace hb := hb.trans (below_grownBy b hb.size (fun k hk => by cases hk; exact NB.out)); replace hrS := hrS.grown b (fun e => NS.out (by cases e; rfl)); replace hrI := hrI.grown b (fun e => NIX.out (by cases e; rfl)); replace oS := oS.kept b (fun k hk e => NO.out k hk (by cases e; rfl)); replace oI := oI.kept b (fun k hk e => NI.out k hk (by cases e; rfl))
  clear b
  clear hrX hX
  have i0 := hrI.cell 0 _ rfl; have i1 := hrI.cell 1 _ rfl; have t0 := hrS.cell 0 _ rfl; have t1 := hrS.cell 1 _ rfl
  go_wp2_with (first | (refine wpList_load_cells rfl 42 _ rfl _ rfl hrI Try.underlying42 rfl info_ring ?_) | (refine wpList_load_cells rfl 42 _ rfl _ rfl hrS Try.underlying42 rfl info_ring ?_))
  refine (c_eqRing_n _ _ _ _ _ _ _ _ _ oI.sl oS.sl HT.out HT.out HI.out (fun _ _ => rfl)).mono ?_; rintro e w11 ⟨rfl, b⟩
  clear i0 i1 t0 t1
  replace hb := seq_below hb b; replace oS := oS.below b (Nat.le_refl _); replace hrS := hrS.below b hrS.lt; replace oI := oI.below b (Nat.le_refl _); replace hrI := hrI.below b hrI.lt; clear b
  go_wp2_with (first | (refine wpList_load_cells rfl 42 _ rfl _ rfl hrI Try.underlying42 rfl info_ring ?_))
  refine (c_markRing_own_n _ _ _ _ _ _ _ _ oI HT.out HI.out (by decide) (by decide)).mono ?_; rintro e w12 ⟨rfl, oJ, b⟩
  replace hb := hb.trans (below_grownBy b hb.size NIB.out); replace hrS := hrS.grown b (fun e => NIS.out _ e.symm rfl); replace hrI := hrI.grown b (fun e => NII.out _ e.symm rfl); replace oS := oS.kept b (fun k hk e => NIO.out _ e.symm k hk rfl); clear b oI
  go_wp2_with (first | (refine wpList_load_cells rfl 42 _ rfl _ rfl hrI Try.underlying42 rfl info_ring ?_))
  refine (c_heldRing_sl _ _ _ _ _ _ oJ.sl HI.out (by decide) (by decide)).mono ?_; rintro e w13 ⟨rfl, b⟩
  replace hb := seq_below hb b; replace oS := oS.below b (Nat.le_refl _); replace hrS := hrS.below b hrS.lt; replace hrI := hrI.below b hrI.lt; replace oJ := oJ.below b (Nat.le_refl _); clear b
  go_wp2_with (first | (refine wpList_load_cells rfl 39 _ rfl _ rfl (q.below hb q.lt) Try.underlying39 rfl info_lring ?_))
  refine (c_toRing _ _ _ _ _ (HS.out.below hb) HL.out).mono ?_; rintro e w14 ⟨gW, rfl, hW, _, b⟩
  replace hb := seq_below hb b; replace oS := oS.below b (Nat.le_refl _); replace hrS := hrS.below b hrS.lt; replace hrI := hrI.below b hrI.lt; replace oJ := oJ.below b (Nat.le_refl _); clear b
  go_wp2_with fail
  refine (c_iTurnRing _ _ _ _ _ (Sl.of_blk hW) HN.out HR.out H1.out H2.out (Nat.le_refl _)).mono ?_; rintro e w15 ⟨A3, c3, rfl, oH, b⟩
  clear hW
  replace hb := seq_below hb b; replace oS := oS.below b (Nat.le_refl _); replace hrS := hrS.below b hrS.lt; replace hrI := hrI.below b hrI.lt; replace oJ := oJ.below b (Nat.le_refl _); clear b
  go_wp2_with (first | (refine wpList_store_newest (cells := #[.slice A3 xs.length c3, .int .i64 0]) rfl 42 _ _ rfl rfl rfl info_ring rfl rfl (fun w16 b4 hrH => ?_); replace hb := seq_below hb b4; replace oS := oS.below b4 (Nat.le_refl _); replace hrS := hrS.below b4 hrS.lt; replace hrI := hrI.below b4 hrI.lt; replace oJ := oJ.below b4 (Nat.le_refl _); replace oH := oH.below b4 (Nat.le_refl _); clear b4) | (refine wpList_load_cells rfl 42 _ rfl _ rfl hrH Try.underlying42 rfl info_ring ?_) | (refine wpList_load_cells rfl 42 _ rfl _ rfl hrS Try.underlying42 rfl info_ring ?_))
  refine (c_eqRing_n _ _ _ _ _ _ _ _ _ oH.sl oS.sl HT.out HT.out HI.out (fun _ _ => rfl)).mono ?_; rintro e w17 ⟨rfl, b⟩
  replace hb := seq_below hb b; replace oS := oS.below b (Nat.le_refl _); replace hrS := hrS.below b hrS.lt; replace hrI := hrI.below b hrI.lt; replace oJ := oJ.below b (Nat.le_refl _); replace oH := oH.below b (Nat.le_refl _); replace hrH := hrH.below b hrH.lt; clear b
  go_wp2_with (first | (refine wpList_load_cells rfl 42 _ rfl _ rfl hrI Try.underlying42 rfl info_ring ?_))
  refine (c_heldRing_sl _ _ _ _ _ _ oJ.sl HI.out (by decide) (by decide)).mono ?_; rintro e w18 ⟨rfl, b⟩
  replace hb := seq_below hb b; replace oS := oS.below b (Nat.le_refl _); replace hrS := hrS.below b hrS.lt; replace hrI := hrI.below b hrI.lt; replace oJ := oJ.below b (Nat.le_refl _); replace oH := oH.below b (Nat.le_refl _); replace hrH := hrH.below b hrH.lt; clear b
  go_wp2_with fail
  go_ret
  exact ⟨rfl, seq_below h0.out hb⟩
theorem walk (w : World) (A : Option Addr) (c : Nat) (xs : List Nat) (at0 : Int) (hs : Sl w A xs) (_ : (Lit.int .i64 at0).wf = true) (hm : xs.length ≤ maxLen) :
    Calls Try.prog 11 #[.agg #[.slice A xs.length c, .int .i64 at0]] w fun e w' => e = .returned (.bool true) ∧ Below w.heap.size w w' := by
  by_cases hbig : 1048576 < (xs.length : Int)
  · exact walk_big w A c xs at0 (by unfold maxLen at hm; omega) hbig
  cases hr : ringOk xs.length at0
  · exact walk_no w A c xs at0 hs (by omega) hr
  obtain ⟨a, b, c0, d⟩ := ringOk_facts hr
  obtain ⟨j, rfl⟩ := Int.eq_ofNat_of_zero_le c0
  exact walk_ok w A c xs j hs a hr (by omega) (by omega)

theorem own : ownKnob Try.prog.godebug = none := by kernel_rfl
theorem laidOut : laidOutB Try.prog = true := by kernel_rfl
set_option maxRecDepth 100000 in
theorem lifted (os : Os) (started : os.Started) (H : Type) (enc : TypeId × Value → H) :
    ReturnsInHanded {} Try.checked os 11 .any (Rows.fnExactTurnRingSpec.pre6 enc Try.prog Try.f11 [] false) (Rows.fnExactTurnRingSpec.post enc Try.prog Try.f11 false true false false) := by
  refine law_lifted (C := Try.checked) own started (by kernel_rfl) Try.func11
    (ChangeSpec.witness6 (enc := enc) (C := Try.checked) false ⟨#[], #[.agg #[.slice none 0 0, .int .i64 0]], []⟩ 8 (by kernel_rfl) (by kernel_rfl) (by kernel_rfl) (by kernel_rfl))
    rfl 1 rfl (fun ds h => by match ds, h with | [d0], _ => exact ⟨rfl, rfl, rfl⟩) laidOut (of_decide_eq_true (by kernel_rfl)) 4 Try.underlying4 rfl ?_
  intro W base args ds p hval hA
  rw [Try.params11] at hA hval
  obtain ⟨v0, d0, rfl, rfl, h0⟩ := trodAll_one hA
  obtain ⟨A0, c0, xs0, n0, rfl, hs0, hw0, hm0⟩ := open_ring Try.underlying39 rfl rfl (by kernel_rfl) (by kernel_rfl) (by kernel_rfl) Try.underlying37 Try.underlying22 (by kernel_rfl) Try.underlying2 (hval 0 _ _ rfl rfl) h0
  exact walk W A0 c0 xs0 n0 hs0 hw0 hm0
theorem over : Rows.fnExactTurnRingRow.holds Try.pinned (OpenSpec.ofChange Rows.fnExactTurnRingSpec) :=
  OpenClaim.holds_of_wide 11 Try.f11 rfl rfl rfl rfl rfl rfl rfl ⟨rfl, rfl, rfl, rfl, rfl⟩ rfl rfl rfl rfl rfl (by kernel_rfl) Try.func11 (by kernel_rfl)
    (of_decide_eq_true (by kernel_rfl)) (by unfold Func.isWrapper; first | (rw [if_pos (by decide +kernel)]; kernel_rfl) | (rw [if_neg (by decide +kernel)]; exact ⟨rfl, rfl⟩))
    (fun os started H enc _ => lifted os started H enc)
/-- THE STATEMENT. -/
theorem proved : Rows.FnExactTurnRingSaid := over
#print axioms proved
end Go.Proofs.Ytboffmlhoddopaa.fnExactTurnRing
