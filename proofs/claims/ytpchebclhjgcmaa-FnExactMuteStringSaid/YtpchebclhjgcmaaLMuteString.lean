/- The statement Rows.FnExactMuteStringSaid: the law FnExactMuteString returns true for every input, and its arguments read as before. No condition. -/
import Derived.Test.YtpchebclhjgcmaaRows
import Derived.Test.YtpchebclhjgcmaaHj
namespace Go.Proofs.Ytpchebclhjgcmaa.fnExactMuteString
open Go.ChangeShapes Go.WideShapes Go.ChangeAt Go.RowKit Go.Fl

set_option maxRecDepth 20000 in
set_option maxHeartbeats 2000000 in
theorem walk_big (w : World) (A : Option Addr) (c : Nat) (xs : List Nat) (a0 : Int) (F G : Fil) (l : Nat) (hm : (xs.length : Int) ≤ 9223372036854775807) (hbig : 1048576 < (xs.length : Int)) :
    Calls Try.prog 7 #[.agg (strC A xs.length c a0 F G l).toArray] w fun e w' => e = .returned (.bool true) ∧ Below w.heap.size w w' := by
  have q : Row (w.alloc (.cells (strC A xs.length c a0 F G l).toArray 31)) w.heap.size (strC A xs.length c a0 F G l).toArray 31 := Row.new _ _ _ _ rfl
  have hb := Go.Joins.below_alloc1 w (.cells (strC A xs.length c a0 F G l).toArray 31)
  have HB := Lib.hid hbig; have HM := Lib.hid hm; clear hbig hm
  go_enter Try.func7, Try.ntmps7
  go_wp2_with (first
    | (refine wpList_load_cells rfl 31 _ rfl _ rfl q Try.underlying31 rfl info_strl ?_)
    | (go_at_call 10; refine (c_szString_big _ _ _ _ _ _ _ _ _ (by decide) (by decide) HB.out HM.out).mono ?_; rintro e w1 ⟨rfl, b⟩))
  go_ret
  exact ⟨rfl, seq_below hb b⟩
set_option maxRecDepth 20000 in
set_option maxHeartbeats 2000000 in
theorem walk_ok (w : World) (A : Option Addr) (c : Nat) (xs : List Nat) (a0 : Int) (F G : Fil) (l : Nat) (hs : Sl w A xs) (hn : (xs.length : Int) ≤ 1048576) :
    Calls Try.prog 7 #[.agg (strC A xs.length c a0 F G l).toArray] w fun e w' => e = .returned (.bool true) ∧ Below w.heap.size w w' := by
  have q : Row (w.alloc (.cells (strC A xs.length c a0 F G l).toArray 31)) w.heap.size (strC A xs.length c a0 F G l).toArray 31 := Row.new _ _ _ _ rfl
  have hb := Go.Joins.below_alloc1 w (.cells (strC A xs.length c a0 F G l).toArray 31)
  have HS := Lib.hid (hs.below hb); clear hs
  have h0 := Lib.hid hb; clear hb; have hb := Below.refl (w.alloc (.cells (strC A xs.length c a0 F G l).toArray 31)).heap.size (w.alloc (.cells (strC A xs.length c a0 F G l).toArray 31))
  have HB := Lib.hid hn; have HI := Lib.hid (show (xs.length : Int) ≤ 4294967296 from by omega); have HL := Lib.hid (show xs.length ≤ 4294967296 from by omega)
  have hpos : ¬ (1048576 - (xs.length : Int) < 0) := by omega
  have hp : ¬ (1 + (xs.length : Int) < 0) := by omega
  clear hn
  have CS : Hid (∀ (B : Option Addr) (d : Nat) (W : World), Sl W B xs → Calls Try.prog 24 #[.agg (strC B xs.length d a0 F G l).toArray] W (MutePost (vsB xs.length a0 F G l) xs.length a0 F G l W)) := fun B d W h => c_sMuteString B d xs a0 F G l W h HB.out
  have CI : Hid (∀ (B : Option Addr) (d : Nat) (W : World), Calls Try.prog 25 #[.agg (strC B xs.length d a0 F G l).toArray] W (MutePost (vsB xs.length a0 F G l) xs.length a0 F G l W)) := fun B d W => c_iMuteString B xs.length d a0 F G l W HB.out
  unfold MutePost at CS CI
  have HNN := Lib.hid (show ((muN (vsB xs.length a0 F G l) xs.length : Nat) : Int) ≤ 4294967296 from by have := HI.out; have := muN_le (vsB xs.length a0 F G l) xs.length; omega)
  generalize muN (vsB xs.length a0 F G l) xs.length = N at CS CI HNN
  generalize muA (vsB xs.length a0 F G l) a0 = a1 at CS CI
  generalize muF (vsB xs.length a0 F G l) F = F1 at CS CI
  generalize muF (vsB xs.length a0 F G l) G = G1 at CS CI
  generalize muN (vsB xs.length a0 F G l) l = l1 at CS CI
  generalize muQ (vsB xs.length a0 F G l) = Q1 at CS CI
  have hp2 : ¬ (1 + (N : Int) < 0) := by omega
  have hqq : (Q1 != Q1) = false := by simp
  go_enter Try.func7, Try.ntmps7
  go_wp2_with (first | (refine wpList_load_cells rfl 31 _ rfl _ rfl (q.below hb q.lt) Try.underlying31 rfl info_strl ?_))
  refine (c_szString _ _ _ _ _ _ _ _ _ (by decide) HB.out).mono ?_; rintro e w1 ⟨rfl, b⟩
  replace hb := seq_below hb b; clear b
  go_wp2_with (first | (refine wpList_load_cells rfl 31 _ rfl _ rfl (q.below hb q.lt) Try.underlying31 rfl info_strl ?_))
  refine (c_toString _ _ _ _ _ _ _ _ (HS.out.below hb) HL.out).mono ?_; rintro e w2 ⟨gZ, rfl, hZ, _, b⟩
  replace hb := seq_below hb b; clear b
  go_wp2_with fail
  refine (CS.out _ _ _ (Sl.of_blk hZ)).mono ?_; rintro e w3 ⟨A1, c1, rfl, oS, b⟩
  clear hZ
  replace hb := seq_below hb b; clear b
  go_wp2_with (first | (refine wpList_store_newest (cells := (strC A1 N c1 a1 F1 G1 l1).toArray) rfl 37 _ _ rfl rfl rfl info_str rfl rfl (fun w4 b4 hrS => ?_); replace hb := seq_below hb b4; replace oS := oS.below b4 (Nat.le_refl _); clear b4) | (refine wpList_load_cells rfl 31 _ rfl _ rfl (q.below hb q.lt) Try.underlying31 rfl info_strl ?_))
  refine (c_toString _ _ _ _ _ _ _ _ (HS.out.below hb) HL.out).mono ?_; rintro e w5 ⟨gX, rfl, hX, hgX, b⟩
  have NO := Lib.hid (fun k (hk : ownBlk A1 = some k) => Nat.ne_of_lt (Nat.lt_of_lt_of_le (oS.lt k hk) hgX)); have NS := Lib.hid (Nat.ne_of_lt (Nat.lt_of_lt_of_le hrS.lt hgX)); have NB := Lib.hid (Nat.le_trans hb.size hgX); clear hgX
  replace hb := seq_below hb b; replace oS := oS.below b (Nat.le_refl _); replace hrS := hrS.below b hrS.lt; clear b
  go_wp2_with (first | (refine wpList_store_newest (cells := (strC (some ⟨gX, 0, none⟩) xs.length xs.length a0 F G l).toArray) rfl 37 _ _ rfl rfl rfl info_str rfl rfl (fun w6 b4 hrX => ?_); replace hb := seq_below hb b4; replace oS := oS.below b4 (Nat.le_refl _); replace hrS := hrS.below b4 hrS.lt; replace hX := hX.below b4 hX.lt; clear b4) | (refine wpList_load_cells rfl 37 _ rfl _ rfl hrX Try.underlying37 rfl info_str ?_))
  refine (CI.out _ _ _).mono ?_; rintro e w7 ⟨A2, c2, rfl, oI, b⟩
  have NI := Lib.hid (fun k (hk : ownBlk A2 = some k) => Nat.ne_of_gt (Nat.lt_of_lt_of_le hX.lt (oI.ge k hk))); have NIO := Lib.hid (fun k (hk : ownBlk A2 = some k) k1 (hk1 : ownBlk A1 = some k1) => Nat.ne_of_lt (Nat.lt_of_lt_of_le (oS.lt k1 hk1) (oI.ge k hk))); have NIS := Lib.hid (fun k (hk : ownBlk A2 = some k) => Nat.ne_of_lt (Nat.lt_of_lt_of_le hrS.lt (oI.ge k hk))); have NIB := Lib.hid (fun k (hk : ownBlk A2 = some k) => Nat.le_trans hb.size (oI.ge k hk))
  replace hb := seq_below hb b; replace oS := oS.below b (Nat.le_refl _); replace hrS := hrS.below b hrS.lt; replace hX := hX.below b hX.lt; replace hrX := hrX.below b hrX.lt; clear b
  go_wp2_with (first | (refine wpList_store_newest (cells := (strC A2 N c2 a1 F1 G1 l1).toArray) rfl 37 _ _ rfl rfl rfl info_str rfl rfl (fun w8 b4 hrI => ?_); have NII := Lib.hid (fun k (hk : ownBlk A2 = some k) => Nat.ne_of_gt (oI.lt k hk)); have NIX := Lib.hid (Nat.ne_of_gt hX.lt); replace hb := seq_below hb b4; replace oS := oS.below b4 (Nat.le_refl _); replace hrS := hrS.below b4 hrS.lt; replace hX := hX.below b4 hX.lt; replace hrX := hrX.below b4 hrX.lt; replace oI := oI.below b4 (Nat.le_refl _); clear b4) | (refine wpList_load_cells rfl 37 _ rfl _ rfl hrI Try.underlying37 rfl info_str ?_) | (refine wpList_load_cells rfl 37 _ rfl _ rfl hrS Try.underlying37 rfl info_str ?_))
  refine (c_eqString _ _ _ _ _ _ _ _ _ _ _ _ _ _ _ oI.sl oS.sl List.length_replicate List.length_replicate HNN.out (fun _ _ => rfl) (FilEq.refl _) (FilEq.refl _) rfl).mono ?_; rintro e w9 ⟨rfl, b⟩
  replace hb := seq_below hb b; replace oS := oS.below b (Nat.le_refl _); replace hrS := hrS.below b hrS.lt; replace hX := hX.below b hX.lt; replace hrX := hrX.below b hrX.lt; replace oI := oI.below b (Nat.le_refl _); replace hrI := hrI.below b hrI.lt; clear b
  go_wp2_with fail
  have s0 := (Below.refl w9.heap.size w9).drew
  refine wp_region_seq (S := fun w' => Below w9.heap.size w9 w') [(true, 0), (true, 1), (false, 2), (false, 3), (false, 4)] (by kernel_rfl) (by kernel_rfl) (by kernel_rfl) (fun _ _ d _ _ h => by cases d <;> exact h) s0 ?_
  refine wpSeq_held rfl (yields_load_cells rfl _ _ rfl _ rfl hrX hrX.lt (fun _ h => h) Try.underlying37 rfl info_str) ?_
  refine wpSeq_held rfl (yields_load_cells rfl _ _ rfl _ rfl (q.below hb q.lt) (q.below hb q.lt).lt (fun _ h => h) Try.underlying31 rfl info_strl) ?_
  refine wpSeq_step rfl rfl (fun K hK => ?_)
  go_wp2_with fail
  refine (c_toString _ _ _ _ _ _ _ _ ((HS.out.below hb).below s0) HL.out).mono ?_; rintro e wr1 ⟨gY, rfl, hY, _, b1⟩
  have s1 := seq_below s0 b1
  refine hK _ _ ⟨s1, ?_⟩; clear hK
  refine wpSeq_step rfl rfl (fun K hK => ?_)
  go_wp2_with fail
  refine (c_eqString _ _ _ _ _ _ _ _ _ _ _ _ _ _ _ (Sl.of_blk (hX.below s1 hX.lt)) (Sl.of_blk hY) rfl rfl (by have := HL.out; omega) (fun _ _ => rfl) (FilEq.refl _) (FilEq.refl _) rfl).mono ?_; rintro e wr2 ⟨rfl, b2⟩
  have s2 := seq_below s1 b2
  refine hK _ _ ⟨s2, ?_⟩; clear hK
  refine wpSeq_step rfl rfl (fun K hK => ?_)
  go_wp2_with fail
  refine ⟨s2, ?_⟩
  refine wpSeq_nil ?_
  replace hb := seq_below hb s2; replace oS := oS.below s2 (Nat.le_refl _); replace hrS := hrS.below s2 hrS.lt; replace hX := hX.below s2 hX.lt; replace hrX := hrX.below s2 hrX.lt; replace oI := oI.below s2 (Nat.le_refl _); replace hrI := hrI.below s2 hrI.lt
  clear s0 s1 s2 b1 b2 hY
  go_wp2_with (first | (refine wpList_load_cells rfl 37 _ rfl _ rfl hrX Try.underlying37 rfl info_str ?_))
  refine (c_markString _ _ _ _ _ _ _ _ _ _ _ (Own.of_blk hX (Nat.le_refl _) (by have := HL.out; unfold maxLen; omega)) rfl HI.out (by decide) (by decide)).mono ?_; rintro e w10 ⟨rfl, _, b⟩
  replace hb := hb.trans (below_grownBy b hb.size (fun k hk => by cases hk; exact NB.out)); replace hrS := hrS.grown b (fun e => NS.out (by cases e; rfl)); replace hrI := hrI.grown b (fun e => NIX.out (by cases e; rfl)); replace oS := oS.kept b (fun k hk e => NO.out k hk (by cases e; rfl)); replace oI := oI.kept b (fun k hk e => NI.out k hk (by cases e; rfl))
  clear b
  clear hrX hX
  go_wp2_with (first | (refine wpList_load_cellsG rfl 37 _ rfl _ rfl hrI Try.underlying37 rfl info_str ?_) | (refine wpList_load_cellsG rfl 37 _ rfl _ rfl hrS Try.underlying37 rfl info_str ?_))
  refine (c_eqString _ _ _ _ _ _ _ _ _ _ _ _ _ _ _ oI.sl oS.sl List.length_replicate List.length_replicate HNN.out (fun _ _ => rfl) (FilEq.refl _) (FilEq.refl _) rfl).mono ?_; rintro e w11 ⟨rfl, b⟩
  replace hb := seq_below hb b; replace oS := oS.below b (Nat.le_refl _); replace hrS := hrS.below b hrS.lt; replace oI := oI.below b (Nat.le_refl _); replace hrI := hrI.below b hrI.lt; clear b
  go_wp2_with (first | (refine wpList_load_cells rfl 37 _ rfl _ rfl hrI Try.underlying37 rfl info_str ?_))
  refine (c_markString _ _ _ _ _ _ _ _ _ _ _ oI List.length_replicate HNN.out (by decide) (by decide)).mono ?_; rintro e w12 ⟨rfl, oJ, b⟩
  replace hb := hb.trans (below_grownBy b hb.size NIB.out); replace hrS := hrS.grown b (fun e => NIS.out _ e.symm rfl); replace hrI := hrI.grown b (fun e => NII.out _ e.symm rfl); replace oS := oS.kept b (fun k hk e => NIO.out _ e.symm k hk rfl); clear b oI
  go_wp2_with (first | (refine wpList_load_cells rfl 37 _ rfl _ rfl hrI Try.underlying37 rfl info_str ?_))
  refine (c_heldString _ _ _ _ _ _ _ _ _ oJ.sl HNN.out (by decide) (by decide)).mono ?_; rintro e w13 ⟨rfl, b⟩
  replace hb := seq_below hb b; replace oS := oS.below b (Nat.le_refl _); replace hrS := hrS.below b hrS.lt; replace hrI := hrI.below b hrI.lt; replace oJ := oJ.below b (Nat.le_refl _); clear b
  go_wp2_with (first | (refine wpList_load_cells rfl 31 _ rfl _ rfl (q.below hb q.lt) Try.underlying31 rfl info_strl ?_))
  refine (c_toString _ _ _ _ _ _ _ _ (HS.out.below hb) HL.out).mono ?_; rintro e w14 ⟨gW, rfl, hW, _, b⟩
  replace hb := seq_below hb b; replace oS := oS.below b (Nat.le_refl _); replace hrS := hrS.below b hrS.lt; replace hrI := hrI.below b hrI.lt; replace oJ := oJ.below b (Nat.le_refl _); clear b
  go_wp2_with fail
  refine (CI.out _ _ _).mono ?_; rintro e w15 ⟨A3, c3, rfl, oH, b⟩
  clear hW
  replace hb := seq_below hb b; replace oS := oS.below b (Nat.le_refl _); replace hrS := hrS.below b hrS.lt; replace hrI := hrI.below b hrI.lt; replace oJ := oJ.below b (Nat.le_refl _); clear b
  go_wp2_with (first | (refine wpList_store_newest (cells := (strC A3 N c3 a1 F1 G1 l1).toArray) rfl 37 _ _ rfl rfl rfl info_str rfl rfl (fun w16 b4 hrH => ?_); replace hb := seq_below hb b4; replace oS := oS.below b4 (Nat.le_refl _); replace hrS := hrS.below b4 hrS.lt; replace hrI := hrI.below b4 hrI.lt; replace oJ := oJ.below b4 (Nat.le_refl _); replace oH := oH.below b4 (Nat.le_refl _); clear b4) | (refine wpList_load_cells rfl 37 _ rfl _ rfl hrH Try.underlying37 rfl info_str ?_) | (refine wpList_load_cells rfl 37 _ rfl _ rfl hrS Try.underlying37 rfl info_str ?_))
  refine (c_eqString _ _ _ _ _ _ _ _ _ _ _ _ _ _ _ oH.sl oS.sl List.length_replicate List.length_replicate HNN.out (fun _ _ => rfl) (FilEq.refl _) (FilEq.refl _) rfl).mono ?_; rintro e w17 ⟨rfl, b⟩
  replace hb := seq_below hb b; replace oS := oS.below b (Nat.le_refl _); replace hrS := hrS.below b hrS.lt; replace hrI := hrI.below b hrI.lt; replace oJ := oJ.below b (Nat.le_refl _); replace oH := oH.below b (Nat.le_refl _); replace hrH := hrH.below b hrH.lt; clear b
  go_wp2_with (first | (refine wpList_load_cells rfl 37 _ rfl _ rfl hrI Try.underlying37 rfl info_str ?_))
  refine (c_heldString _ _ _ _ _ _ _ _ _ oJ.sl HNN.out (by decide) (by decide)).mono ?_; rintro e w18 ⟨rfl, b⟩
  replace hb := seq_below hb b; replace oS := oS.below b (Nat.le_refl _); replace hrS := hrS.below b hrS.lt; replace hrI := hrI.below b hrI.lt; replace oJ := oJ.below b (Nat.le_refl _); replace oH := oH.below b (Nat.le_refl _); replace hrH := hrH.below b hrH.lt; clear b
  go_wp2_with fail
  go_ret
  exact ⟨rfl, seq_below h0.out hb⟩
theorem walk (w : World) (A : Option Addr) (c : Nat) (xs : List Nat) (a0 : Int) (F G : Fil) (l : Nat) (hs : Sl w A xs) (_ : (Lit.int .i64 a0).wf = true) (hm : xs.length ≤ maxLen) :
    Calls Try.prog 7 #[.agg (strC A xs.length c a0 F G l).toArray] w fun e w' => e = .returned (.bool true) ∧ Below w.heap.size w w' := by
  by_cases hbig : 1048576 < (xs.length : Int)
  · exact walk_big w A c xs a0 F G l (by unfold maxLen at hm; omega) hbig
  · exact walk_ok w A c xs a0 F G l hs (by omega)

theorem own : ownKnob Try.prog.godebug = none := by kernel_rfl
theorem laidOut : laidOutB Try.prog = true := by kernel_rfl
set_option maxRecDepth 100000 in
theorem lifted (os : Os) (started : os.Started) (H : Type) (enc : TypeId × Value → H) :
    ReturnsInHanded {} Try.checked os 7 .any (Rows.fnExactMuteStringSpec.pre6 enc Try.prog Try.f7 [] false) (Rows.fnExactMuteStringSpec.post enc Try.prog Try.f7 false true false false) := by
  refine law_lifted (C := Try.checked) own started (by kernel_rfl) Try.func7
    (ChangeSpec.witness6 (enc := enc) (C := Try.checked) false ⟨#[], #[.agg (strC none 0 0 0 ⟨0, 0, 0, 0, 0, 0⟩ ⟨0, 0, 0, 0, 0, 0⟩ 0).toArray], []⟩ 8 (by kernel_rfl) (by kernel_rfl) (by kernel_rfl) (by kernel_rfl))
    rfl 1 rfl (fun ds h => by match ds, h with | [d0], _ => exact ⟨rfl, rfl, rfl⟩) laidOut (of_decide_eq_true (by kernel_rfl)) 4 Try.underlying4 rfl ?_
  intro W base args ds p hval hA
  rw [Try.params7] at hA hval
  obtain ⟨v0, d0, rfl, rfl, h0⟩ := trodAll_one hA
  obtain ⟨A0, c0, xs0, n0, F0, G0, l0, rfl, hs0, hw0, hm0⟩ := open_str strT (hval 0 _ _ rfl rfl) h0
  exact walk W A0 c0 xs0 n0 F0 G0 l0 hs0 hw0 hm0
theorem over : Rows.fnExactMuteStringRow.holds Try.pinned (OpenSpec.ofChange Rows.fnExactMuteStringSpec) :=
  OpenClaim.holds_of_wide 7 Try.f7 rfl rfl rfl rfl rfl rfl rfl ⟨rfl, rfl, rfl, rfl, rfl⟩ rfl rfl rfl rfl rfl (by kernel_rfl) Try.func7 (by kernel_rfl)
    (of_decide_eq_true (by kernel_rfl)) (by unfold Func.isWrapper; first | (rw [if_pos (by decide +kernel)]; kernel_rfl) | (rw [if_neg (by decide +kernel)]; exact ⟨rfl, rfl⟩))
    (fun os started H enc _ => lifted os started H enc)
/-- THE STATEMENT. -/
theorem proved : Rows.FnExactMuteStringSaid := over
#print axioms proved
end Go.Proofs.Ytpchebclhjgcmaa.fnExactMuteString
