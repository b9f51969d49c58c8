/- The statement Rows.FnExactReadStringSaid: the law FnExactReadString returns true for every input, and its arguments read as before. No condition. -/
import Derived.Test.YtdhpaglcggeknaaGreatDoorRows
import Derived.Test.YtdhpaglcggeknaaGreatDoorCards
import Derived.Test.YtdhpaglcggeknaaGreatDoorTie
import Derived.Test.YtdhpaglcggeknaaGreatDoorAL
import Derived.SevenTiedAt
import Derived.Stop.LaidErr
import Derived.Lib.LaidTab
import Derived.Lay
import Derived.Test.YtdhpaglcggeknaaGreatDoorRv
namespace Go.Proofs.YtdhpaglcggeknaaGreatDoor.fnExactReadString
open Go.ChangeShapes Go.WideShapes Go.ChangeAt Go.RowKit Go.Fl

theorem star : "*" ++ "errors.errorString" = "*errors.errorString" := by decide
theorem row_err (u : TypeId) (h : Tryz.prog.typeName? 3 u = some "*errors.errorString") : u = 142 :=
  typeName_ptr_named (nm := "errors.errorString") (by rw [star]; kernel_rfl) (by kernel_rfl) (by decide) u (by rw [star]; exact h)
theorem laid_of {W : World} (hL : laidMetH Tryz.prog Rows.fnExactReadStringRow.laid W) : (Tz W ∧ Ev W) ∧ Pw W := by
  rw [MakeChecks.laidMetH_plain _ _ _ (by kernel_rfl)] at hL
  have h2 := laidMet.tail hL
  have h3 := laidMet.tail h2
  have h4 := laidMet.tail h3
  have h5 := laidMet.tail h4
  have h6 := laidMet.tail h5
  refine ⟨⟨?_, ?_, ?_⟩, ?_⟩
  · have hT := Lib.tabIs_of_head (k := .u8) (zs := [0, 1, 56, 2, 57, 49, 28, 3, 61, 58, 42, 50, 38, 29, 17, 4, 62, 47, 59, 36, 45, 43, 51, 22, 53, 39, 33, 30, 24, 18, 12, 5, 63, 55, 48, 27, 60, 41, 37, 16, 46, 35, 44, 21, 52, 32, 23, 11, 54, 26, 40, 15, 34, 20, 31, 10, 25, 14, 19, 9, 13, 8, 7, 6]) (name := "math/bits.deBruijn64tab") (show Tryz.prog.globalNamed "math/bits.deBruijn64tab" = some 8 by kernel_rfl) (show (Tryz.prog.globals[8]?).map (·.type) = some 155 by kernel_rfl) Tryz.underlying155 Tryz.underlying5 (by kernel_rfl) (by kernel_rfl) h2
    have hc := hT.cell (show Tryz.prog.globalNamed "math/bits.deBruijn64tab" = some 8 by kernel_rfl) 15 (by decide)
    exact ⟨hc, World.block_lt_of_cell? _ _ hc⟩
  · obtain ⟨a, _, hv, _⟩ := laid_sentinel h6 (show Tryz.prog.globalNamed "strconv.ErrSyntax" = some 2 by kernel_rfl) (show (Tryz.prog.globals[2]?).map (·.type) = some 69 by kernel_rfl) Tryz.underlying69 row_err Tryz.underlying142 Tryz.underlying144 rfl rfl Tryz.underlying9 (by kernel_rfl) (by kernel_rfl)
    exact ⟨_, _, hv⟩
  · obtain ⟨a, _, hv, _⟩ := laid_sentinel h5 (show Tryz.prog.globalNamed "strconv.ErrRange" = some 3 by kernel_rfl) (show (Tryz.prog.globals[3]?).map (·.type) = some 69 by kernel_rfl) Tryz.underlying69 row_err Tryz.underlying142 Tryz.underlying144 rfl rfl Tryz.underlying9 (by kernel_rfl) (by kernel_rfl)
    exact ⟨_, _, hv⟩
  · have e : (Lib.pow10Tab : List Int) = [1, 10, 100, 1000, 10000, 100000, 1000000, 10000000, 100000000, 1000000000, 10000000000, 100000000000, 1000000000000, 10000000000000, 100000000000000, 1000000000000000, 10000000000000000, 100000000000000000, 1000000000000000000, 10000000000000000000] := by decide
    have hT := Lib.tabIs_of_head (k := .u64) (zs := [1, 10, 100, 1000, 10000, 100000, 1000000, 10000000, 100000000, 1000000000, 10000000000, 100000000000, 1000000000000, 10000000000000, 100000000000000, 1000000000000000, 10000000000000000, 100000000000000000, 1000000000000000000, 10000000000000000000]) (name := "internal/strconv.uint64pow10") (show Tryz.prog.globalNamed "internal/strconv.uint64pow10" = some 6 by kernel_rfl) (show (Tryz.prog.globals[6]?).map (·.type) = some 146 by kernel_rfl) Tryz.underlying146 Tryz.underlying67 (by kernel_rfl) (by kernel_rfl) h3
    unfold Pw
    rw [e]
    exact hT
theorem walk_big (t : ByteArray) (w : World) (h : ¬ (t.size : Int) ≤ 1048576) :
    Calls Tryz.prog 3 #[.string t] w fun e w' => e = .returned (.bool true) ∧ Below w.heap.size w w' := by
  have h1 : (1048576 : Int) < t.size := by omega
  go_enter Tryz.func3, Tryz.ntmps3
  go_wp2
  go_ret
  exact ⟨rfl, Below.refl _ _⟩
set_option maxRecDepth 20000 in
set_option maxHeartbeats 2000000 in
theorem walk_ok (s : List UInt8) (w : World) (hs : s.length ≤ 1048576) (hT : Tz w) (hE : Ev w) (hM : Mx w) (hP : Pw w) :
    Calls Tryz.prog 3 #[.string (bs s)] w fun e w' => e = .returned (.bool true) ∧ Below w.heap.size w w' := by
  have hsz : (bs s).size = s.length := bs_size s
  have CS : Hid (∀ W, Calls Tryz.prog 4 #[.string (bs s)] W (RsPost s W)) := Lib.hid (fun W => c_sReadString s hs W)
  have CI : Hid (∀ W, Tz W → Ev W → Mx W → Pw W → Calls Tryz.prog 5 #[.string (bs s)] W (RsPost s W)) := Lib.hid (fun W h1 h2 h3 h4 => c_iReadString s hs W h1 h2 h3 h4)
  have HT := Lib.hid hT; have HE := Lib.hid hE; have HM := Lib.hid hM; have HP := Lib.hid hP
  have ht : ((bs s).size : Int) ≤ 1048576 := by omega
  clear hs hT hE hM hP hsz
  obtain ⟨t, hbt⟩ : ∃ t, bs s = t := ⟨_, rfl⟩
  rw [hbt] at CS CI ht ⊢
  clear hbt
  have hb := Below.refl w.heap.size w
  go_enter Tryz.func3, Tryz.ntmps3
  go_wp2_with fail
  refine (CS.out _).mono ?_; rintro e w1 ⟨A1, c1, n1, xs1, a1, F1, G1, l1, q1, rfl, oS, rS, b⟩
  replace hb := seq_below hb b; clear b
  have RS := Lib.hid rS; have HI := Lib.hid (show (n1 : Int) ≤ 4294967296 from by have := rS.le; omega); have hp : ¬ (1 + (n1 : Int) < 0) := by omega
  have hqq : (q1 != q1) = false := by simp
  clear rS
  go_wp2_with (first | (refine wpList_store_newest (cells := (strC A1 n1 c1 (a1 : Int) F1 G1 l1).toArray) rfl 31 _ _ rfl rfl rfl info_str rfl rfl (fun w2 b4 hrS => ?_); replace hb := seq_below hb b4; replace oS := oS.below b4 (Nat.le_refl _); clear b4))
  refine (CI.out _ (HT.out.on hb) (HE.out.on hb) (HM.out.on hb) (HP.out.on hb)).mono ?_; rintro e w3 ⟨A2, c2, n2, xs2, a2, F2, G2, l2, q2, rfl, oI, rI, b⟩
  have NIO := Lib.hid (fun k (hk : ownBlk A2 = some k) k1 (hk1 : ownBlk A1 = some k1) => Nat.ne_of_lt (Nat.lt_of_lt_of_le (oS.lt k1 hk1) (oI.ge k hk))); have NIS := Lib.hid (fun k (hk : ownBlk A2 = some k) => Nat.ne_of_lt (Nat.lt_of_lt_of_le hrS.lt (oI.ge k hk))); have NIB := Lib.hid (fun k (hk : ownBlk A2 = some k) => Nat.le_trans hb.size (oI.ge k hk))
  replace hb := seq_below hb b; replace oS := oS.below b (Nat.le_refl _); replace hrS := hrS.below b hrS.lt; clear b
  obtain ⟨e1, e4, e5, e6, e7, e2, e3⟩ := rI.same RS.out
  subst e1; subst e2; subst e3; subst e4; subst e5; subst e6; subst e7
  clear rI
  go_wp2_with (first | (refine wpList_store_newest (cells := (strC A2 n2 c2 (a2 : Int) F2 G2 l2).toArray) rfl 31 _ _ rfl rfl rfl info_str rfl rfl (fun w4 b4 hrI => ?_); have NII := Lib.hid (fun k (hk : ownBlk A2 = some k) => Nat.ne_of_gt (oI.lt k hk)); replace hb := seq_below hb b4; replace oS := oS.below b4 (Nat.le_refl _); replace hrS := hrS.below b4 hrS.lt; replace oI := oI.below b4 (Nat.le_refl _); clear b4) | (refine wpList_load_cells rfl 31 _ rfl _ rfl hrI Tryz.underlying31 rfl info_str ?_) | (refine wpList_load_cells rfl 31 _ rfl _ rfl hrS Tryz.underlying31 rfl info_str ?_))
  refine (c_eqString _ _ _ _ _ _ _ _ _ _ _ _ _ _ _ oI.sl oS.sl RS.out.1 RS.out.1 HI.out (fun _ _ => rfl) (FilEq.refl _) (FilEq.refl _) rfl).mono ?_; rintro e w5 ⟨rfl, b⟩
  replace hb := seq_below hb b; replace oS := oS.below b (Nat.le_refl _); replace hrS := hrS.below b hrS.lt; replace oI := oI.below b (Nat.le_refl _); replace hrI := hrI.below b hrI.lt; clear b
  go_wp2_with (first | (refine wpList_load_cells rfl 31 _ rfl _ rfl hrI Tryz.underlying31 rfl info_str ?_))
  refine (c_markString _ _ _ _ _ _ _ _ _ _ _ oI RS.out.1 HI.out (by decide) (by decide)).mono ?_; rintro e w6 ⟨rfl, oJ, b⟩
  replace hb := hb.trans (below_grownBy b hb.size NIB.out); replace hrS := hrS.grown b (fun e => NIS.out _ e.symm rfl); replace hrI := hrI.grown b (fun e => NII.out _ e.symm rfl); replace oS := oS.kept b (fun k hk e => NIO.out _ e.symm k hk rfl); clear b oI
  go_wp2_with (first | (refine wpList_load_cells rfl 31 _ rfl _ rfl hrI Tryz.underlying31 rfl info_str ?_))
  refine (c_heldString _ _ _ _ _ _ _ _ _ oJ.sl HI.out (by decide) (by decide)).mono ?_; rintro e w7 ⟨rfl, b⟩
  replace hb := seq_below hb b; replace oS := oS.below b (Nat.le_refl _); replace hrS := hrS.below b hrS.lt; replace hrI := hrI.below b hrI.lt; replace oJ := oJ.below b (Nat.le_refl _); clear b
  go_wp2_with fail
  refine (CI.out _ (HT.out.on hb) (HE.out.on hb) (HM.out.on hb) (HP.out.on hb)).mono ?_; rintro e w8 ⟨A3, c3, n3, xs3, a3, F3, G3, l3, q3, rfl, oH, rI, b⟩
  replace hb := seq_below hb b; replace oS := oS.below b (Nat.le_refl _); replace hrS := hrS.below b hrS.lt; replace hrI := hrI.below b hrI.lt; replace oJ := oJ.below b (Nat.le_refl _); clear b
  obtain ⟨e1, e4, e5, e6, e7, e2, e3⟩ := rI.same RS.out
  subst e1; subst e2; subst e3; subst e4; subst e5; subst e6; subst e7
  clear rI
  go_wp2_with (first | (refine wpList_store_newest (cells := (strC A3 n3 c3 (a3 : Int) F3 G3 l3).toArray) rfl 31 _ _ rfl rfl rfl info_str rfl rfl (fun w9 b4 hrH => ?_); replace hb := seq_below hb b4; replace oS := oS.below b4 (Nat.le_refl _); replace hrS := hrS.below b4 hrS.lt; replace hrI := hrI.below b4 hrI.lt; replace oJ := oJ.below b4 (Nat.le_refl _); replace oH := oH.below b4 (Nat.le_refl _); clear b4) | (refine wpList_load_cells rfl 31 _ rfl _ rfl hrH Tryz.underlying31 rfl info_str ?_) | (refine wpList_load_cells rfl 31 _ rfl _ rfl hrS Tryz.underlying31 rfl info_str ?_))
  refine (c_eqString _ _ _ _ _ _ _ _ _ _ _ _ _ _ _ oH.sl oS.sl RS.out.1 RS.out.1 HI.out (fun _ _ => rfl) (FilEq.refl _) (FilEq.refl _) rfl).mono ?_; rintro e w10 ⟨rfl, b⟩
  replace hb := seq_below hb b; replace oS := oS.below b (Nat.le_refl _); replace hrS := hrS.below b hrS.lt; replace hrI := hrI.below b hrI.lt; replace oJ := oJ.below b (Nat.le_refl _); replace oH := oH.below b (Nat.le_refl _); replace hrH := hrH.below b hrH.lt; clear b
  go_wp2_with (first | (refine wpList_load_cells rfl 31 _ rfl _ rfl hrI Tryz.underlying31 rfl info_str ?_))
  refine (c_heldString _ _ _ _ _ _ _ _ _ oJ.sl HI.out (by decide) (by decide)).mono ?_; rintro e w11 ⟨rfl, b⟩
  replace hb := seq_below hb b; replace oS := oS.below b (Nat.le_refl _); replace hrS := hrS.below b hrS.lt; replace hrI := hrI.below b hrI.lt; replace oJ := oJ.below b (Nat.le_refl _); replace oH := oH.below b (Nat.le_refl _); replace hrH := hrH.below b hrH.lt; clear b
  go_wp2_with fail
  go_ret
  exact ⟨rfl, hb⟩
theorem walk (w : World) (hL : laidMetH Tryz.prog Rows.fnExactReadStringRow.laid w) (hsh : w.ShapedOpen Tryz.prog) (t : ByteArray) (_ : t.size ≤ maxLen) :
    Calls Tryz.prog 3 #[.string t] w fun e w' => e = .returned (.bool true) ∧ Below w.heap.size w w' := by
  by_cases h : (t.size : Int) ≤ 1048576
  · obtain ⟨⟨h1, h2⟩, h4⟩ := laid_of hL
    have h3 := walk_ok t.data.toList w (by rw [← Lib.size_eq]; omega) h1 h2 (mx_of hsh) h4
    rw [bs_of] at h3
    exact h3
  · exact walk_big t w h

theorem own : ownKnob Tryz.prog.godebug = none := by kernel_rfl
theorem laidOut : laidOutB Tryz.prog = true := by kernel_rfl
theorem door_met (os : Os) (args : Array Value) : laidMetH Tryz.prog Rows.fnExactReadStringRow.laid ((World.laidAll Tryz.prog os Rows.fnExactReadStringRow.laid).forCall (fun _ _ => 0) ⟨#[], args, []⟩).memory := by
  rw [MakeChecks.laidMetH_plain _ _ _ (by kernel_rfl)]; exact laidMet_laidAll _ (by kernel_rfl) (by kernel_rfl)
set_option maxRecDepth 100000 in
set_option maxHeartbeats 1000000 in
theorem lifted (os : Os) (started : os.Started) (H : Type) (enc : TypeId × Value → H) :
    ReturnsInHanded {} Tryz.checked os 3 .any (fun w args => (Rows.fnExactReadStringSpec.pre enc Tryz.prog Tryz.f3 [] false w args ∧ laidMetH Tryz.prog Rows.fnExactReadStringRow.laid w) ∧ sizedMet enc Tryz.prog Tryz.f3 (OpenSpec.ofChange Rows.fnExactReadStringSpec) false w args) (Rows.fnExactReadStringSpec.post enc Tryz.prog Tryz.f3 false true false false) := by
  refine law_laid (C := Tryz.checked) (L := Rows.fnExactReadStringRow.laid) own started (by kernel_rfl) Tryz.func3
    (ChangeSpec.witness_shaped (enc := enc) (C := Tryz.checked) (os := os) (X := fun w _ => laidMetH Tryz.prog Rows.fnExactReadStringRow.laid w) false (World.laidAll Tryz.prog os Rows.fnExactReadStringRow.laid) #[.string ByteArray.empty] 8 (World.laidAll_os _ _ _) (World.shaped_of_ZipB (by kernel_rfl) (by kernel_rfl)) (by kernel_rfl) (by kernel_rfl) (by kernel_rfl) (door_met os _))
    rfl 1 rfl (fun ds h => by match ds, h with | [d0], _ => exact ⟨rfl, rfl, rfl⟩) laidOut (of_decide_eq_true (by kernel_rfl)) 4 Tryz.underlying4 rfl ?_
  intro W base args ds p hval hA hL hsh
  rw [Tryz.params3] at hA hval
  obtain ⟨v0, d0, rfl, rfl, h0⟩ := trodAll_one hA
  obtain ⟨x0, rfl, _, _, wx0⟩ := Go.ChangeMaps.open_string Tryz.underlying9 (hval 0 _ _ rfl rfl) h0
  exact walk W hL hsh x0 wx0
theorem over : Rows.fnExactReadStringRow.holds Tryz.pinned (OpenSpec.ofChange Rows.fnExactReadStringSpec) :=
  OpenClaim.holds_of_wide 3 Tryz.f3 rfl rfl rfl rfl rfl rfl rfl ⟨rfl, rfl, rfl, rfl, rfl⟩ rfl rfl rfl rfl rfl (by kernel_rfl) Tryz.func3 (by kernel_rfl)
    (of_decide_eq_true (by kernel_rfl)) (by unfold Func.isWrapper; first | (rw [if_pos (by decide +kernel)]; kernel_rfl) | (rw [if_neg (by decide +kernel)]; exact ⟨rfl, rfl⟩))
    (fun os started H enc _ => lifted os started H enc)
/-- THE STATEMENT. -/
theorem proved : Rows.FnExactReadStringCardSaid :=
  Claim7.holds_tied_plain_at .later [] Rows.fnExactReadStringCard.laidKinds true Rows.fnExactReadStringCard.stood.harness true
    over (fun _ h => by cases h) (by kernel_rfl) (fun _ h => by cases h) fnExactReadString_row_tie rfl ⟨rfl, rfl⟩ (by kernel_rfl) rfl
    (fun f fn hf hfn => by
      obtain rfl : f = 3 := Option.some.inj ((show Tryz.prog.funcNamed "loop.example/g01173/laws.FnExactReadString" = some 3 by kernel_rfl).symm.trans hf) |>.symm
      obtain rfl : fn = Tryz.f3 := (Option.some.inj (Tryz.func3.symm.trans hfn)).symm
      exact ⟨by kernel_rfl, fun j t ht => by
        have hm : t ∈ Tryz.f3.params.toList := by simpa using Array.mem_of_getElem? ht
        have hall : (Tryz.f3.params.toList.all fun u => !Tryz.prog.wantsStandIn u) = true := by kernel_rfl
        exact (show Tryz.prog.wantsStandIn t = false by simpa using List.all_eq_true.1 hall t hm)⟩)
    (by kernel_rfl)
#print axioms proved
end Go.Proofs.YtdhpaglcggeknaaGreatDoor.fnExactReadString
