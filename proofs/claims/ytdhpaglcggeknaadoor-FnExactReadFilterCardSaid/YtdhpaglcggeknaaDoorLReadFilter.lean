/- The statement Rows.FnExactReadFilterSaid: the law FnExactReadFilter returns true for every input, and its arguments read as before. No condition. -/
import Derived.Test.YtdhpaglcggeknaaDoorRows
import Derived.Test.YtdhpaglcggeknaaDoorCards
import Derived.Test.YtdhpaglcggeknaaDoorTie
import Derived.Test.YtdhpaglcggeknaaDoorAL
import Derived.SevenTiedAt
import Derived.Stop.LaidErr
import Derived.Lib.LaidTab
import Derived.Lay
import Derived.Test.YtdhpaglcggeknaaDoorRj
namespace Go.Proofs.YtdhpaglcggeknaaDoor.fnExactReadFilter
open Go.ChangeShapes Go.WideShapes Go.ChangeAt Go.RowKit Go.Fl

theorem star : "*" ++ "errors.errorString" = "*errors.errorString" := by decide
theorem row_err (u : TypeId) (h : Tryd.prog.typeName? 3 u = some "*errors.errorString") : u = 164 :=
  typeName_ptr_named (nm := "errors.errorString") (by rw [star]; kernel_rfl) (by kernel_rfl) (by decide) u (by rw [star]; exact h)
theorem laid_of {W : World} (hL : laidMetH Tryd.prog Rows.fnExactReadFilterRow.laid W) : Tz W ∧ Ev W := by
  rw [MakeChecks.laidMetH_plain _ _ _ (by kernel_rfl)] at hL
  have h2 := laidMet.tail hL
  have h3 := laidMet.tail h2
  have h4 := laidMet.tail h3
  have h5 := laidMet.tail h4
  have h6 := laidMet.tail h5
  refine ⟨?_, ?_, ?_⟩
  · have hT := Lib.tabIs_of_head (k := .u8) (zs := [0, 1, 56, 2, 57, 49, 28, 3, 61, 58, 42, 50, 38, 29, 17, 4, 62, 47, 59, 36, 45, 43, 51, 22, 53, 39, 33, 30, 24, 18, 12, 5, 63, 55, 48, 27, 60, 41, 37, 16, 46, 35, 44, 21, 52, 32, 23, 11, 54, 26, 40, 15, 34, 20, 31, 10, 25, 14, 19, 9, 13, 8, 7, 6]) (name := "math/bits.deBruijn64tab") (show Tryd.prog.globalNamed "math/bits.deBruijn64tab" = some 6 by kernel_rfl) (show (Tryd.prog.globals[6]?).map (·.type) = some 168 by kernel_rfl) Tryd.underlying168 Tryd.underlying5 (by kernel_rfl) (by kernel_rfl) h2
    have hc := hT.cell (show Tryd.prog.globalNamed "math/bits.deBruijn64tab" = some 6 by kernel_rfl) 15 (by decide)
    exact ⟨hc, World.block_lt_of_cell? _ _ hc⟩
  · obtain ⟨a, _, hv, _⟩ := laid_sentinel h6 (show Tryd.prog.globalNamed "strconv.ErrSyntax" = some 2 by kernel_rfl) (show (Tryd.prog.globals[2]?).map (·.type) = some 86 by kernel_rfl) Tryd.underlying86 row_err Tryd.underlying164 Tryd.underlying166 rfl rfl Tryd.underlying9 (by kernel_rfl) (by kernel_rfl)
    exact ⟨_, _, hv⟩
  · obtain ⟨a, _, hv, _⟩ := laid_sentinel h5 (show Tryd.prog.globalNamed "strconv.ErrRange" = some 3 by kernel_rfl) (show (Tryd.prog.globals[3]?).map (·.type) = some 86 by kernel_rfl) Tryd.underlying86 row_err Tryd.underlying164 Tryd.underlying166 rfl rfl Tryd.underlying9 (by kernel_rfl) (by kernel_rfl)
    exact ⟨_, _, hv⟩
theorem walk_big (t : ByteArray) (w : World) (h : ¬ (t.size : Int) ≤ 1048576) :
    Calls Tryd.prog 7 #[.string t] w fun e w' => e = .returned (.bool true) ∧ Below w.heap.size w w' := by
  have h1 : (1048576 : Int) < t.size := by omega
  go_enter Tryd.func7, Tryd.ntmps7
  go_wp2
  go_ret
  exact ⟨rfl, Below.refl _ _⟩
set_option maxRecDepth 20000 in
set_option maxHeartbeats 2000000 in
theorem walk_ok (s : List UInt8) (w : World) (hs : s.length ≤ 1048576) (hT : Tz w) (hE : Ev w) (hM : Mx w) :
    Calls Tryd.prog 7 #[.string (bs s)] w fun e w' => e = .returned (.bool true) ∧ Below w.heap.size w w' := by
  have hsz : (bs s).size = s.length := bs_size s
  have CS := Lib.hid (fun W => c_sReadFilter s hs W)
  have CI := Lib.hid (fun W (h1 : Tz W) (h2 : Ev W) (h3 : Mx W) => c_iReadFilter s hs W h1 h2 h3)
  have HT := Lib.hid hT; have HE := Lib.hid hE; have HM := Lib.hid hM
  have ht : ((bs s).size : Int) ≤ 1048576 := by omega
  clear hs hT hE hM hsz
  obtain ⟨t, hbt⟩ : ∃ t, bs s = t := ⟨_, rfl⟩
  rw [hbt] at CS CI ht ⊢
  clear hbt
  go_enter Tryd.func7, Tryd.ntmps7
  go_wp2_with fail
  refine (CS.out _).mono ?_; rintro e w1 ⟨hr, b⟩
  have HB := Lib.hid b
  replace HT := Lib.hid (HT.out.on b); replace HE := Lib.hid (HE.out.on b); replace HM := Lib.hid (HM.out.on b)
  clear b
  rcases hr with ⟨F, hx, rfl⟩ | ⟨hx, rfl⟩
  all_goals
    have HX := Lib.hid hx
    clear hx
  · go_wp2_with (refine wpList_store_newest (cells := (filC F.k F.c0 F.c1 F.c2 F.s0 F.s1).toArray) rfl 33 _ _ rfl rfl rfl info_filt rfl rfl (fun w4 b4 hrS => ?_); replace HB := Lib.hid (seq_below HB.out b4); replace HT := Lib.hid (HT.out.on b4); replace HE := Lib.hid (HE.out.on b4); replace HM := Lib.hid (HM.out.on b4); have HS4 := Lib.hid hrS; clear b4 hrS)
    refine (CI.out _ HT.out HE.out HM.out).mono ?_; rintro e w5 ⟨hr, b⟩
    have H5 : Hid (e = .returned (.tuple #[.agg (filC F.k F.c0 F.c1 F.c2 F.s0 F.s1).toArray, .int .i64 0])) := Lib.hid (by
      rcases hr with ⟨G, hy, rfl⟩ | ⟨hy, rfl⟩
      · have := HX.out.symm.trans hy; first | (cases this; rfl) | (cases this)
      · have := HX.out.symm.trans hy; first | rfl | (cases this))
    rw [H5.out]
    clear hr H5
    replace HB := Lib.hid (seq_below HB.out b); replace HS4 := Lib.hid (HS4.out.below b HS4.out.lt); clear b
    go_wp2_with (first
      | (refine wpList_store_newest (cells := (filC F.k F.c0 F.c1 F.c2 F.s0 F.s1).toArray) rfl 33 _ _ rfl rfl rfl info_filt rfl rfl (fun w6 b6 hrI => ?_); replace HB := Lib.hid (seq_below HB.out b6); replace HS4 := Lib.hid (HS4.out.below b6 HS4.out.lt); have HI6 := Lib.hid hrI; clear b6 hrI)
      | (refine wpList_load_cells rfl 33 _ rfl _ rfl HI6.out Tryd.underlying33 rfl info_filt ?_)
      | (refine wpList_load_cells rfl 33 _ rfl _ rfl HS4.out Tryd.underlying33 rfl info_filt ?_))
    refine (c_eqFilter F.k _ _ _ _ _ _ _ _ _ _ _ rfl rfl rfl rfl rfl).mono ?_; rintro e w7 ⟨rfl, b⟩
    replace HB := Lib.hid (seq_below HB.out b); clear b
    go_wp2_with fail
    go_ret
    exact ⟨rfl, HB.out⟩
  · go_wp2_with (refine wpList_store_newest (cells := fzer.toArray) rfl 33 _ _ rfl rfl rfl info_filt rfl rfl (fun w4 b4 hrS => ?_); replace HB := Lib.hid (seq_below HB.out b4); replace HT := Lib.hid (HT.out.on b4); replace HE := Lib.hid (HE.out.on b4); replace HM := Lib.hid (HM.out.on b4); have HS4 := Lib.hid hrS; clear b4 hrS)
    refine (CI.out _ HT.out HE.out HM.out).mono ?_; rintro e w5 ⟨hr, b⟩
    have H5 : Hid (e = .returned (.tuple #[.agg fzer.toArray, .int .i64 5])) := Lib.hid (by
      rcases hr with ⟨G, hy, rfl⟩ | ⟨hy, rfl⟩
      · have := HX.out.symm.trans hy; first | (cases this; rfl) | (cases this)
      · have := HX.out.symm.trans hy; first | rfl | (cases this))
    rw [H5.out]
    clear hr H5
    replace HB := Lib.hid (seq_below HB.out b); replace HS4 := Lib.hid (HS4.out.below b HS4.out.lt); clear b
    go_wp2_with (first
      | (refine wpList_store_newest (cells := fzer.toArray) rfl 33 _ _ rfl rfl rfl info_filt rfl rfl (fun w6 b6 hrI => ?_); replace HB := Lib.hid (seq_below HB.out b6); replace HS4 := Lib.hid (HS4.out.below b6 HS4.out.lt); have HI6 := Lib.hid hrI; clear b6 hrI)
      | (refine wpList_load_cells rfl 33 _ rfl _ rfl HI6.out Tryd.underlying33 rfl info_filt ?_)
      | (refine wpList_load_cells rfl 33 _ rfl _ rfl HS4.out Tryd.underlying33 rfl info_filt ?_))
    refine (c_eqFilter 0 _ _ _ _ _ _ _ _ _ _ _ rfl rfl rfl rfl rfl).mono ?_; rintro e w7 ⟨rfl, b⟩
    replace HB := Lib.hid (seq_below HB.out b); clear b
    go_wp2_with fail
    go_ret
    exact ⟨rfl, HB.out⟩
theorem walk (w : World) (hL : laidMetH Tryd.prog Rows.fnExactReadFilterRow.laid w) (hsh : w.ShapedOpen Tryd.prog) (t : ByteArray) (_ : t.size ≤ maxLen) :
    Calls Tryd.prog 7 #[.string t] w fun e w' => e = .returned (.bool true) ∧ Below w.heap.size w w' := by
  by_cases h : (t.size : Int) ≤ 1048576
  · obtain ⟨h1, h2⟩ := laid_of hL
    have h3 := walk_ok t.data.toList w (by rw [← Lib.size_eq]; omega) h1 h2 (mx_of hsh)
    rw [bs_of] at h3
    exact h3
  · exact walk_big t w h

theorem own : ownKnob Tryd.prog.godebug = none := by kernel_rfl
theorem laidOut : laidOutB Tryd.prog = true := by kernel_rfl
theorem door_met (os : Os) (args : Array Value) : laidMetH Tryd.prog Rows.fnExactReadFilterRow.laid ((World.laidAll Tryd.prog os Rows.fnExactReadFilterRow.laid).forCall (fun _ _ => 0) ⟨#[], args, []⟩).memory := by
  rw [MakeChecks.laidMetH_plain _ _ _ (by kernel_rfl)]; exact laidMet_laidAll _ (by kernel_rfl) (by kernel_rfl)
set_option maxRecDepth 100000 in
set_option maxHeartbeats 1000000 in
theorem lifted (os : Os) (started : os.Started) (H : Type) (enc : TypeId × Value → H) :
    ReturnsInHanded {} Tryd.checked os 7 .any (fun w args => (Rows.fnExactReadFilterSpec.pre enc Tryd.prog Tryd.f7 [] false w args ∧ laidMetH Tryd.prog Rows.fnExactReadFilterRow.laid w) ∧ sizedMet enc Tryd.prog Tryd.f7 (OpenSpec.ofChange Rows.fnExactReadFilterSpec) false w args) (Rows.fnExactReadFilterSpec.post enc Tryd.prog Tryd.f7 false true false false) := by
  refine law_laid (C := Tryd.checked) (L := Rows.fnExactReadFilterRow.laid) own started (by kernel_rfl) Tryd.func7
    (ChangeSpec.witness_shaped (enc := enc) (C := Tryd.checked) (os := os) (X := fun w _ => laidMetH Tryd.prog Rows.fnExactReadFilterRow.laid w) false (World.laidAll Tryd.prog os Rows.fnExactReadFilterRow.laid) #[.string ByteArray.empty] 8 (World.laidAll_os _ _ _) (World.shaped_of_ZipB (by kernel_rfl) (by kernel_rfl)) (by kernel_rfl) (by kernel_rfl) (by kernel_rfl) (door_met os _))
    rfl 1 rfl (fun ds h => by match ds, h with | [d0], _ => exact ⟨rfl, rfl, rfl⟩) laidOut (of_decide_eq_true (by kernel_rfl)) 4 Tryd.underlying4 rfl ?_
  intro W base args ds p hval hA hL hsh
  rw [Tryd.params7] at hA hval
  obtain ⟨v0, d0, rfl, rfl, h0⟩ := trodAll_one hA
  obtain ⟨x0, rfl, _, _, wx0⟩ := Go.ChangeMaps.open_string Tryd.underlying9 (hval 0 _ _ rfl rfl) h0
  exact walk W hL hsh x0 wx0
theorem over : Rows.fnExactReadFilterRow.holds Tryd.pinned (OpenSpec.ofChange Rows.fnExactReadFilterSpec) :=
  OpenClaim.holds_of_wide 7 Tryd.f7 rfl rfl rfl rfl rfl rfl rfl ⟨rfl, rfl, rfl, rfl, rfl⟩ rfl rfl rfl rfl rfl (by kernel_rfl) Tryd.func7 (by kernel_rfl)
    (of_decide_eq_true (by kernel_rfl)) (by unfold Func.isWrapper; first | (rw [if_pos (by decide +kernel)]; kernel_rfl) | (rw [if_neg (by decide +kernel)]; exact ⟨rfl, rfl⟩))
    (fun os started H enc _ => lifted os started H enc)
/-- THE STATEMENT. -/
theorem proved : Rows.FnExactReadFilterCardSaid :=
  Claim7.holds_tied_plain_at .later [] Rows.fnExactReadFilterCard.laidKinds true Rows.fnExactReadFilterCard.stood.harness true
    over (fun _ h => by cases h) (by kernel_rfl) (fun _ h => by cases h) fnExactReadFilter_row_tie rfl ⟨rfl, rfl⟩ (by kernel_rfl) rfl
    (fun f fn hf hfn => by
      obtain rfl : f = 7 := Option.some.inj ((show Tryd.prog.funcNamed "loop.example/g01173/laws.FnExactReadFilter" = some 7 by kernel_rfl).symm.trans hf) |>.symm
      obtain rfl : fn = Tryd.f7 := (Option.some.inj (Tryd.func7.symm.trans hfn)).symm
      exact ⟨by kernel_rfl, fun j t ht => by
        have hm : t ∈ Tryd.f7.params.toList := by simpa using Array.mem_of_getElem? ht
        have hall : (Tryd.f7.params.toList.all fun u => !Tryd.prog.wantsStandIn u) = true := by kernel_rfl
        exact (show Tryd.prog.wantsStandIn t = false by simpa using List.all_eq_true.1 hall t hm)⟩)
    (by kernel_rfl)
#print axioms proved
end Go.Proofs.YtdhpaglcggeknaaDoor.fnExactReadFilter
