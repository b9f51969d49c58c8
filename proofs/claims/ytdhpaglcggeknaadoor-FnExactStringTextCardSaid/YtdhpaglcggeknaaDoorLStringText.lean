/- The statement Rows.FnExactStringTextSaid: the law FnExactStringText returns true for every input, and its arguments read as before. No condition. -/
import Derived.Test.YtdhpaglcggeknaaDoorRows
import Derived.Test.YtdhpaglcggeknaaDoorCards
import Derived.Test.YtdhpaglcggeknaaDoorTie
import Derived.Test.YtdhpaglcggeknaaDoorAL
import Derived.SevenTiedAt
import Derived.Stop.LaidErr
import Derived.Lib.LaidTab
import Derived.Test.YtdhpaglcggeknaaDoorPk
namespace Go.Proofs.YtdhpaglcggeknaaDoor.fnExactStringText
open Go.ChangeShapes Go.WideShapes Go.ChangeAt Go.RowKit Go.Fl

theorem tz_of {W : World} (hL : laidMetH Tryd.prog Rows.fnExactStringTextRow.laid W) : Tz W := by
  rw [MakeChecks.laidMetH_plain _ _ _ (by kernel_rfl)] at hL
  have h2 := laidMet.tail hL
  have hT := Lib.tabIs_of_head (k := .u8) (zs := [0, 1, 56, 2, 57, 49, 28, 3, 61, 58, 42, 50, 38, 29, 17, 4, 62, 47, 59, 36, 45, 43, 51, 22, 53, 39, 33, 30, 24, 18, 12, 5, 63, 55, 48, 27, 60, 41, 37, 16, 46, 35, 44, 21, 52, 32, 23, 11, 54, 26, 40, 15, 34, 20, 31, 10, 25, 14, 19, 9, 13, 8, 7, 6]) (name := "math/bits.deBruijn64tab") (show Tryd.prog.globalNamed "math/bits.deBruijn64tab" = some 6 by kernel_rfl) (show (Tryd.prog.globals[6]?).map (·.type) = some 168 by kernel_rfl) Tryd.underlying168 Tryd.underlying5 (by kernel_rfl) (by kernel_rfl) h2
  have hc := hT.cell (show Tryd.prog.globalNamed "math/bits.deBruijn64tab" = some 6 by kernel_rfl) 15 (by decide)
  exact ⟨hc, World.block_lt_of_cell? _ _ hc⟩
theorem pw_of {W : World} (hL : laidMetH Tryd.prog Rows.fnExactStringTextRow.laid W) : Pw W := by
  rw [MakeChecks.laidMetH_plain _ _ _ (by kernel_rfl)] at hL
  have h2 := laidMet.tail (laidMet.tail hL)
  have e : Lib.pow10Tab = [1, 10, 100, 1000, 10000, 100000, 1000000, 10000000, 100000000, 1000000000, 10000000000, 100000000000, 1000000000000, 10000000000000, 100000000000000, 1000000000000000, 10000000000000000, 100000000000000000, 1000000000000000000, 10000000000000000000] := by decide
  have hT := Lib.tabIs_of_head (k := .u64) (zs := [1, 10, 100, 1000, 10000, 100000, 1000000, 10000000, 100000000, 1000000000, 10000000000, 100000000000, 1000000000000, 10000000000000, 100000000000000, 1000000000000000, 10000000000000000, 100000000000000000, 1000000000000000000, 10000000000000000000]) (name := "internal/strconv.uint64pow10") (show Tryd.prog.globalNamed "internal/strconv.uint64pow10" = some 1 by kernel_rfl) (show (Tryd.prog.globals[1]?).map (·.type) = some 143 by kernel_rfl) Tryd.underlying143 Tryd.underlying108 (by kernel_rfl) (by kernel_rfl) h2
  unfold Pw
  rw [e]
  exact hT
set_option maxRecDepth 20000 in
set_option maxHeartbeats 2000000 in
theorem walk_big (w : World) (A : Option Addr) (c : Nat) (xs : List Nat) (a0 : Int) (F G : Fil) (l : Nat) (hm : (xs.length : Int) ≤ 9223372036854775807) (hbig : 1048576 < (xs.length : Int)) :
    Calls Tryd.prog 5 #[.agg (strC A xs.length c a0 F G l).toArray] w fun e w' => e = .returned (.bool true) ∧ Below w.heap.size w w' := by
  have q : Row (w.alloc (.cells (strC A xs.length c a0 F G l).toArray 40)) w.heap.size (strC A xs.length c a0 F G l).toArray 40 := Row.new _ _ _ _ rfl
  have hb := Go.Joins.below_alloc1 w (.cells (strC A xs.length c a0 F G l).toArray 40)
  have HB := Lib.hid hbig; have HM := Lib.hid hm; clear hbig hm
  go_enter Tryd.func5, Tryd.ntmps5
  go_wp2_with (first
    | (refine wpList_load_cells rfl 40 _ rfl _ rfl q Tryd.underlying40 rfl info_strl ?_)
    | (go_at_call 14; refine (c_szString_big _ _ _ _ _ _ _ _ _ (by decide) (by decide) HB.out HM.out).mono ?_; rintro e w1 ⟨rfl, b⟩))
  go_ret
  exact ⟨rfl, seq_below hb b⟩
set_option maxRecDepth 20000 in
set_option maxHeartbeats 2000000 in
theorem walk_ok (w : World) (A : Option Addr) (c : Nat) (xs : List Nat) (a0 : Int) (F G : Fil) (l : Nat) (hs : Sl w A xs) (hn : (xs.length : Int) ≤ 1048576) (hT : Tz w) (hP : Pw w) (hxb : ∀ v ∈ xs, v < 4294967296) (hF : FbF F) (hG : FbF G) (hl : l < 4294967296) :
    Calls Tryd.prog 5 #[.agg (strC A xs.length c a0 F G l).toArray] w fun e w' => e = .returned (.bool true) ∧ Below w.heap.size w w' := by
  have q : Row (w.alloc (.cells (strC A xs.length c a0 F G l).toArray 40)) w.heap.size (strC A xs.length c a0 F G l).toArray 40 := Row.new _ _ _ _ rfl
  have hb := Go.Joins.below_alloc1 w (.cells (strC A xs.length c a0 F G l).toArray 40)
  have HS := Lib.hid (hs.below hb); clear hs
  have HT := Lib.hid (hT.on hb); have HPW := Lib.hid (hP.on hb)
  have h0 := Lib.hid hb; clear hb; have hb := Below.refl (w.alloc (.cells (strC A xs.length c a0 F G l).toArray 40)).heap.size (w.alloc (.cells (strC A xs.length c a0 F G l).toArray 40))
  have HB := Lib.hid hn; have HI := Lib.hid (show (xs.length : Int) ≤ 4294967296 from by omega); have HL := Lib.hid (show xs.length ≤ 4294967296 from by omega)
  have hpos : ¬ (1048576 - (xs.length : Int) < 0) := by omega
  have hxn : ∀ k, k < xs.length → nth xs k < 4294967296 := fun k hk => by
    have : nth xs k = xs[k] := by simp [nth, hk]
    rw [this]; exact hxb _ (List.getElem_mem hk)
  have CS := Lib.hid (fun (B : Option Addr) (d : Nat) W (h : Sl W B xs) => c_sStringText B xs.length d a0 F G l xs W h rfl (by omega) hxn hF hG hl)
  have CI := Lib.hid (fun (B : Option Addr) (d : Nat) W (h : Sl W B xs) (h1 : Tz W) (h2 : Pw W) => c_iStringText B xs.length d a0 F G l xs W h rfl (by omega) hxn hF hG hl h1 h2)
  clear hn hxb hxn hF hG hl hT hP
  generalize bs (strTV xs xs.length a0 F G l) = V at *
  go_enter Tryd.func5, Tryd.ntmps5
  go_wp2_with (first | (refine wpList_load_cells rfl 40 _ rfl _ rfl (q.below hb q.lt) Tryd.underlying40 rfl info_strl ?_))
  refine (c_szString _ _ _ _ _ _ _ _ _ (by decide) HB.out).mono ?_; rintro e w1 ⟨rfl, b⟩
  replace hb := seq_below hb b; clear b
  go_wp2_with (first | (refine wpList_load_cells rfl 40 _ rfl _ rfl (q.below hb q.lt) Tryd.underlying40 rfl info_strl ?_))
  refine (c_toString _ _ _ _ _ _ _ _ (HS.out.below hb) HL.out).mono ?_; rintro e w2 ⟨gZ, rfl, hZ, _, b⟩
  replace hb := seq_below hb b; clear b
  go_wp2_with fail
  refine (CS.out _ _ _ (Sl.of_blk hZ)).mono ?_; rintro e w3 ⟨rfl, b⟩
  replace hb := seq_below hb b; clear b
  go_wp2_with (first | (refine wpList_load_cells rfl 40 _ rfl _ rfl (q.below hb q.lt) Tryd.underlying40 rfl info_strl ?_))
  refine (c_toString _ _ _ _ _ _ _ _ (HS.out.below hb) HL.out).mono ?_; rintro e w4 ⟨gX, rfl, hX, hgX, b⟩
  clear hgX
  replace hb := seq_below hb b; clear b
  go_wp2_with (first | (refine wpList_store_newest (cells := (strC (some ⟨gX, 0, none⟩) xs.length xs.length a0 F G l).toArray) rfl 45 _ _ rfl rfl rfl info_str rfl rfl (fun w5 b4 hrX => ?_); replace hb := seq_below hb b4; replace hX := hX.below b4 hX.lt; clear b4) | (refine wpList_load_cells rfl 45 _ rfl _ rfl hrX Tryd.underlying45 rfl info_str ?_))
  refine (CI.out _ _ _ (Sl.of_blk hX) (HT.out.on hb) (HPW.out.on hb)).mono ?_; rintro e w6 ⟨rfl, b⟩
  replace hb := seq_below hb b; replace hX := hX.below b hX.lt; replace hrX := hrX.below b hrX.lt; clear b
  go_wp2_with fail
  have s0 := (Below.refl w6.heap.size w6).drew
  refine wp_region_seq (S := fun w' => Below w6.heap.size w6 w') [(true, 0), (true, 1), (false, 2), (false, 3), (false, 4)] (by kernel_rfl) (by kernel_rfl) (by kernel_rfl) (fun _ _ d _ _ h => by cases d <;> exact h) s0 ?_
  refine wpSeq_held rfl (yields_load_cells rfl _ _ rfl _ rfl hrX hrX.lt (fun _ h => h) Tryd.underlying45 rfl info_str) ?_
  refine wpSeq_held rfl (yields_load_cells rfl _ _ rfl _ rfl (q.below hb q.lt) (q.below hb q.lt).lt (fun _ h => h) Tryd.underlying40 rfl info_strl) ?_
  refine wpSeq_step rfl rfl (fun K hK => ?_)
  go_wp2_with fail
  refine (c_toString _ _ _ _ _ _ _ _ ((HS.out.below hb).below s0) HL.out).mono ?_; rintro e wr1 ⟨gY, rfl, hY, _, b1⟩
  have s1 := seq_below s0 b1
  refine hK _ _ ⟨s1, ?_⟩; clear hK
  refine wpSeq_step rfl rfl (fun K hK => ?_)
  go_wp2_with fail
  refine (c_eqString _ _ _ _ _ _ _ _ _ _ _ _ _ _ _ (Sl.of_blk (hX.below s1 hX.lt)) (Sl.of_blk hY) rfl rfl (by have := HL.out; omega) (fun _ _ => rfl) (FilEq.refl _) (FilEq.refl _) rfl).mono ?_; rintro e wr2 ⟨rfl, b2⟩
  have s2 := seq_below s1 b2
  refine hK _ _ ⟨s2, ?_⟩; clear hK
  refine wpSeq_step rfl rfl (fun K hK => ?_)
  go_wp2_with fail
  refine ⟨s2, ?_⟩
  refine wpSeq_nil ?_
  replace hb := seq_below hb s2; replace hX := hX.below s2 hX.lt; replace hrX := hrX.below s2 hrX.lt
  clear s0 s1 s2 b1 b2 hY
  go_wp2_with fail
  go_ret
  exact ⟨rfl, seq_below h0.out hb⟩
theorem walk (w : World) (hL : laidMetH Tryd.prog Rows.fnExactStringTextRow.laid w) (_ : w.ShapedOpen Tryd.prog) (A : Option Addr) (c : Nat) (xs : List Nat) (a0 : Int) (F G : Fil) (l : Nat) (hs : Sl w A xs) (hm : xs.length ≤ maxLen) (hx : ∀ v ∈ xs, v < 4294967296) (hF : FbF F) (hG : FbF G) (hl : l < 4294967296) :
    Calls Tryd.prog 5 #[.agg (strC A xs.length c a0 F G l).toArray] w fun e w' => e = .returned (.bool true) ∧ Below w.heap.size w w' := by
  by_cases hbig : 1048576 < (xs.length : Int)
  · exact walk_big w A c xs a0 F G l (by unfold maxLen at hm; omega) hbig
  · exact walk_ok w A c xs a0 F G l hs (by omega) (tz_of hL) (pw_of hL) hx hF hG hl

theorem own : ownKnob Tryd.prog.godebug = none := by kernel_rfl
theorem laidOut : laidOutB Tryd.prog = true := by kernel_rfl
theorem door_met (os : Os) (args : Array Value) : laidMetH Tryd.prog Rows.fnExactStringTextRow.laid ((World.doorLaid Tryd.prog 72 os).forCall (fun _ _ => 0) ⟨#[], args, []⟩).memory :=
  laidMetH_of_parts3 (fuel := 8) (laidMet_of_run' 8 (by kernel_rfl) (by kernel_rfl)) (by kernel_rfl) (by kernel_rfl)
set_option maxRecDepth 100000 in
set_option maxHeartbeats 1000000 in
theorem lifted (os : Os) (started : os.Started) (H : Type) (enc : TypeId × Value → H) :
    ReturnsInHanded {} Tryd.checked os 5 .any (fun w args => (Rows.fnExactStringTextSpec.pre enc Tryd.prog Tryd.f5 [] false w args ∧ laidMetH Tryd.prog Rows.fnExactStringTextRow.laid w) ∧ sizedMet enc Tryd.prog Tryd.f5 (OpenSpec.ofChange Rows.fnExactStringTextSpec) false w args) (Rows.fnExactStringTextSpec.post enc Tryd.prog Tryd.f5 false true false false) := by
  refine law_laid (C := Tryd.checked) (L := Rows.fnExactStringTextRow.laid) own started (by kernel_rfl) Tryd.func5
    (ChangeSpec.witness_shaped (enc := enc) (C := Tryd.checked) (os := os) (X := fun w _ => laidMetH Tryd.prog Rows.fnExactStringTextRow.laid w) false (World.doorLaid Tryd.prog 72 os) #[.agg (strC none 0 0 0 ⟨0, 0, 0, 0, 0, 0⟩ ⟨0, 0, 0, 0, 0, 0⟩ 0).toArray] 8 rfl (World.shaped_of_RefB (by kernel_rfl) (by kernel_rfl)) (by kernel_rfl) (by kernel_rfl) (by kernel_rfl) (door_met os _))
    rfl 1 rfl (fun ds h => by match ds, h with | [d0], _ => exact ⟨rfl, rfl, rfl⟩) laidOut (of_decide_eq_true (by kernel_rfl)) 4 Tryd.underlying4 rfl ?_
  intro W base args ds p hval hA hL hsh
  rw [Tryd.params5] at hA hval
  obtain ⟨v0, d0, rfl, rfl, h0⟩ := trodAll_one hA
  obtain ⟨A0, c0, xs0, n0, F0, G0, l0, rfl, hs0, hm0, hx0, hf0, hg0, hl0⟩ := open_strb strT (hval 0 _ _ rfl rfl) h0
  exact walk W hL hsh A0 c0 xs0 n0 F0 G0 l0 hs0 hm0 hx0 hf0 hg0 hl0
theorem over : Rows.fnExactStringTextRow.holds Tryd.pinned (OpenSpec.ofChange Rows.fnExactStringTextSpec) :=
  OpenClaim.holds_of_wide 5 Tryd.f5 rfl rfl rfl rfl rfl rfl rfl ⟨rfl, rfl, rfl, rfl, rfl⟩ rfl rfl rfl rfl rfl (by kernel_rfl) Tryd.func5 (by kernel_rfl)
    (of_decide_eq_true (by kernel_rfl)) (by unfold Func.isWrapper; first | (rw [if_pos (by decide +kernel)]; kernel_rfl) | (rw [if_neg (by decide +kernel)]; exact ⟨rfl, rfl⟩))
    (fun os started H enc _ => lifted os started H enc)
/-- THE STATEMENT. -/
theorem proved : Rows.FnExactStringTextCardSaid :=
  Claim7.holds_tied_plain_at .later [] Rows.fnExactStringTextCard.laidKinds true Rows.fnExactStringTextCard.stood.harness true
    over (fun _ h => by cases h) (by kernel_rfl) (fun _ h => by cases h) fnExactStringText_row_tie rfl ⟨rfl, rfl⟩ (by kernel_rfl) rfl
    (fun f fn hf hfn => by
      obtain rfl : f = 5 := Option.some.inj ((show Tryd.prog.funcNamed "loop.example/g01173/laws.FnExactStringText" = some 5 by kernel_rfl).symm.trans hf) |>.symm
      obtain rfl : fn = Tryd.f5 := (Option.some.inj (Tryd.func5.symm.trans hfn)).symm
      exact ⟨by kernel_rfl, fun j t ht => by
        have hm : t ∈ Tryd.f5.params.toList := by simpa using Array.mem_of_getElem? ht
        have hall : (Tryd.f5.params.toList.all fun u => !Tryd.prog.wantsStandIn u) = true := by kernel_rfl
        exact (show Tryd.prog.wantsStandIn t = false by simpa using List.all_eq_true.1 hall t hm)⟩)
    (by kernel_rfl)
#print axioms proved
end Go.Proofs.YtdhpaglcggeknaaDoor.fnExactStringText
