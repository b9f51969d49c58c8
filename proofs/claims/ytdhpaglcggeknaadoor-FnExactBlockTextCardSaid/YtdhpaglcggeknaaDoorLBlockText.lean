/- The statement Rows.FnExactBlockTextSaid: the law FnExactBlockText returns true for every input, and its arguments read as before. No condition. -/
import Derived.Test.YtdhpaglcggeknaaDoorRows
import Derived.Test.YtdhpaglcggeknaaDoorCards
import Derived.Test.YtdhpaglcggeknaaDoorTie
import Derived.Test.YtdhpaglcggeknaaDoorAL
import Derived.SevenTiedAt
import Derived.Stop.LaidErr
import Derived.Lib.LaidTab
import Derived.Test.YtdhpaglcggeknaaDoorPe
namespace Go.Proofs.YtdhpaglcggeknaaDoor.fnExactBlockText
open Go.ChangeShapes Go.WideShapes Go.ChangeAt Go.RowKit Go.Fl

theorem tz_of {W : World} (hL : laidMetH Tryd.prog Rows.fnExactBlockTextRow.laid W) : Tz W := by
  rw [MakeChecks.laidMetH_plain _ _ _ (by kernel_rfl)] at hL
  have h2 := laidMet.tail hL
  have hT := Lib.tabIs_of_head (k := .u8) (zs := [0, 1, 56, 2, 57, 49, 28, 3, 61, 58, 42, 50, 38, 29, 17, 4, 62, 47, 59, 36, 45, 43, 51, 22, 53, 39, 33, 30, 24, 18, 12, 5, 63, 55, 48, 27, 60, 41, 37, 16, 46, 35, 44, 21, 52, 32, 23, 11, 54, 26, 40, 15, 34, 20, 31, 10, 25, 14, 19, 9, 13, 8, 7, 6]) (name := "math/bits.deBruijn64tab") (show Tryd.prog.globalNamed "math/bits.deBruijn64tab" = some 6 by kernel_rfl) (show (Tryd.prog.globals[6]?).map (·.type) = some 168 by kernel_rfl) Tryd.underlying168 Tryd.underlying5 (by kernel_rfl) (by kernel_rfl) h2
  have hc := hT.cell (show Tryd.prog.globalNamed "math/bits.deBruijn64tab" = some 6 by kernel_rfl) 15 (by decide)
  exact ⟨hc, World.block_lt_of_cell? _ _ hc⟩
theorem walk (W : World) (hL : laidMetH Tryd.prog Rows.fnExactBlockTextRow.laid W) (_ : W.ShapedOpen Tryd.prog) (xs : List Nat) (hx : xs.length = 16) (hw : ∀ x ∈ xs, x < 4294967296) :
    Calls Tryd.prog 3 #[.agg (fl xs)] W fun e W' => e = .returned (.bool true) ∧ Below W.heap.size W W' := by
  have h1 : Blk (W.alloc (.cells (fl xs) 23)) W.heap.size xs 23 := Blk.new _ _ _ _ rfl
  have hb := Go.Joins.below_alloc1 W (.cells (fl xs) 23)
  have hn : ∀ k, k < 16 → nth xs k < 4294967296 := fun k hk => by
    have hk' : k < xs.length := by rw [hx]; exact hk
    have : nth xs k = xs[k] := by simp [nth, hk']
    rw [this]; exact hw _ (List.getElem_mem hk')
  have HX := Lib.hid hx; have HT := Lib.hid ((tz_of hL).on hb)
  have CS := Lib.hid (fun V => c_sBlockText xs V hx hn); have CI := Lib.hid (fun V (h : Tz V) => c_iBlockText xs V hx hn h)
  have H1 := Lib.hid h1; have HB := Lib.hid hb
  clear hx hw hn hL h1 hb
  generalize bs (smT xs) = T at *
  go_enter Tryd.func3, Tryd.ntmps3
  go_wp2_with (refine wpList_load_blk rfl 23 _ rfl _ rfl H1.out Tryd.underlying23 info_a16 HX.out ?_)
  refine (c_toBlock _ _ HX.out).mono ?_; rintro e w1 ⟨rfl, b⟩; replace H1 := Lib.hid (H1.out.below b H1.out.lt); replace HT := Lib.hid (HT.out.on b); replace HB := Lib.hid (seq_below HB.out b); clear b
  go_wp2_with fail
  refine (CS.out _).mono ?_; rintro e w2 ⟨rfl, b⟩; replace H1 := Lib.hid (H1.out.below b H1.out.lt); replace HT := Lib.hid (HT.out.on b); replace HB := Lib.hid (seq_below HB.out b); clear b
  go_wp2_with (refine wpList_load_blk rfl 23 _ rfl _ rfl H1.out Tryd.underlying23 info_a16 HX.out ?_)
  refine (c_toBlock _ _ HX.out).mono ?_; rintro e w3 ⟨rfl, b⟩; replace H1 := Lib.hid (H1.out.below b H1.out.lt); replace HT := Lib.hid (HT.out.on b); replace HB := Lib.hid (seq_below HB.out b); clear b
  go_wp2_with fail
  refine (CI.out _ HT.out).mono ?_; rintro e w4 ⟨rfl, b⟩; replace HB := Lib.hid (seq_below HB.out b); clear b
  go_wp2_with fail
  go_ret
  exact ⟨rfl, HB.out⟩

theorem own : ownKnob Tryd.prog.godebug = none := by kernel_rfl
theorem laidOut : laidOutB Tryd.prog = true := by kernel_rfl
theorem door_met (os : Os) (args : Array Value) : laidMetH Tryd.prog Rows.fnExactBlockTextRow.laid ((World.doorLaid Tryd.prog 72 os).forCall (fun _ _ => 0) ⟨#[], args, []⟩).memory :=
  laidMetH_of_parts3 (fuel := 8) (laidMet_of_run' 8 (by kernel_rfl) (by kernel_rfl)) (by kernel_rfl) (by kernel_rfl)
set_option maxRecDepth 100000 in
set_option maxHeartbeats 1000000 in
theorem lifted (os : Os) (started : os.Started) (H : Type) (enc : TypeId × Value → H) :
    ReturnsInHanded {} Tryd.checked os 3 .any (fun w args => (Rows.fnExactBlockTextSpec.pre enc Tryd.prog Tryd.f3 [] false w args ∧ laidMetH Tryd.prog Rows.fnExactBlockTextRow.laid w) ∧ sizedMet enc Tryd.prog Tryd.f3 (OpenSpec.ofChange Rows.fnExactBlockTextSpec) false w args) (Rows.fnExactBlockTextSpec.post enc Tryd.prog Tryd.f3 false true false false) := by
  refine law_laid (C := Tryd.checked) (L := Rows.fnExactBlockTextRow.laid) own started (by kernel_rfl) Tryd.func3
    (ChangeSpec.witness_shaped (enc := enc) (C := Tryd.checked) (os := os) (X := fun w _ => laidMetH Tryd.prog Rows.fnExactBlockTextRow.laid w) false (World.doorLaid Tryd.prog 72 os) #[.agg (Array.replicate 16 (.float .f32 0))] 8 rfl (World.shaped_of_RefB (by kernel_rfl) (by kernel_rfl)) (by kernel_rfl) (by kernel_rfl) (by kernel_rfl) (door_met os _))
    rfl 1 rfl (fun ds h => by match ds, h with | [d0], _ => exact ⟨rfl, rfl, rfl⟩) laidOut (of_decide_eq_true (by kernel_rfl)) 4 Tryd.underlying4 rfl ?_
  intro W base args ds p hval hA hL hsh
  rw [Tryd.params3] at hA hval
  obtain ⟨v0, d0, rfl, rfl, h0⟩ := trodAll_one hA
  obtain ⟨xs0, rfl, hl0, hw0⟩ := open_farr (n := 16) Tryd.underlying23 Tryd.underlying22 (by kernel_rfl) (by kernel_rfl) (hval 0 _ _ rfl rfl) h0
  exact walk W hL hsh xs0 hl0 hw0
theorem over : Rows.fnExactBlockTextRow.holds Tryd.pinned (OpenSpec.ofChange Rows.fnExactBlockTextSpec) :=
  OpenClaim.holds_of_wide 3 Tryd.f3 rfl rfl rfl rfl rfl rfl rfl ⟨rfl, rfl, rfl, rfl, rfl⟩ rfl rfl rfl rfl rfl (by kernel_rfl) Tryd.func3 (by kernel_rfl)
    (of_decide_eq_true (by kernel_rfl)) (by unfold Func.isWrapper; first | (rw [if_pos (by decide +kernel)]; kernel_rfl) | (rw [if_neg (by decide +kernel)]; exact ⟨rfl, rfl⟩))
    (fun os started H enc _ => lifted os started H enc)
/-- THE STATEMENT. -/
theorem proved : Rows.FnExactBlockTextCardSaid :=
  Claim7.holds_tied_plain_at .later [] Rows.fnExactBlockTextCard.laidKinds true Rows.fnExactBlockTextCard.stood.harness true
    over (fun _ h => by cases h) (by kernel_rfl) (fun _ h => by cases h) fnExactBlockText_row_tie rfl ⟨rfl, rfl⟩ (by kernel_rfl) rfl
    (fun f fn hf hfn => by
      obtain rfl : f = 3 := Option.some.inj ((show Tryd.prog.funcNamed "loop.example/g01173/laws.FnExactBlockText" = some 3 by kernel_rfl).symm.trans hf) |>.symm
      obtain rfl : fn = Tryd.f3 := (Option.some.inj (Tryd.func3.symm.trans hfn)).symm
      exact ⟨by kernel_rfl, fun j t ht => by
        have hm : t ∈ Tryd.f3.params.toList := by simpa using Array.mem_of_getElem? ht
        have hall : (Tryd.f3.params.toList.all fun u => !Tryd.prog.wantsStandIn u) = true := by kernel_rfl
        exact (show Tryd.prog.wantsStandIn t = false by simpa using List.all_eq_true.1 hall t hm)⟩)
    (by kernel_rfl)
#print axioms proved
end Go.Proofs.YtdhpaglcggeknaaDoor.fnExactBlockText
