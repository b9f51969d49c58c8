/- The statement Rows.FnExactFilterTextSaid: the law FnExactFilterText returns true for every input, and its arguments read as before. No condition. -/
import Derived.Test.YtdhpaglcggeknaaDoorRows
import Derived.Test.YtdhpaglcggeknaaDoorCards
import Derived.Test.YtdhpaglcggeknaaDoorTie
import Derived.Test.YtdhpaglcggeknaaDoorAL
import Derived.SevenTiedAt
import Derived.Stop.LaidErr
import Derived.Lib.LaidTab
import Derived.Test.YtdhpaglcggeknaaDoorPh
namespace Go.Proofs.YtdhpaglcggeknaaDoor.fnExactFilterText
open Go.ChangeShapes Go.WideShapes Go.ChangeAt Go.RowKit Go.Fl

theorem tz_of {W : World} (hL : laidMetH Tryd.prog Rows.fnExactFilterTextRow.laid W) : Tz W := by
  rw [MakeChecks.laidMetH_plain _ _ _ (by kernel_rfl)] at hL
  have h2 := laidMet.tail hL
  have hT := Lib.tabIs_of_head (k := .u8) (zs := [0, 1, 56, 2, 57, 49, 28, 3, 61, 58, 42, 50, 38, 29, 17, 4, 62, 47, 59, 36, 45, 43, 51, 22, 53, 39, 33, 30, 24, 18, 12, 5, 63, 55, 48, 27, 60, 41, 37, 16, 46, 35, 44, 21, 52, 32, 23, 11, 54, 26, 40, 15, 34, 20, 31, 10, 25, 14, 19, 9, 13, 8, 7, 6]) (name := "math/bits.deBruijn64tab") (show Tryd.prog.globalNamed "math/bits.deBruijn64tab" = some 6 by kernel_rfl) (show (Tryd.prog.globals[6]?).map (·.type) = some 168 by kernel_rfl) Tryd.underlying168 Tryd.underlying5 (by kernel_rfl) (by kernel_rfl) h2
  have hc := hT.cell (show Tryd.prog.globalNamed "math/bits.deBruijn64tab" = some 6 by kernel_rfl) 15 (by decide)
  exact ⟨hc, World.block_lt_of_cell? _ _ hc⟩
set_option maxRecDepth 20000 in
set_option maxHeartbeats 2000000 in
theorem walk (w : World) (hL : laidMetH Tryd.prog Rows.fnExactFilterTextRow.laid w) (_ : w.ShapedOpen Tryd.prog) (k : Int) (c0 c1 c2 s0 s1 : Nat) (_ : (Lit.int .i64 k).wf = true) (hf : Fb c0 c1 c2 s0 s1) :
    Calls Tryd.prog 4 #[.agg (filC k c0 c1 c2 s0 s1).toArray] w fun e w' => e = .returned (.bool true) ∧ Below w.heap.size w w' := by
  have q : Row (w.alloc (.cells (filC k c0 c1 c2 s0 s1).toArray 31)) w.heap.size (filC k c0 c1 c2 s0 s1).toArray 31 := Row.new _ _ _ _ rfl
  have hb := Go.Joins.below_alloc1 w (.cells (filC k c0 c1 c2 s0 s1).toArray 31)
  have HT := Lib.hid ((tz_of hL).on hb)
  have cF1 := fun W => c_toFilter k c0 c1 c2 s0 s1 W
  have cS := fun W => c_sFilterText k c0 c1 c2 s0 s1 W hf
  have cI := fun W (h : Tz W) => c_iFilterText k c0 c1 c2 s0 s1 W hf h
  have i1 : (Tryd.prog.info? 31).map (·.size) = some (filC k c0 c1 c2 s0 s1).toArray.size := by kernel_rfl
  generalize (filC k c0 c1 c2 s0 s1).toArray = F1 at *
  generalize bs (filTV k c0 c1 c2 s0 s1) = v at *
  have CF1 := Lib.hid cF1; have CS := Lib.hid cS; have CI := Lib.hid cI; have I1 := Lib.hid i1; have Q := Lib.hid q; have HB := Lib.hid hb
  clear cF1 cS cI i1 q hb hL hf
  go_enter Tryd.func4, Tryd.ntmps4
  go_wp2_with (refine wpList_load_cells rfl 31 _ rfl _ rfl Q.out Tryd.underlying31 rfl I1.out ?_)
  refine (CF1.out _).mono ?_; rintro e w1 ⟨rfl, b⟩; replace Q := Lib.hid (Q.out.below b Q.out.lt); replace HT := Lib.hid (HT.out.on b); replace HB := Lib.hid (seq_below HB.out b); clear b
  go_wp2_with fail
  refine (CS.out _).mono ?_; rintro e w2 ⟨rfl, b⟩; replace Q := Lib.hid (Q.out.below b Q.out.lt); replace HT := Lib.hid (HT.out.on b); replace HB := Lib.hid (seq_below HB.out b); clear b
  go_wp2_with (refine wpList_load_cells rfl 31 _ rfl _ rfl Q.out Tryd.underlying31 rfl I1.out ?_)
  refine (CF1.out _).mono ?_; rintro e w3 ⟨rfl, b⟩; replace Q := Lib.hid (Q.out.below b Q.out.lt); replace HT := Lib.hid (HT.out.on b); replace HB := Lib.hid (seq_below HB.out b); clear b
  go_wp2_with fail
  refine (CI.out _ HT.out).mono ?_; rintro e w4 ⟨rfl, b⟩; replace HB := Lib.hid (seq_below HB.out b); clear b
  go_wp2_with fail
  go_ret
  exact ⟨rfl, HB.out⟩

theorem own : ownKnob Tryd.prog.godebug = none := by kernel_rfl
theorem laidOut : laidOutB Tryd.prog = true := by kernel_rfl
theorem door_met (os : Os) (args : Array Value) : laidMetH Tryd.prog Rows.fnExactFilterTextRow.laid ((World.doorLaid Tryd.prog 72 os).forCall (fun _ _ => 0) ⟨#[], args, []⟩).memory :=
  laidMetH_of_parts3 (fuel := 8) (laidMet_of_run' 8 (by kernel_rfl) (by kernel_rfl)) (by kernel_rfl) (by kernel_rfl)
set_option maxRecDepth 100000 in
set_option maxHeartbeats 1000000 in
theorem lifted (os : Os) (started : os.Started) (H : Type) (enc : TypeId × Value → H) :
    ReturnsInHanded {} Tryd.checked os 4 .any (fun w args => (Rows.fnExactFilterTextSpec.pre enc Tryd.prog Tryd.f4 [] false w args ∧ laidMetH Tryd.prog Rows.fnExactFilterTextRow.laid w) ∧ sizedMet enc Tryd.prog Tryd.f4 (OpenSpec.ofChange Rows.fnExactFilterTextSpec) false w args) (Rows.fnExactFilterTextSpec.post enc Tryd.prog Tryd.f4 false true false false) := by
  refine law_laid (C := Tryd.checked) (L := Rows.fnExactFilterTextRow.laid) own started (by kernel_rfl) Tryd.func4
    (ChangeSpec.witness_shaped (enc := enc) (C := Tryd.checked) (os := os) (X := fun w _ => laidMetH Tryd.prog Rows.fnExactFilterTextRow.laid w) false (World.doorLaid Tryd.prog 72 os) #[.agg (filC 0 0 0 0 0 0).toArray] 8 rfl (World.shaped_of_RefB (by kernel_rfl) (by kernel_rfl)) (by kernel_rfl) (by kernel_rfl) (by kernel_rfl) (door_met os _))
    rfl 1 rfl (fun ds h => by match ds, h with | [d0], _ => exact ⟨rfl, rfl, rfl⟩) laidOut (of_decide_eq_true (by kernel_rfl)) 4 Tryd.underlying4 rfl ?_
  intro W base args ds p hval hA hL hsh
  rw [Tryd.params4] at hA hval
  obtain ⟨v0, d0, rfl, rfl, h0⟩ := trodAll_one hA
  obtain ⟨k0, fa0, fb0, fc0, fd0, fe0, rfl, hw0, hb0⟩ := open_filtb Tryd.underlying31 rfl rfl rfl (by kernel_rfl) (by kernel_rfl) (by kernel_rfl) (by kernel_rfl) Tryd.underlying2 Tryd.underlying28 Tryd.underlying29 Tryd.underlying22 Tryd.underlying22 (by kernel_rfl) (by kernel_rfl) (hval 0 _ _ rfl rfl) h0
  exact walk W hL hsh k0 fa0 fb0 fc0 fd0 fe0 hw0 hb0
theorem over : Rows.fnExactFilterTextRow.holds Tryd.pinned (OpenSpec.ofChange Rows.fnExactFilterTextSpec) :=
  OpenClaim.holds_of_wide 4 Tryd.f4 rfl rfl rfl rfl rfl rfl rfl ⟨rfl, rfl, rfl, rfl, rfl⟩ rfl rfl rfl rfl rfl (by kernel_rfl) Tryd.func4 (by kernel_rfl)
    (of_decide_eq_true (by kernel_rfl)) (by unfold Func.isWrapper; first | (rw [if_pos (by decide +kernel)]; kernel_rfl) | (rw [if_neg (by decide +kernel)]; exact ⟨rfl, rfl⟩))
    (fun os started H enc _ => lifted os started H enc)
/-- THE STATEMENT. -/
theorem proved : Rows.FnExactFilterTextCardSaid :=
  Claim7.holds_tied_plain_at .later [] Rows.fnExactFilterTextCard.laidKinds true Rows.fnExactFilterTextCard.stood.harness true
    over (fun _ h => by cases h) (by kernel_rfl) (fun _ h => by cases h) fnExactFilterText_row_tie rfl ⟨rfl, rfl⟩ (by kernel_rfl) rfl
    (fun f fn hf hfn => by
      obtain rfl : f = 4 := Option.some.inj ((show Tryd.prog.funcNamed "loop.example/g01173/laws.FnExactFilterText" = some 4 by kernel_rfl).symm.trans hf) |>.symm
      obtain rfl : fn = Tryd.f4 := (Option.some.inj (Tryd.func4.symm.trans hfn)).symm
      exact ⟨by kernel_rfl, fun j t ht => by
        have hm : t ∈ Tryd.f4.params.toList := by simpa using Array.mem_of_getElem? ht
        have hall : (Tryd.f4.params.toList.all fun u => !Tryd.prog.wantsStandIn u) = true := by kernel_rfl
        exact (show Tryd.prog.wantsStandIn t = false by simpa using List.all_eq_true.1 hall t hm)⟩)
    (by kernel_rfl)
#print axioms proved
end Go.Proofs.YtdhpaglcggeknaaDoor.fnExactFilterText
