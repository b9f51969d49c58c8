/- The statement Rows.FnExactPeriodOfSaid: the law FnExactPeriodOf returns true for every input, and its arguments read as before. No condition. -/
import Derived.Test.YtpchebclhjgcmaaRows
import Derived.Test.YtpchebclhjgcmaaHh
namespace Go.Proofs.Ytpchebclhjgcmaa.fnExactPeriodOf
open Go.ChangeShapes Go.WideShapes Go.ChangeAt Go.RowKit Go.Fl

set_option maxRecDepth 20000 in
set_option maxHeartbeats 2000000 in
theorem walk_big (w : World) (A : Option Addr) (c : Nat) (xs : List Nat) (a0 : Int) (F G : Fil) (l : Nat) (hm : (xs.length : Int) ≤ 9223372036854775807) (hbig : 1048576 < (xs.length : Int)) :
    Calls Try.prog 6 #[.agg (strC A xs.length c a0 F G l).toArray] w fun e w' => e = .returned (.bool true) ∧ Below w.heap.size w w' := by
  have q : Row (w.alloc (.cells (strC A xs.length c a0 F G l).toArray 31)) w.heap.size (strC A xs.length c a0 F G l).toArray 31 := Row.new _ _ _ _ rfl
  have hb := Go.Joins.below_alloc1 w (.cells (strC A xs.length c a0 F G l).toArray 31)
  have HB := Lib.hid hbig; have HM := Lib.hid hm; clear hbig hm
  go_enter Try.func6, Try.ntmps6
  go_wp2_with (first
    | (refine wpList_load_cells rfl 31 _ rfl _ rfl q Try.underlying31 rfl info_strl ?_)
    | (go_at_call 10; refine (c_szString_big _ _ _ _ _ _ _ _ _ (by decide) (by decide) HB.out HM.out).mono ?_; rintro e w1 ⟨rfl, b⟩))
  go_ret
  exact ⟨rfl, seq_below hb b⟩
set_option maxRecDepth 20000 in
set_option maxHeartbeats 2000000 in
theorem walk_ok (w : World) (A : Option Addr) (c : Nat) (xs : List Nat) (a0 : Int) (F G : Fil) (l : Nat) (hs : Sl w A xs) (hn : (xs.length : Int) ≤ 1048576) :
    Calls Try.prog 6 #[.agg (strC A xs.length c a0 F G l).toArray] w fun e w' => e = .returned (.bool true) ∧ Below w.heap.size w w' := by
  have q : Row (w.alloc (.cells (strC A xs.length c a0 F G l).toArray 31)) w.heap.size (strC A xs.length c a0 F G l).toArray 31 := Row.new _ _ _ _ rfl
  have hb := Go.Joins.below_alloc1 w (.cells (strC A xs.length c a0 F G l).toArray 31)
  have HS := Lib.hid (hs.below hb); clear hs
  have h0 := Lib.hid hb; clear hb; have hb := Below.refl (w.alloc (.cells (strC A xs.length c a0 F G l).toArray 31)).heap.size (w.alloc (.cells (strC A xs.length c a0 F G l).toArray 31))
  have HB := Lib.hid hn; have HI := Lib.hid (show (xs.length : Int) ≤ 4294967296 from by omega); have HL := Lib.hid (show xs.length ≤ 4294967296 from by omega)
  have hpos : ¬ (1048576 - (xs.length : Int) < 0) := by omega
  clear hn
  go_enter Try.func6, Try.ntmps6
  go_wp2_with (first | (refine wpList_load_cells rfl 31 _ rfl _ rfl (q.below hb q.lt) Try.underlying31 rfl info_strl ?_))
  refine (c_szString _ _ _ _ _ _ _ _ _ (by decide) HB.out).mono ?_; rintro e w1 ⟨rfl, b⟩
  replace hb := seq_below hb b; clear b
  go_wp2_with (first | (refine wpList_load_cells rfl 31 _ rfl _ rfl (q.below hb q.lt) Try.underlying31 rfl info_strl ?_))
  refine (c_toString _ _ _ _ _ _ _ _ (HS.out.below hb) HL.out).mono ?_; rintro e w2 ⟨gZ, rfl, hZ, _, b⟩
  replace hb := seq_below hb b; clear b
  go_wp2_with fail
  refine (c_sPeriodOf _ _ _ _ _ _ _ _ HI.out).mono ?_; rintro e w3 ⟨rS, rfl, hrS, b⟩
  replace hb := seq_below hb b; clear b
  have HrS := Lib.hid hrS; clear hrS
  go_wp2_with (first | (refine wpList_load_cells rfl 31 _ rfl _ rfl (q.below hb q.lt) Try.underlying31 rfl info_strl ?_))
  refine (c_toString _ _ _ _ _ _ _ _ (HS.out.below hb) HL.out).mono ?_; rintro e w4 ⟨gX, rfl, hX, hgX, b⟩
  clear hgX
  replace hb := seq_below hb b; clear b
  go_wp2_with (first | (refine wpList_store_newest (cells := (strC (some ⟨gX, 0, none⟩) xs.length xs.length a0 F G l).toArray) rfl 37 _ _ rfl rfl rfl info_str rfl rfl (fun w5 b4 hrX => ?_); replace hb := seq_below hb b4; replace hX := hX.below b4 hX.lt; clear b4) | (refine wpList_load_cells rfl 37 _ rfl _ rfl hrX Try.underlying37 rfl info_str ?_))
  refine (c_iPeriodOf _ _ _ _ _ _ _ _ HI.out).mono ?_; rintro e w6 ⟨rI, rfl, hrI, b⟩
  replace hb := seq_below hb b; replace hX := hX.below b hX.lt; replace hrX := hrX.below b hrX.lt; clear b
  have HrI := Lib.hid hrI; clear hrI
  go_wp2_with fail
  refine (c_same32b _ _ _ _ _ (HrI.out.trans HrS.out.symm)).mono ?_; rintro e w7 ⟨rfl, b⟩
  replace b := (below_drewN (Below.refl w6.heap.size w6) _).trans b
  replace hb := seq_below hb b; replace hX := hX.below b hX.lt; replace hrX := hrX.below b hrX.lt; clear b
  go_wp2_with fail
  have s0 := (Below.refl w7.heap.size w7).drew
  refine wp_region_seq (S := fun w' => Below w7.heap.size w7 w') [(true, 0), (true, 1), (false, 2), (false, 3), (false, 4)] (by kernel_rfl) (by kernel_rfl) (by kernel_rfl) (fun _ _ d _ _ h => by cases d <;> exact h) s0 ?_
  refine wpSeq_held rfl (yields_load_cells rfl _ _ rfl _ rfl hrX hrX.lt (fun _ h => h) Try.underlying37 rfl info_str) ?_
  refine wpSeq_held rfl (yields_load_cells rfl _ _ rfl _ rfl (q.below hb q.lt) (q.below hb q.lt).lt (fun _ h => h) Try.underlying31 rfl info_strl) ?_
  refine wpSeq_step rfl rfl (fun K hK => ?_)
  go_wp2_with fail
  refine (c_toString _ _ _ _ _ _ _ _ ((HS.out.below hb).below s0) HL.out).mono ?_; rintro e wr1 ⟨gY, rfl, hY, _, b1⟩
  have s1 := seq_below s0 b1
  refine hK _ _ ⟨s1, ?_⟩; clear hK
  refine wpSeq_step rfl rfl (fun K hK => ?_)
  go_wp2_with fail
  refine (c_eqString _ _ _ _ _ _ _ _ _ _ _ _ _ _ _ (Sl.of_blk (hX.below s1 hX.lt)) (Sl.of_blk hY) rfl rfl (by have := HL.out; omega) (fun _ _ => rfl) (FilEq.refl _) (FilEq.refl _) rfl).mono ?_; rintro e wr2 ⟨rfl, b2⟩
  have s2 := seq_below s1 b2
  refine hK _ _ ⟨s2, ?_⟩; clear hK
  refine wpSeq_step rfl rfl (fun K hK => ?_)
  go_wp2_with fail
  refine ⟨s2, ?_⟩
  refine wpSeq_nil ?_
  replace hb := seq_below hb s2; replace hX := hX.below s2 hX.lt; replace hrX := hrX.below s2 hrX.lt
  clear s0 s1 s2 b1 b2 hY
  go_wp2_with fail
  go_ret
  exact ⟨rfl, seq_below h0.out hb⟩
theorem walk (w : World) (A : Option Addr) (c : Nat) (xs : List Nat) (a0 : Int) (F G : Fil) (l : Nat) (hs : Sl w A xs) (_ : (Lit.int .i64 a0).wf = true) (hm : xs.length ≤ maxLen) :
    Calls Try.prog 6 #[.agg (strC A xs.length c a0 F G l).toArray] w fun e w' => e = .returned (.bool true) ∧ Below w.heap.size w w' := by
  by_cases hbig : 1048576 < (xs.length : Int)
  · exact walk_big w A c xs a0 F G l (by unfold maxLen at hm; omega) hbig
  · exact walk_ok w A c xs a0 F G l hs (by omega)

theorem own : ownKnob Try.prog.godebug = none := by kernel_rfl
theorem laidOut : laidOutB Try.prog = true := by kernel_rfl
set_option maxRecDepth 100000 in
theorem lifted (os : Os) (started : os.Started) (H : Type) (enc : TypeId × Value → H) :
    ReturnsInHanded {} Try.checked os 6 .any (Rows.fnExactPeriodOfSpec.pre6 enc Try.prog Try.f6 [] false) (Rows.fnExactPeriodOfSpec.post enc Try.prog Try.f6 false true false false) := by
  refine law_lifted (C := Try.checked) own started (by kernel_rfl) Try.func6
    (ChangeSpec.witness6 (enc := enc) (C := Try.checked) false ⟨#[], #[.agg (strC none 0 0 0 ⟨0, 0, 0, 0, 0, 0⟩ ⟨0, 0, 0, 0, 0, 0⟩ 0).toArray], []⟩ 8 (by kernel_rfl) (by kernel_rfl) (by kernel_rfl) (by kernel_rfl))
    rfl 1 rfl (fun ds h => by match ds, h with | [d0], _ => exact ⟨rfl, rfl, rfl⟩) laidOut (of_decide_eq_true (by kernel_rfl)) 4 Try.underlying4 rfl ?_
  intro W base args ds p hval hA
  rw [Try.params6] at hA hval
  obtain ⟨v0, d0, rfl, rfl, h0⟩ := trodAll_one hA
  obtain ⟨A0, c0, xs0, n0, F0, G0, l0, rfl, hs0, hw0, hm0⟩ := open_str strT (hval 0 _ _ rfl rfl) h0
  exact walk W A0 c0 xs0 n0 F0 G0 l0 hs0 hw0 hm0
theorem over : Rows.fnExactPeriodOfRow.holds Try.pinned (OpenSpec.ofChange Rows.fnExactPeriodOfSpec) :=
  OpenClaim.holds_of_wide 6 Try.f6 rfl rfl rfl rfl rfl rfl rfl ⟨rfl, rfl, rfl, rfl, rfl⟩ rfl rfl rfl rfl rfl (by kernel_rfl) Try.func6 (by kernel_rfl)
    (of_decide_eq_true (by kernel_rfl)) (by unfold Func.isWrapper; first | (rw [if_pos (by decide +kernel)]; kernel_rfl) | (rw [if_neg (by decide +kernel)]; exact ⟨rfl, rfl⟩))
    (fun os started H enc _ => lifted os started H enc)
/-- THE STATEMENT. -/
theorem proved : Rows.FnExactPeriodOfSaid := over
#print axioms proved
end Go.Proofs.Ytpchebclhjgcmaa.fnExactPeriodOf
