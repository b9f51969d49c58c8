/- The statement Rows.FnExactReadBetweenSaid: the law FnExactReadBetween returns true for every input, and its arguments read as before. No condition. -/
import Derived.Test.YtpbkphjnhmiocaaRows
import Derived.Test.YtpbkphjnhmiocaaJc
namespace Go.Proofs.Ytpbkphjnhmiocaa.fnExactReadBetween
open Go.ChangeShapes Go.WideShapes Go.ChangeAt Go.RowKit Go.Fl

set_option maxRecDepth 20000 in
set_option maxHeartbeats 1000000 in
theorem walk (w : World) (A : Option Addr) (c : Nat) (xs : List Nat) (at0 : Int) (hs : Sl w A xs) (_ : (Lit.int .i64 at0).wf = true) (hm : xs.length ≤ maxLen) (d : Nat) (_ : (Lit.float .f32 d).wf = true) :
    Calls Try.prog 3 #[.agg #[.slice A xs.length c, .int .i64 at0], .float .f32 d] w fun e w' => e = .returned (.bool true) ∧ Below w.heap.size w w' := by
  have q : Row (w.alloc (.cells #[.slice A xs.length c, .int .i64 at0] 24)) w.heap.size #[.slice A xs.length c, .int .i64 at0] 24 := Row.new _ _ _ _ rfl
  have hb := Go.Joins.below_alloc1 w (.cells #[.slice A xs.length c, .int .i64 at0] 24)
  have HM := Lib.hid (show (xs.length : Int) ≤ 9223372036854775807 from by unfold maxLen at hm; omega)
  have HS := Lib.hid (hs.below hb); clear hs hm
  by_cases hbig : 1048576 < (xs.length : Int)
  · have HB := Lib.hid hbig; clear hbig
    go_enter Try.func3, Try.ntmps3
    go_wp2_with (first
      | (refine wpList_load_cells rfl 24 _ rfl _ rfl q Try.underlying24 rfl info_lring ?_)
      | (go_at_call 5; refine (c_szRing_big _ _ _ _ _ HB.out HM.out).mono ?_; rintro e w1 ⟨rfl, b⟩))
    go_ret
    exact ⟨rfl, seq_below hb b⟩
  have HB := Lib.hid (show (xs.length : Int) ≤ 1048576 from by omega)
  have hpos : ¬ (1048576 - (xs.length : Int) < 0) := by omega
  have HL := Lib.hid (show xs.length ≤ 4294967296 from by omega)
  have HI := Lib.hid (show (xs.length : Int) ≤ 4294967296 from by omega)
  clear hbig
  go_enter Try.func3, Try.ntmps3
  go_wp2_with (first
    | (refine wpList_load_cells rfl 24 _ rfl _ rfl q Try.underlying24 rfl info_lring ?_)
    | (go_at_call 5; refine (c_szRing _ _ _ _ _ HB.out).mono ?_; rintro e w1 ⟨rfl, b⟩; replace q := q.below b q.lt; replace hb := seq_below hb b; replace HS := Lib.hid (HS.out.below b); clear b)
    | (have _ := m1; go_at_call 7; refine (c_toRing _ _ _ _ _ HS.out HL.out).mono ?_; rintro e w2 ⟨gX, rfl, hX, _, b⟩)
    | (go_at_call 7; refine (c_toRing _ _ _ _ _ HS.out HL.out).mono ?_; rintro e w2 ⟨gS, rfl, hZ, _, b⟩; have HZ := Lib.hid (Sl.of_blk hZ); clear hZ; replace q := q.below b q.lt; replace hb := seq_below hb b; replace HS := Lib.hid (HS.out.below b); clear b)
    | (go_at_call 6; refine (c_sReadBetween _ _ _ _ _ _ HZ.out HI.out).mono ?_; rintro e w3 ⟨rS, rfl, hrS, b⟩; have HrS := Lib.hid hrS; clear hrS; replace q := q.below b q.lt; replace hb := seq_below hb b; replace HS := Lib.hid (HS.out.below b); clear b; have m1 := True.intro)
    | (refine wpList_store_newest (cells := #[.slice (some ⟨gX, 0, none⟩) xs.length xs.length, .int .i64 at0]) rfl 29 _ _ rfl rfl rfl info_ring rfl rfl (fun w4 b4 hR => ?_); replace b := seq_below b b4; replace hX := hX.below b4 hX.lt; replace q := q.below b q.lt; replace hb := seq_below hb b; replace HS := Lib.hid (HS.out.below b); clear b b4)
    | (refine wpList_load_cells rfl 29 _ rfl _ rfl hR Try.underlying29 rfl info_ring ?_)
    | (go_at_call 8; refine (c_iReadBetween _ _ _ _ _ _ (Sl.of_blk hX) HI.out).mono ?_; rintro e w5 ⟨rI, rfl, hrI, b⟩; have HrI := Lib.hid hrI; clear hrI; replace q := q.below b q.lt; replace hR := hR.below b hR.lt; replace hX := hX.below b hX.lt; replace hb := seq_below hb b; replace HS := Lib.hid (HS.out.below b); clear b)
    | (go_at_call 9; refine (c_same32 _ _ _ _ _ (HrI.out.trans HrS.out.symm)).mono ?_; rintro e w' ⟨rfl, nd, rfl⟩))
  have t0 := fun m => below_drewN (Below.refl w5.heap.size w5) m
  refine wp_region_seq (S := fun w' => Below w5.heap.size w5 w') [(true, 0), (true, 1), (false, 2), (false, 3), (false, 4)] (by kernel_rfl) (by kernel_rfl) (by kernel_rfl) (fun _ _ d _ _ h => by cases d <;> exact h) ((t0 _).drew) ?_
  refine wpSeq_held rfl (yields_load_cells rfl _ _ rfl _ rfl hR hR.lt (fun _ h => h) Try.underlying29 rfl info_ring) ?_
  refine wpSeq_held rfl (yields_load_cells rfl _ _ rfl _ rfl q q.lt (fun _ h => h) Try.underlying24 rfl info_lring) ?_
  refine wpSeq_step rfl rfl (fun K hK => ?_)
  go_wp2_with fail
  refine (c_toRing _ _ _ _ _ (Sl.drewN HS.out _) HL.out).mono ?_; rintro e w6 ⟨gY, rfl, hY, _, b1⟩
  have s1 := seq_below (t0 _) b1
  refine hK _ _ ⟨s1, ?_⟩; clear hK
  refine wpSeq_step rfl rfl (fun K hK => ?_)
  go_wp2_with fail
  refine (c_eqRing _ _ _ _ _ _ _ _ (Sl.of_blk (hX.below s1 hX.lt)) (Sl.of_blk hY) rfl HL.out (fun _ _ => rfl)).mono ?_; rintro e w7 ⟨rfl, b2⟩
  have s2 := seq_below s1 b2
  refine hK _ _ ⟨s2, ?_⟩; clear hK
  refine wpSeq_step rfl rfl (fun K hK => ?_)
  go_wp2_with fail
  refine ⟨s2, ?_⟩
  refine wpSeq_nil ?_
  replace hb := seq_below hb s2
  clear s1 s2 b1 b2
  go_wp2_with fail
  go_ret
  exact ⟨rfl, hb⟩

theorem own : ownKnob Try.prog.godebug = none := by kernel_rfl
theorem laidOut : laidOutB Try.prog = true := by kernel_rfl
set_option maxRecDepth 100000 in
theorem lifted (os : Os) (started : os.Started) (H : Type) (enc : TypeId × Value → H) :
    ReturnsInHanded {} Try.checked os 3 .any (Rows.fnExactReadBetweenSpec.pre6 enc Try.prog Try.f3 [] false) (Rows.fnExactReadBetweenSpec.post enc Try.prog Try.f3 false true false false) := by
  refine law_lifted (C := Try.checked) own started (by kernel_rfl) Try.func3
    (ChangeSpec.witness6 (enc := enc) (C := Try.checked) false ⟨#[], #[.agg #[.slice none 0 0, .int .i64 0], .float .f32 0], []⟩ 8 (by kernel_rfl) (by kernel_rfl) (by kernel_rfl) (by kernel_rfl))
    rfl 2 rfl (fun ds h => by match ds, h with | [d0, d1], _ => exact ⟨rfl, rfl, rfl⟩) laidOut (of_decide_eq_true (by kernel_rfl)) 4 Try.underlying4 rfl ?_
  intro W base args ds p hval hA
  rw [Try.params3] at hA hval
  obtain ⟨v0, v1, d0, d1, p0, p1, rfl, rfl, rfl, h0, h1⟩ := trodAll_two hA
  obtain ⟨A0, c0, xs0, n0, rfl, hs0, hw0, hm0⟩ := open_ring Try.underlying24 rfl rfl (by kernel_rfl) (by kernel_rfl) (by kernel_rfl) Try.underlying22 Try.underlying25 (by kernel_rfl) Try.underlying2 (hval 0 _ _ rfl rfl) h0
  obtain ⟨x1, rfl, _, _, wx1⟩ := open_float Try.underlying25 (hval 1 _ _ rfl rfl) h1
  exact walk W A0 c0 xs0 n0 hs0 hw0 hm0 x1 wx1
theorem over : Rows.fnExactReadBetweenRow.holds Try.pinned (OpenSpec.ofChange Rows.fnExactReadBetweenSpec) :=
  OpenClaim.holds_of_wide 3 Try.f3 rfl rfl rfl rfl rfl rfl rfl ⟨rfl, rfl, rfl, rfl, rfl⟩ rfl rfl rfl rfl rfl (by kernel_rfl) Try.func3 (by kernel_rfl)
    (of_decide_eq_true (by kernel_rfl)) (by unfold Func.isWrapper; first | (rw [if_pos (by decide +kernel)]; kernel_rfl) | (rw [if_neg (by decide +kernel)]; exact ⟨rfl, rfl⟩))
    (fun os started H enc _ => lifted os started H enc)
/-- THE STATEMENT. -/
theorem proved : Rows.FnExactReadBetweenSaid := over
#print axioms proved
end Go.Proofs.Ytpbkphjnhmiocaa.fnExactReadBetween
