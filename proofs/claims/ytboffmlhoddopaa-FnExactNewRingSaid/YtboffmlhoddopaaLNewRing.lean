/- The statement Rows.FnExactNewRingSaid: the law FnExactNewRing returns true for every input, and its arguments read as before. No condition. -/
import Derived.Test.YtboffmlhoddopaaRows
import Derived.Test.YtboffmlhoddopaaSz
namespace Go.Proofs.Ytboffmlhoddopaa.fnExactNewRing
open Go.ChangeShapes Go.WideShapes Go.ChangeAt Go.RowKit Go.Fl

set_option maxRecDepth 20000 in
set_option maxHeartbeats 1000000 in
theorem walk_no (w : World) (n : Int) (hv : inB n 1 1024 = false) :
    Calls Try.prog 8 #[.int .i64 n] w fun e w' => e = .returned (.bool true) ∧ Below w.heap.size w w' := by
  have hb := Below.refl w.heap.size w
  have HV := Lib.hid hv; clear hv
  go_enter Try.func8, Try.ntmps8
  go_wp2_with (first
    | (go_at_call 30; refine (c_sNewRing_no _ _ HV.out).mono ?_; rintro e w1 ⟨rfl, b3⟩)
    | (have _ := m3; go_at_call 31; refine (c_iNewRing_no _ _ HV.out).mono ?_; rintro e w2 ⟨rfl, b3⟩; have m4 := True.intro)
    | (go_at_call 31; refine (c_iNewRing_no _ _ HV.out).mono ?_; rintro e w2 ⟨rfl, b3⟩; have m3 := True.intro)
    | (have _ := m4; refine wpList_store_newest (cells := #[.slice none 0 0, .int .i64 0]) rfl 42 _ _ rfl rfl rfl info_ring rfl rfl (fun w3 b4 hrH => ?_); have b := seq_below b3 b4; clear b3; replace hb := seq_below hb b; replace hrS := hrS.below b hrS.lt; replace hrI := hrI.below b hrI.lt; clear b b4)
    | (have _ := m3; refine wpList_store_newest (cells := #[.slice none 0 0, .int .i64 0]) rfl 42 _ _ rfl rfl rfl info_ring rfl rfl (fun w3 b4 hrI => ?_); have b := seq_below b3 b4; clear b3; replace hb := seq_below hb b; replace hrS := hrS.below b hrS.lt; clear b b4)
    | (refine wpList_store_newest (cells := #[.slice none 0 0, .int .i64 0]) rfl 42 _ _ rfl rfl rfl info_ring rfl rfl (fun w3 b4 hrS => ?_); have b := seq_below b3 b4; clear b3; replace hb := seq_below hb b; clear b b4)
    | (refine wpList_load_cells rfl 42 _ rfl _ rfl hrI Try.underlying42 rfl info_ring ?_)
    | (refine wpList_load_cells rfl 42 _ rfl _ rfl hrS Try.underlying42 rfl info_ring ?_)
    | (refine wpList_load_cells rfl 42 _ rfl _ rfl hrH Try.underlying42 rfl info_ring ?_)
    | (go_at_call 29; refine (c_eqRing _ _ _ _ [] [] _ _ (.inl rfl) (.inl rfl) rfl (by decide) (fun _ _ => rfl)).mono ?_; rintro e w4 ⟨rfl, b⟩; first | (replace hb := seq_below hb b; replace hrS := hrS.below b hrS.lt; replace hrI := hrI.below b hrI.lt; replace hrH := hrH.below b hrH.lt; clear b) | (replace hb := seq_below hb b; replace hrS := hrS.below b hrS.lt; replace hrI := hrI.below b hrI.lt; clear b))
    | (go_at_call 32; refine (c_markRing_nil _ _ _ _ _).mono ?_; rintro e w5 ⟨rfl, b⟩; replace hb := seq_below hb b; replace hrS := hrS.below b hrS.lt; replace hrI := hrI.below b hrI.lt; clear b)
    | (go_at_call 33; refine (c_heldRing_nil _ _ _ _ _ (by decide)).mono ?_; rintro e w6 ⟨rfl, b⟩; replace hb := seq_below hb b; replace hrS := hrS.below b hrS.lt; replace hrI := hrI.below b hrI.lt; clear b))
  go_ret
  exact ⟨rfl, hb⟩
set_option maxRecDepth 20000 in
set_option maxHeartbeats 1000000 in
theorem walk_yes (w : World) (n : Int) (hv : inB n 1 1024 = true) :
    Calls Try.prog 8 #[.int .i64 n] w fun e w' => e = .returned (.bool true) ∧ Below w.heap.size w w' := by
  have hb := Below.refl w.heap.size w
  obtain ⟨h1, h2⟩ := inB_true' hv
  obtain ⟨k, rfl⟩ := Int.eq_ofNat_of_zero_le (show 0 ≤ n from by omega)
  have HV := Lib.hid hv
  have HK := Lib.hid (show (k : Int) ≤ 4294967296 from by omega)
  have hp : ¬ (1 + (k : Int) < 0) := by omega
  clear hv
  go_enter Try.func8, Try.ntmps8
  go_wp2_with (first
    | (go_at_call 30; refine (c_sNewRing _ _ HV.out).mono ?_; rintro e w1 ⟨gS, rfl, hS, hgS, b3⟩)
    | (have _ := m3; go_at_call 31; refine (c_iNewRing _ _ HV.out).mono ?_; rintro e w2 ⟨gH, rfl, hH, _, b3⟩; have m4 := True.intro)
    | (go_at_call 31; refine (c_iNewRing _ _ HV.out).mono ?_; rintro e w2 ⟨gI, rfl, hI, hgI', b3⟩; have HGI := Lib.hid (show gS ≠ gI from by have := hS.lt; omega); have HGI2 := Lib.hid (show w.heap.size ≤ gI from by have := hb.size; omega); have HGI3 := Lib.hid (Nat.lt_of_lt_of_le hrS.lt hgI'); clear hgI'; have m3 := True.intro)
    | (have _ := m4; refine wpList_store_newest (cells := #[.slice (some ⟨gH, 0, none⟩) k k, .int .i64 0]) rfl 42 _ _ rfl rfl rfl info_ring rfl rfl (fun w3 b4 hrH => ?_); have b := seq_below b3 b4; clear b3; replace hb := seq_below hb b; replace hrS := hrS.below b hrS.lt; replace hrI := hrI.below b hrI.lt; replace hS := hS.below b hS.lt; replace hI := hI.below b hI.lt; replace hH := hH.below b4 hH.lt; clear b b4)
    | (have _ := m3; refine wpList_store_newest (cells := #[.slice (some ⟨gI, 0, none⟩) k k, .int .i64 0]) rfl 42 _ _ rfl rfl rfl info_ring rfl rfl (fun w3 b4 hrI => ?_); have b := seq_below b3 b4; clear b3; replace hb := seq_below hb b; replace hrS := hrS.below b hrS.lt; replace hS := hS.below b hS.lt; have HGI4 := Lib.hid (Nat.ne_of_gt hI.lt); replace hI := hI.below b4 hI.lt)
    | (refine wpList_store_newest (cells := #[.slice (some ⟨gS, 0, none⟩) k k, .int .i64 0]) rfl 42 _ _ rfl rfl rfl info_ring rfl rfl (fun w3 b4 hrS => ?_); have b := seq_below b3 b4; clear b3; replace hb := seq_below hb b; replace hS := hS.below b4 hS.lt; clear b b4)
    | (refine wpList_load_cells rfl 42 _ rfl _ rfl hrI Try.underlying42 rfl info_ring ?_)
    | (refine wpList_load_cells rfl 42 _ rfl _ rfl hrS Try.underlying42 rfl info_ring ?_)
    | (refine wpList_load_cells rfl 42 _ rfl _ rfl hrH Try.underlying42 rfl info_ring ?_)
    | (have _ := m4; go_at_call 29; refine (c_eqRing_n _ _ _ _ k _ _ _ _ (Sl.of_blk hH) (Sl.of_blk hS) List.length_replicate List.length_replicate HK.out (fun _ _ => rfl)).mono ?_; rintro e w4 ⟨rfl, b⟩; replace hb := seq_below hb b; replace hrS := hrS.below b hrS.lt; replace hrI := hrI.below b hrI.lt; replace hrH := hrH.below b hrH.lt; replace hS := hS.below b hS.lt; replace hI := hI.below b hI.lt; clear b)
    | (go_at_call 29; refine (c_eqRing_n _ _ _ _ k _ _ _ _ (Sl.of_blk hI) (Sl.of_blk hS) List.length_replicate List.length_replicate HK.out (fun _ _ => rfl)).mono ?_; rintro e w4 ⟨rfl, b⟩; replace hb := seq_below hb b; replace hrS := hrS.below b hrS.lt; replace hrI := hrI.below b hrI.lt; replace hS := hS.below b hS.lt; replace hI := hI.below b hI.lt; clear b)
    | (go_at_call 32; refine (c_markRing_n _ _ k _ _ _ _ hI List.length_replicate HK.out (by decide) (by decide)).mono ?_; rintro e w5 ⟨rfl, hI2, b', ho⟩; have b := b'.mono HGI2.out; replace hb := hb.trans b; replace hrS := row_keepBut hrS ho (Nat.ne_of_lt HGI3.out); replace hrI := row_keepBut hrI ho HGI4.out; replace hS := blk_keepBut hS ho HGI.out; clear b b' ho hI; have hI := hI2; clear hI2)
    | (go_at_call 33; refine (c_heldRing _ _ _ _ _ _ hI HK.out (by decide) (by decide)).mono ?_; rintro e w6 ⟨rfl, b⟩; replace hb := seq_below hb b; replace hrS := hrS.below b hrS.lt; replace hrI := hrI.below b hrI.lt; replace hS := hS.below b hS.lt; replace hI := hI.below b hI.lt; clear b))
  go_ret
  exact ⟨rfl, hb⟩
theorem walk (w : World) (n : Int) (_ : (Lit.int .i64 n).wf = true) :
    Calls Try.prog 8 #[.int .i64 n] w fun e w' => e = .returned (.bool true) ∧ Below w.heap.size w w' := by
  cases hv : inB n 1 1024
  · exact walk_no w n hv
  · exact walk_yes w n hv

theorem own : ownKnob Try.prog.godebug = none := by kernel_rfl
theorem laidOut : laidOutB Try.prog = true := by kernel_rfl
set_option maxRecDepth 100000 in
theorem lifted (os : Os) (started : os.Started) (H : Type) (enc : TypeId × Value → H) :
    ReturnsInHanded {} Try.checked os 8 .any (Rows.fnExactNewRingSpec.pre6 enc Try.prog Try.f8 [] false) (Rows.fnExactNewRingSpec.post enc Try.prog Try.f8 false true false false) := by
  refine law_lifted (C := Try.checked) own started (by kernel_rfl) Try.func8
    (ChangeSpec.witness6 (enc := enc) (C := Try.checked) false ⟨#[], #[.int .i64 0], []⟩ 8 (by kernel_rfl) (by kernel_rfl) (by kernel_rfl) (by kernel_rfl))
    rfl 1 rfl (fun ds h => by match ds, h with | [d0], _ => exact ⟨rfl, rfl, rfl⟩) laidOut (of_decide_eq_true (by kernel_rfl)) 4 Try.underlying4 rfl ?_
  intro W base args ds p hval hA
  rw [Try.params8] at hA hval
  obtain ⟨v0, d0, rfl, rfl, h0⟩ := trodAll_one hA
  obtain ⟨x0, rfl, _, _, wx0⟩ := open_int Try.underlying2 (hval 0 _ _ rfl rfl) h0
  exact walk W x0 wx0
theorem over : Rows.fnExactNewRingRow.holds Try.pinned (OpenSpec.ofChange Rows.fnExactNewRingSpec) :=
  OpenClaim.holds_of_wide 8 Try.f8 rfl rfl rfl rfl rfl rfl rfl ⟨rfl, rfl, rfl, rfl, rfl⟩ rfl rfl rfl rfl rfl (by kernel_rfl) Try.func8 (by kernel_rfl)
    (of_decide_eq_true (by kernel_rfl)) (by unfold Func.isWrapper; first | (rw [if_pos (by decide +kernel)]; kernel_rfl) | (rw [if_neg (by decide +kernel)]; exact ⟨rfl, rfl⟩))
    (fun os started H enc _ => lifted os started H enc)
/-- THE STATEMENT. -/
theorem proved : Rows.FnExactNewRingSaid := over
#print axioms proved
end Go.Proofs.Ytboffmlhoddopaa.fnExactNewRing
