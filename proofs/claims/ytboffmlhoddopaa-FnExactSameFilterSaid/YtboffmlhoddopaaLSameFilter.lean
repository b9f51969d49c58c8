/- The statement Rows.FnExactSameFilterSaid: the law FnExactSameFilter returns true for every input, and its arguments read as before. No condition. -/
import Derived.Test.YtboffmlhoddopaaRows
import Derived.Test.YtboffmlhoddopaaGb
namespace Go.Proofs.Ytboffmlhoddopaa.fnExactSameFilter
open Go.ChangeShapes Go.WideShapes Go.ChangeAt Go.RowKit Go.Fl

set_option maxRecDepth 20000 in
set_option maxHeartbeats 2000000 in
theorem walk (w : World) (k : Int) (c0 c1 c2 s0 s1 : Nat) (_ : (Lit.int .i64 k).wf = true) (l : Int) (d0 d1 d2 t0 t1 : Nat) (_ : (Lit.int .i64 l).wf = true) :
    Calls Try.prog 5 #[.agg (filC k c0 c1 c2 s0 s1).toArray, .agg (filC l d0 d1 d2 t0 t1).toArray] w fun e w' => e = .returned (.bool true) ∧ Below w.heap.size w w' := by
  obtain ⟨wa, hwa⟩ : ∃ wa, wa = (w.alloc (.cells (filC k c0 c1 c2 s0 s1).toArray 32)).alloc (.cells (filC l d0 d1 d2 t0 t1).toArray 32) := ⟨_, rfl⟩
  have q1 : Row wa w.heap.size (filC k c0 c1 c2 s0 s1).toArray 32 := by subst hwa; exact (Row.new _ _ _ _ rfl).alloc _
  have q2 : Row wa (w.heap.size + 1) (filC l d0 d1 d2 t0 t1).toArray 32 := by subst hwa; exact Row.new _ _ _ _ (by simp)
  have hb : Below w.heap.size w wa := by subst hwa; exact Go.Joins.below_alloc2 _ _ _
  have cF1 := fun W => c_toFilter k c0 c1 c2 s0 s1 W
  have cF2 := fun W => c_toFilter l d0 d1 d2 t0 t1 W
  have cS := fun W => c_sSameFilter k l c0 c1 c2 s0 s1 d0 d1 d2 t0 t1 W
  have cI := fun W => c_iSameFilter k l c0 c1 c2 s0 s1 d0 d1 d2 t0 t1 W
  have i1 : (Try.prog.info? 32).map (·.size) = some (filC k c0 c1 c2 s0 s1).toArray.size := by kernel_rfl
  have i2 : (Try.prog.info? 32).map (·.size) = some (filC l d0 d1 d2 t0 t1).toArray.size := by kernel_rfl
  generalize (filC k c0 c1 c2 s0 s1).toArray = F1 at *
  generalize (filC l d0 d1 d2 t0 t1).toArray = F2 at *
  generalize sfB k [c0, c1, c2] [s0, s1] l [d0, d1, d2] [t0, t1] = v at *
  have CF1 := Lib.hid cF1; have CF2 := Lib.hid cF2; have CS := Lib.hid cS; have CI := Lib.hid cI; have I1 := Lib.hid i1; have I2 := Lib.hid i2; have HB := Lib.hid hb; have HW := Lib.hid hwa
  clear cF1 cF2 cS cI i1 i2 hb hwa
  go_enter Try.func5, Try.ntmps5
  go_wp2_with fail
  rw [← HW.out]
  have s0 := (Below.refl wa.heap.size wa).drew
  refine wp_region_seq (S := fun w' => Below wa.heap.size wa w') [(true, 0), (true, 2), (false, 1), (false, 3), (false, 4), (true, 5)] (by kernel_rfl) (by kernel_rfl) (by kernel_rfl) (fun _ _ d _ _ h => by cases d <;> exact h) s0 ?_
  refine wpSeq_held rfl (yields_load_cells rfl _ _ rfl _ rfl q1 q1.lt (fun _ h => h) Try.underlying32 rfl I1.out) ?_
  refine wpSeq_held rfl (yields_load_cells rfl _ _ rfl _ rfl q2 q2.lt (fun _ h => h) Try.underlying32 rfl I2.out) ?_
  refine wpSeq_step rfl rfl (fun K hK => ?_)
  go_wp2_with fail
  refine (CF1.out _).mono ?_; rintro e w3 ⟨rfl, b1⟩
  have s1 := seq_below s0 b1
  refine hK _ _ ⟨s1, ?_⟩; clear hK
  refine wpSeq_step rfl rfl (fun K hK => ?_)
  go_wp2_with fail
  refine (CF2.out _).mono ?_; rintro e w4 ⟨rfl, b2⟩
  have s2 := seq_below s1 b2
  refine hK _ _ ⟨s2, ?_⟩; clear hK
  refine wpSeq_step rfl rfl (fun K hK => ?_)
  go_wp2_with fail
  refine (CS.out _).mono ?_; rintro e w5 ⟨rfl, b3⟩
  have s3 := seq_below s2 b3
  refine hK _ _ ⟨s3, ?_⟩; clear hK
  refine wpSeq_held rfl (yields_move rfl _ (.inr rfl)) ?_
  refine wpSeq_nil ?_
  replace q1 := q1.below s3 q1.lt; replace q2 := q2.below s3 q2.lt; replace HB := Lib.hid (seq_below HB.out s3); clear s0 s1 s2 s3 b1 b2 b3
  go_wp2_with fail
  have s0 := (Below.refl w5.heap.size w5).drew
  refine wp_region_seq (S := fun w' => Below w5.heap.size w5 w') [(true, 0), (true, 2), (false, 1), (false, 3), (false, 4), (true, 5)] (by kernel_rfl) (by kernel_rfl) (by kernel_rfl) (fun _ _ d _ _ h => by cases d <;> exact h) s0 ?_
  refine wpSeq_held rfl (yields_load_cells rfl _ _ rfl _ rfl q1 q1.lt (fun _ h => h) Try.underlying32 rfl I1.out) ?_
  refine wpSeq_held rfl (yields_load_cells rfl _ _ rfl _ rfl q2 q2.lt (fun _ h => h) Try.underlying32 rfl I2.out) ?_
  refine wpSeq_step rfl rfl (fun K hK => ?_)
  go_wp2_with fail
  refine (CF1.out _).mono ?_; rintro e w6 ⟨rfl, b1⟩
  have s1 := seq_below s0 b1
  refine hK _ _ ⟨s1, ?_⟩; clear hK
  refine wpSeq_step rfl rfl (fun K hK => ?_)
  go_wp2_with fail
  refine (CF2.out _).mono ?_; rintro e w7 ⟨rfl, b2⟩
  have s2 := seq_below s1 b2
  refine hK _ _ ⟨s2, ?_⟩; clear hK
  refine wpSeq_step rfl rfl (fun K hK => ?_)
  go_wp2_with fail
  refine (CI.out _).mono ?_; rintro e w8 ⟨rfl, b3⟩
  have s3 := seq_below s2 b3
  refine hK _ _ ⟨s3, ?_⟩; clear hK
  refine wpSeq_held rfl (yields_move rfl _ (.inr rfl)) ?_
  refine wpSeq_nil ?_
  replace HB := Lib.hid (seq_below HB.out s3); clear s0 s1 s2 s3 b1 b2 b3
  have hvv : (v != v) = false := by simp
  go_wp2_with fail
  go_ret
  exact ⟨rfl, HB.out⟩

theorem own : ownKnob Try.prog.godebug = none := by kernel_rfl
theorem laidOut : laidOutB Try.prog = true := by kernel_rfl
set_option maxRecDepth 100000 in
theorem lifted (os : Os) (started : os.Started) (H : Type) (enc : TypeId × Value → H) :
    ReturnsInHanded {} Try.checked os 5 .any (Rows.fnExactSameFilterSpec.pre6 enc Try.prog Try.f5 [] false) (Rows.fnExactSameFilterSpec.post enc Try.prog Try.f5 false true false false) := by
  refine law_lifted (C := Try.checked) own started (by kernel_rfl) Try.func5
    (ChangeSpec.witness6 (enc := enc) (C := Try.checked) false ⟨#[], #[.agg (filC 0 0 0 0 0 0).toArray, .agg (filC 0 0 0 0 0 0).toArray], []⟩ 8 (by kernel_rfl) (by kernel_rfl) (by kernel_rfl) (by kernel_rfl))
    rfl 2 rfl (fun ds h => by match ds, h with | [d0, d1], _ => exact ⟨rfl, rfl, rfl⟩) laidOut (of_decide_eq_true (by kernel_rfl)) 4 Try.underlying4 rfl ?_
  intro W base args ds p hval hA
  rw [Try.params5] at hA hval
  obtain ⟨v0, v1, d0, d1, p0, p1, rfl, rfl, rfl, h0, h1⟩ := trodAll_two hA
  obtain ⟨k0, fa0, fb0, fc0, fd0, fe0, rfl, hw0⟩ := open_filt Try.underlying32 rfl rfl rfl (by kernel_rfl) (by kernel_rfl) (by kernel_rfl) (by kernel_rfl) Try.underlying2 Try.underlying23 Try.underlying24 Try.underlying22 Try.underlying22 (by kernel_rfl) (by kernel_rfl) (hval 0 _ _ rfl rfl) h0
  obtain ⟨k1, fa1, fb1, fc1, fd1, fe1, rfl, hw1⟩ := open_filt Try.underlying32 rfl rfl rfl (by kernel_rfl) (by kernel_rfl) (by kernel_rfl) (by kernel_rfl) Try.underlying2 Try.underlying23 Try.underlying24 Try.underlying22 Try.underlying22 (by kernel_rfl) (by kernel_rfl) (hval 1 _ _ rfl rfl) h1
  exact walk W k0 fa0 fb0 fc0 fd0 fe0 hw0 k1 fa1 fb1 fc1 fd1 fe1 hw1
theorem over : Rows.fnExactSameFilterRow.holds Try.pinned (OpenSpec.ofChange Rows.fnExactSameFilterSpec) :=
  OpenClaim.holds_of_wide 5 Try.f5 rfl rfl rfl rfl rfl rfl rfl ⟨rfl, rfl, rfl, rfl, rfl⟩ rfl rfl rfl rfl rfl (by kernel_rfl) Try.func5 (by kernel_rfl)
    (of_decide_eq_true (by kernel_rfl)) (by unfold Func.isWrapper; first | (rw [if_pos (by decide +kernel)]; kernel_rfl) | (rw [if_neg (by decide +kernel)]; exact ⟨rfl, rfl⟩))
    (fun os started H enc _ => lifted os started H enc)
/-- THE STATEMENT. -/
theorem proved : Rows.FnExactSameFilterSaid := over
#print axioms proved
end Go.Proofs.Ytboffmlhoddopaa.fnExactSameFilter
