/- The statement Rows.FnExactSameBlockSaid: the law FnExactSameBlock returns true for every input, and its arguments read as before. No condition. -/
import Derived.Test.YtjkffooohpfbdaaRows
import Derived.Test.YtjkffooohpfbdaaCb
namespace Go.Proofs.Ytjkffooohpfbdaa.fnExactSameBlock
open Go.ChangeShapes Go.WideShapes Go.ChangeAt Go.RowKit Go.Fl

theorem walk (w : World) (xs : List Nat) (hx : xs.length = 16) (_ : ∀ x ∈ xs, x < 4294967296) (ys : List Nat) (hy : ys.length = 16) (_ : ∀ x ∈ ys, x < 4294967296) :
    Calls Try.prog 5 #[.agg (fl xs), .agg (fl ys)] w fun e w' => e = .returned (.bool true) ∧ Below w.heap.size w w' := by
  have h1 : Blk ((w.alloc (.cells (fl xs) 23)).alloc (.cells (fl ys) 23)) w.heap.size xs 23 := (Blk.new _ _ _ _ rfl).alloc _
  have h2 : Blk ((w.alloc (.cells (fl xs) 23)).alloc (.cells (fl ys) 23)) (w.heap.size + 1) ys 23 := Blk.new _ _ _ _ (by simp)
  have hb := Go.Joins.below_alloc2 w (.cells (fl xs) 23) (.cells (fl ys) 23)
  have HX := Lib.hid hx; have HY := Lib.hid hy; clear hx hy
  go_enter Try.func5, Try.ntmps5
  go_wp2_with fail
  generalize hW : (w.alloc (.cells (fl xs) 23)).alloc (.cells (fl ys) 23) = W at *
  clear hW
  have s0 := (Below.refl W.heap.size W).drew
  refine wp_region_seq (S := fun w' => Below W.heap.size W w') [(true, 0), (true, 2), (false, 1), (false, 3), (false, 4), (true, 5)] (by kernel_rfl) (by kernel_rfl) (by kernel_rfl) (fun _ _ d _ _ h => by cases d <;> exact h) s0 ?_
  refine wpSeq_held rfl (yields_load_blk rfl _ _ rfl _ rfl h1 (fun _ h => h) Try.underlying23 info_a16 HX.out) ?_
  refine wpSeq_held rfl (yields_load_blk rfl _ _ rfl _ rfl h2 (fun _ h => h) Try.underlying23 info_a16 HY.out) ?_
  refine wpSeq_step rfl rfl (fun K hK => ?_)
  go_wp2_with fail
  refine (c_toBlock _ _ HX.out).mono ?_; rintro e w1 ⟨rfl, b1⟩
  have s1 := seq_below s0 b1
  refine hK _ _ ⟨s1, ?_⟩; clear hK
  refine wpSeq_step rfl rfl (fun K hK => ?_)
  go_wp2_with fail
  refine (c_toBlock _ _ HY.out).mono ?_; rintro e w2 ⟨rfl, b2⟩
  have s2 := seq_below s1 b2
  refine hK _ _ ⟨s2, ?_⟩; clear hK
  refine wpSeq_step rfl rfl (fun K hK => ?_)
  go_wp2_with fail
  refine (c_sSameBlock _ _ _ HX.out HY.out).mono ?_; rintro e w3 ⟨rfl, b3⟩
  have s3 := seq_below s2 b3
  refine hK _ _ ⟨s3, ?_⟩; clear hK
  refine wpSeq_held rfl (yields_move rfl _ (.inr rfl)) ?_
  refine wpSeq_nil ?_
  replace h1 := h1.below s3 h1.lt; replace h2 := h2.below s3 h2.lt; replace hb := seq_below hb s3
  clear s0 s1 s2 s3 b1 b2 b3
  go_wp2_with fail
  have s0 := (Below.refl w3.heap.size w3).drew
  refine wp_region_seq (S := fun w' => Below w3.heap.size w3 w') [(true, 0), (true, 2), (false, 1), (false, 3), (false, 4), (true, 5)] (by kernel_rfl) (by kernel_rfl) (by kernel_rfl) (fun _ _ d _ _ h => by cases d <;> exact h) s0 ?_
  refine wpSeq_held rfl (yields_load_blk rfl _ _ rfl _ rfl h1 (fun _ h => h) Try.underlying23 info_a16 HX.out) ?_
  refine wpSeq_held rfl (yields_load_blk rfl _ _ rfl _ rfl h2 (fun _ h => h) Try.underlying23 info_a16 HY.out) ?_
  refine wpSeq_step rfl rfl (fun K hK => ?_)
  go_wp2_with fail
  refine (c_toBlock _ _ HX.out).mono ?_; rintro e w4 ⟨rfl, b1⟩
  have s1 := seq_below s0 b1
  refine hK _ _ ⟨s1, ?_⟩; clear hK
  refine wpSeq_step rfl rfl (fun K hK => ?_)
  go_wp2_with fail
  refine (c_toBlock _ _ HY.out).mono ?_; rintro e w5 ⟨rfl, b2⟩
  have s2 := seq_below s1 b2
  refine hK _ _ ⟨s2, ?_⟩; clear hK
  refine wpSeq_step rfl rfl (fun K hK => ?_)
  go_wp2_with fail
  refine (c_iSameBlock _ _ _ HX.out HY.out).mono ?_; rintro e w6 ⟨rfl, b3⟩
  have s3 := seq_below s2 b3
  refine hK _ _ ⟨s3, ?_⟩; clear hK
  refine wpSeq_held rfl (yields_move rfl _ (.inr rfl)) ?_
  refine wpSeq_nil ?_
  replace hb := seq_below hb s3
  clear s0 s1 s2 s3 b1 b2 b3 h1 h2
  cases hs : sameUpTo xs ys 16 <;>
  · go_wp2_with fail
    go_ret
    exact ⟨rfl, by first | exact hb | exact below_drewN hb _⟩

theorem own : ownKnob Try.prog.godebug = none := by kernel_rfl
theorem laidOut : laidOutB Try.prog = true := by kernel_rfl
set_option maxRecDepth 100000 in
theorem lifted (os : Os) (started : os.Started) (H : Type) (enc : TypeId × Value → H) :
    ReturnsInHanded {} Try.checked os 5 .any (Rows.fnExactSameBlockSpec.pre6 enc Try.prog Try.f5 [] false) (Rows.fnExactSameBlockSpec.post enc Try.prog Try.f5 false true false false) := by
  refine law_lifted (C := Try.checked) own started (by kernel_rfl) Try.func5
    (ChangeSpec.witness6 (enc := enc) (C := Try.checked) false ⟨#[], #[.agg (Array.replicate 16 (.float .f32 0)), .agg (Array.replicate 16 (.float .f32 0))], []⟩ 8 (by kernel_rfl) (by kernel_rfl) (by kernel_rfl) (by kernel_rfl))
    rfl 2 rfl (fun ds h => by match ds, h with | [d0, d1], _ => exact ⟨rfl, rfl, rfl⟩) laidOut (of_decide_eq_true (by kernel_rfl)) 4 Try.underlying4 rfl ?_
  intro W base args ds p hval hA
  rw [Try.params5] at hA hval
  obtain ⟨v0, v1, d0, d1, p0, p1, rfl, rfl, rfl, h0, h1⟩ := trodAll_two hA
  obtain ⟨xs0, rfl, hl0, hw0⟩ := open_farr (n := 16) Try.underlying23 Try.underlying22 (by kernel_rfl) (by kernel_rfl) (hval 0 _ _ rfl rfl) h0
  obtain ⟨xs1, rfl, hl1, hw1⟩ := open_farr (n := 16) Try.underlying23 Try.underlying22 (by kernel_rfl) (by kernel_rfl) (hval 1 _ _ rfl rfl) h1
  exact walk W xs0 hl0 hw0 xs1 hl1 hw1
theorem over : Rows.fnExactSameBlockRow.holds Try.pinned (OpenSpec.ofChange Rows.fnExactSameBlockSpec) :=
  OpenClaim.holds_of_wide 5 Try.f5 rfl rfl rfl rfl rfl rfl rfl ⟨rfl, rfl, rfl, rfl, rfl⟩ rfl rfl rfl rfl rfl (by kernel_rfl) Try.func5 (by kernel_rfl)
    (of_decide_eq_true (by kernel_rfl)) (by unfold Func.isWrapper; first | (rw [if_pos (by decide +kernel)]; kernel_rfl) | (rw [if_neg (by decide +kernel)]; exact ⟨rfl, rfl⟩))
    (fun os started H enc _ => lifted os started H enc)
/-- THE STATEMENT. -/
theorem proved : Rows.FnExactSameBlockSaid := over
#print axioms proved
end Go.Proofs.Ytjkffooohpfbdaa.fnExactSameBlock
