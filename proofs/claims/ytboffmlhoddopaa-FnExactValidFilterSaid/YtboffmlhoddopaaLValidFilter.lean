/- The statement Rows.FnExactValidFilterSaid: the law FnExactValidFilter returns true for every input, and its arguments read as before. No condition. -/
import Derived.Test.YtboffmlhoddopaaRows
import Derived.Test.YtboffmlhoddopaaGd
namespace Go.Proofs.Ytboffmlhoddopaa.fnExactValidFilter
open Go.ChangeShapes Go.WideShapes Go.ChangeAt Go.RowKit Go.Fl

set_option maxRecDepth 20000 in
set_option maxHeartbeats 2000000 in
theorem walk (w : World) (k : Int) (c0 c1 c2 s0 s1 : Nat) (_ : (Lit.int .i64 k).wf = true) :
    Calls Try.prog 6 #[.agg (filC k c0 c1 c2 s0 s1).toArray] w fun e w' => e = .returned (.bool true) ∧ Below w.heap.size w w' := by
  have q : Row (w.alloc (.cells (filC k c0 c1 c2 s0 s1).toArray 32)) w.heap.size (filC k c0 c1 c2 s0 s1).toArray 32 := Row.new _ _ _ _ rfl
  have hb := Go.Joins.below_alloc1 w (.cells (filC k c0 c1 c2 s0 s1).toArray 32)
  have cF1 := fun W => c_toFilter k c0 c1 c2 s0 s1 W
  have cS := fun W => c_sValidFilter k c0 c1 c2 s0 s1 W
  have cI := fun W => c_iValidFilter k c0 c1 c2 s0 s1 W
  have i1 : (Try.prog.info? 32).map (·.size) = some (filC k c0 c1 c2 s0 s1).toArray.size := by kernel_rfl
  generalize (filC k c0 c1 c2 s0 s1).toArray = F1 at *
  generalize okF k [c0, c1, c2] [s0, s1] = v at *
  have CF1 := Lib.hid cF1; have CS := Lib.hid cS; have CI := Lib.hid cI; have I1 := Lib.hid i1
  clear cF1 cS cI i1
  have hvv : (v != v) = false := by simp
  go_enter Try.func6, Try.ntmps6
  go_wp2_with (refine wpList_load_cells rfl 32 _ rfl _ rfl q Try.underlying32 rfl I1.out ?_)
  refine (CF1.out _).mono ?_; rintro e w1 ⟨rfl, b⟩; replace q := q.below b q.lt; replace hb := seq_below hb b; clear b
  go_wp2_with fail
  refine (CS.out _).mono ?_; rintro e w2 ⟨rfl, b⟩; replace q := q.below b q.lt; replace hb := seq_below hb b; clear b
  go_wp2_with (refine wpList_load_cells rfl 32 _ rfl _ rfl q Try.underlying32 rfl I1.out ?_)
  refine (CF1.out _).mono ?_; rintro e w3 ⟨rfl, b⟩; replace q := q.below b q.lt; replace hb := seq_below hb b; clear b
  go_wp2_with fail
  refine (CI.out _).mono ?_; rintro e w4 ⟨rfl, b⟩; replace q := q.below b q.lt; replace hb := seq_below hb b; clear b
  go_wp2_with fail
  go_ret
  exact ⟨rfl, hb⟩

theorem own : ownKnob Try.prog.godebug = none := by kernel_rfl
theorem laidOut : laidOutB Try.prog = true := by kernel_rfl
set_option maxRecDepth 100000 in
theorem lifted (os : Os) (started : os.Started) (H : Type) (enc : TypeId × Value → H) :
    ReturnsInHanded {} Try.checked os 6 .any (Rows.fnExactValidFilterSpec.pre6 enc Try.prog Try.f6 [] false) (Rows.fnExactValidFilterSpec.post enc Try.prog Try.f6 false true false false) := by
  refine law_lifted (C := Try.checked) own started (by kernel_rfl) Try.func6
    (ChangeSpec.witness6 (enc := enc) (C := Try.checked) false ⟨#[], #[.agg (filC 0 0 0 0 0 0).toArray], []⟩ 8 (by kernel_rfl) (by kernel_rfl) (by kernel_rfl) (by kernel_rfl))
    rfl 1 rfl (fun ds h => by match ds, h with | [d0], _ => exact ⟨rfl, rfl, rfl⟩) laidOut (of_decide_eq_true (by kernel_rfl)) 4 Try.underlying4 rfl ?_
  intro W base args ds p hval hA
  rw [Try.params6] at hA hval
  obtain ⟨v0, d0, rfl, rfl, h0⟩ := trodAll_one hA
  obtain ⟨k0, fa0, fb0, fc0, fd0, fe0, rfl, hw0⟩ := open_filt Try.underlying32 rfl rfl rfl (by kernel_rfl) (by kernel_rfl) (by kernel_rfl) (by kernel_rfl) Try.underlying2 Try.underlying23 Try.underlying24 Try.underlying22 Try.underlying22 (by kernel_rfl) (by kernel_rfl) (hval 0 _ _ rfl rfl) h0
  exact walk W k0 fa0 fb0 fc0 fd0 fe0 hw0
theorem over : Rows.fnExactValidFilterRow.holds Try.pinned (OpenSpec.ofChange Rows.fnExactValidFilterSpec) :=
  OpenClaim.holds_of_wide 6 Try.f6 rfl rfl rfl rfl rfl rfl rfl ⟨rfl, rfl, rfl, rfl, rfl⟩ rfl rfl rfl rfl rfl (by kernel_rfl) Try.func6 (by kernel_rfl)
    (of_decide_eq_true (by kernel_rfl)) (by unfold Func.isWrapper; first | (rw [if_pos (by decide +kernel)]; kernel_rfl) | (rw [if_neg (by decide +kernel)]; exact ⟨rfl, rfl⟩))
    (fun os started H enc _ => lifted os started H enc)
/-- THE STATEMENT. -/
theorem proved : Rows.FnExactValidFilterSaid := over
#print axioms proved
end Go.Proofs.Ytboffmlhoddopaa.fnExactValidFilter
