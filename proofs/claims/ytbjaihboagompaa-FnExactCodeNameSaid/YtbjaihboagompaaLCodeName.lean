/- The statement Rows.FnExactCodeNameSaid: the law FnExactCodeName returns true for every input, and its arguments read as before. No condition. -/
import Derived.Test.YtbjaihboagompaaRows
import Derived.Test.YtbjaihboagompaaC1
namespace Go.Proofs.Ytbjaihboagompaa.fnExactCodeName
open Go.ChangeShapes Go.WideShapes Go.ChangeAt Go.RowKit Go.Fl

theorem walk_out (w : World) (a : Int) (h : a < 0 ∨ 8 < a) :
    Calls Try.prog 5 #[.int .i64 a] w fun e w' => e = .returned (.bool true) ∧ Below w.heap.size w w' := by
  rcases h with h | h
  · go_enter Try.func5, Try.ntmps5
    go_wp2
    all_goals (go_ret; exact ⟨rfl, Go.Joins.below_alloc1 _ _⟩)
  · have h0 : 0 ≤ a := by omega
    have h1 : decide (a ≤ 8) = false := by simpa using h
    have h2 : decide (0 ≤ a) = true := by simpa using h0
    have h3 : ¬ a ≤ 8 := by omega
    clear h
    go_enter Try.func5, Try.ntmps5
    go_wp2
    all_goals (go_ret; exact ⟨rfl, Go.Joins.below_alloc1 _ _⟩)
set_option maxHeartbeats 2000000 in
theorem walk (w : World) (a : Int) (_ : (Lit.int .i64 a).wf = true) :
    Calls Try.prog 5 #[.int .i64 a] w fun e w' => e = .returned (.bool true) ∧ Below w.heap.size w w' := by
  by_cases h : a < 0 ∨ 8 < a
  · exact walk_out w a h
  · have hc : a = 0 ∨ a = 1 ∨ a = 2 ∨ a = 3 ∨ a = 4 ∨ a = 5 ∨ a = 6 ∨ a = 7 ∨ a = 8 := by omega
    clear h
    rcases hc with rfl | rfl | rfl | rfl | rfl | rfl | rfl | rfl | rfl
    all_goals
      go_enter Try.func5, Try.ntmps5
      go_wp2
      go_ret; exact ⟨rfl, Go.Joins.below_alloc2 _ _ _⟩

theorem own : ownKnob Try.prog.godebug = none := by kernel_rfl
theorem laidOut : laidOutB Try.prog = true := by kernel_rfl
set_option maxRecDepth 100000 in
theorem lifted (os : Os) (started : os.Started) (H : Type) (enc : TypeId × Value → H) :
    ReturnsInHanded {} Try.checked os 5 .any (Rows.fnExactCodeNameSpec.pre6 enc Try.prog Try.f5 [] false) (Rows.fnExactCodeNameSpec.post enc Try.prog Try.f5 false true false false) := by
  refine law_lifted (C := Try.checked) own started (by kernel_rfl) Try.func5
    (ChangeSpec.witness6 (enc := enc) (C := Try.checked) false ⟨#[], #[.int .i64 0], []⟩ 8 (by kernel_rfl) (by kernel_rfl) (by kernel_rfl) (by kernel_rfl))
    rfl 1 rfl (fun ds h => by match ds, h with | [d0], _ => exact ⟨rfl, rfl, rfl⟩) laidOut (of_decide_eq_true (by kernel_rfl)) 4 Try.underlying4 rfl ?_
  intro W base args ds p hval hA
  rw [Try.params5] at hA hval
  obtain ⟨v0, d0, rfl, rfl, h0⟩ := trodAll_one hA
  obtain ⟨x0, rfl, _, _, wx0⟩ := open_int Try.underlying2 (hval 0 _ _ rfl rfl) h0
  exact walk W x0 wx0
theorem over : Rows.fnExactCodeNameRow.holds Try.pinned (OpenSpec.ofChange Rows.fnExactCodeNameSpec) :=
  OpenClaim.holds_of_wide 5 Try.f5 rfl rfl rfl rfl rfl rfl rfl ⟨rfl, rfl, rfl, rfl, rfl⟩ rfl rfl rfl rfl rfl (by kernel_rfl) Try.func5 (by kernel_rfl)
    (of_decide_eq_true (by kernel_rfl)) (by unfold Func.isWrapper; first | (rw [if_pos (by decide +kernel)]; kernel_rfl) | (rw [if_neg (by decide +kernel)]; exact ⟨rfl, rfl⟩))
    (fun os started H enc _ => lifted os started H enc)
/-- THE STATEMENT. -/
theorem proved : Rows.FnExactCodeNameSaid := over
#print axioms proved
end Go.Proofs.Ytbjaihboagompaa.fnExactCodeName
