/- The filter of an allpass of a fraction. No condition. -/
import Derived.Test.YtpchebclhjgcmaaFe
namespace Go.Proofs.Ytpchebclhjgcmaa
open Go.RowKit Go.Fl
def Good (a : CF) : Prop := (ordC .f32 a (cv .f32 0) = some .gt ∨ ordC .f32 a (cv .f32 0) = some .eq) ∧ (ordC .f32 a (cv .f32 1073741824) = some .lt ∨ ordC .f32 a (cv .f32 1073741824) = some .eq)
def AllRel (a : CF) (k : Int) (c : CF) (q : Int) : Prop := (Good a ∧ k = 3 ∧ c = cop .quo .f32 (cop .sub .f32 (cv .f32 1065353216) a) (cop .add .f32 (cv .f32 1065353216) a) ∧ q = 0) ∨ (¬ Good a ∧ k = 0 ∧ c = cv .f32 0 ∧ q = 2)
theorem AllRel.same {a : CF} {k k' : Int} {c c' : CF} {q q' : Int} (h : AllRel a k c q) (h' : AllRel a k' c' q') : k = k' ∧ c = c' ∧ q = q' := by
  rcases h with ⟨g, rfl, rfl, rfl⟩ | ⟨g, rfl, rfl, rfl⟩ <;> rcases h' with ⟨g', rfl, rfl, rfl⟩ | ⟨g', rfl, rfl, rfl⟩
  · exact ⟨rfl, rfl, rfl⟩
  · exact absurd g g'
  · exact absurd g' g
  · exact ⟨rfl, rfl, rfl⟩
theorem c_iAllpassFor (a : Nat) (w : World) : Calls Try.prog 61 #[.float .f32 a] w fun e w' => ∃ k c q, e = .returned (.tuple #[.agg (filt k c 0 0 0 0), .int .i64 q]) ∧ AllRel (cv .f32 a) k (cv .f32 c) q ∧ Below w.heap.size w w' := by
  have hR := Row.new w #[.int .i64 0, .float .f32 0, .float .f32 0, .float .f32 0, .float .f32 0, .float .f32 0] 35 _ rfl
  have hb0 := Go.Joins.below_alloc1 w (.cells #[.int .i64 0, .float .f32 0, .float .f32 0, .float .f32 0, .float .f32 0, .float .f32 0] 35)
  unfold filt
  go_enter Try.func61, Try.ntmps61
  go_wp2_with (refine wpList_store_own rfl 35 _ _ rfl rfl rfl (by first | exact hb0 | exact below_drewN hb0 _) (Nat.le_refl _) hR info_filter rfl rfl (fun w1 b1 h1 => ?_))
  all_goals
    refine bodyPost_ret (results_cells_tmp rfl _ _ _ rfl rfl h1 Try.underlying35 rfl info_filter) rfl ⟨_, _, _, rfl, ?_, b1⟩
    clear h1 b1 hR hb0
    first
      | (refine .inl ⟨?_, rfl, by simp only [cv_fval], rfl⟩; unfold Good; first | grind | simp_all)
      | (refine .inr ⟨?_, rfl, rfl, rfl⟩; unfold Good; first | grind | simp_all)
theorem c_sAllpassFor (a : Nat) (w : World) : Calls Try.prog 56 #[.float .f32 a] w fun e w' => ∃ k c q, e = .returned (.tuple #[.agg (filt k c 0 0 0 0), .int .i64 q]) ∧ AllRel (cv .f32 a) k (cv .f32 c) q ∧ Below w.heap.size w w' := by
  have hR := Row.new w #[.int .i64 0, .float .f32 0, .float .f32 0, .float .f32 0, .float .f32 0, .float .f32 0] 35 _ rfl
  have hb0 := Go.Joins.below_alloc1 w (.cells #[.int .i64 0, .float .f32 0, .float .f32 0, .float .f32 0, .float .f32 0, .float .f32 0] 35)
  unfold filt
  go_enter Try.func56, Try.ntmps56
  go_wp2_with (refine wpList_store_own rfl 35 _ _ rfl rfl rfl (by first | exact hb0 | exact below_drewN hb0 _) (Nat.le_refl _) hR info_filter rfl rfl (fun w1 b1 h1 => ?_))
  all_goals
    refine bodyPost_ret (results_cells_tmp rfl _ _ _ rfl rfl h1 Try.underlying35 rfl info_filter) rfl ⟨_, _, _, rfl, ?_, b1⟩
    clear h1 b1 hR hb0
    first
      | (refine .inl ⟨?_, rfl, by simp only [cv_fval], rfl⟩; unfold Good; first | grind | simp_all)
      | (refine .inr ⟨?_, rfl, rfl, rfl⟩; unfold Good; first | grind | simp_all)
end Go.Proofs.Ytpchebclhjgcmaa
