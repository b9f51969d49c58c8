/- Two poles. No condition. -/
import Derived.Test.YtklnoiopogodiaaSd
import Derived.Test.YtklnoiopogodiaaFe
namespace Go.Proofs.Ytklnoiopogodiaa
open Go.RowKit Go.Fl
/-- A callee met in a world that has drawn: seen from the world before. -/
theorem below_drop {w w' : World} {n : Nat} (h : Below (w.drewN n).heap.size (w.drewN n) w') : Below w.heap.size w w' := (below_drewN (Below.refl _ _) n).trans h
def twoC (a b : CF) : CF := negC .f32 (cop .mul .f32 (cop .mul .f32 (cv .f32 1073741824) b) (sineC (cop .add .f32 a (cv .f32 1048576000))))
def TwoPost (a b : Nat) (w : World) (e : Ending) (w' : World) : Prop := ∃ r0 r1 r2, e = .returned (.agg #[.int .i64 4, .float .f32 r0, .float .f32 r1, .float .f32 r2, .float .f32 0, .float .f32 0]) ∧ cv .f32 r0 = cop .sub .f32 (cv .f32 1065353216) (cv .f32 b) ∧ cv .f32 r1 = twoC (cv .f32 a) (cv .f32 b) ∧ cv .f32 r2 = cop .mul .f32 (cv .f32 b) (cv .f32 b) ∧ Below w.heap.size w w'
theorem c_sTwoPole (a b : Nat) (w : World) : Calls Try.prog 15 #[.float .f32 a, .float .f32 b] w (TwoPost a b w) := by
  have hR := Row.new w #[.int .i64 0, .float .f32 0, .float .f32 0, .float .f32 0, .float .f32 0, .float .f32 0] 35 _ rfl
  have hb0 := Go.Joins.below_alloc1 w (.cells #[.int .i64 0, .float .f32 0, .float .f32 0, .float .f32 0, .float .f32 0, .float .f32 0] 35)
  go_enter Try.func15, Try.ntmps15
  go_wp2_with (first
    | (go_at_call 31; refine (c_l01Sine _ _).mono ?_; rintro e w1 ⟨r, rfl, HS', b1⟩; have HS := Lib.hid HS'; clear HS'; replace hR := hR.below (below_drop b1) hR.lt; replace hb0 := seq_below hb0 (below_drop b1); clear b1)
    | (refine wpList_store_own rfl 35 _ _ rfl rfl rfl (by first | exact hb0 | exact below_drewN hb0 _) (by first | exact Nat.le_refl _ | omega) hR info_filter rfl rfl (fun w2 b2 h2 => ?_)))
  refine bodyPost_ret (results_cells rfl _ _ _ rfl h2 Try.underlying35 rfl info_filter) rfl ⟨_, _, _, rfl, ?_, ?_, ?_, b2⟩
  · simp only [cv_fval]
  · unfold twoC; rw [cv_neg, cv_fval, HS.out]; simp only [cv_fval]
  · simp only [cv_fval]
theorem c_iTwoPole (a b : Nat) (w : World) : Calls Try.prog 16 #[.float .f32 a, .float .f32 b] w (TwoPost a b w) := by
  have hR := Row.new w #[.int .i64 0, .float .f32 0, .float .f32 0, .float .f32 0, .float .f32 0, .float .f32 0] 35 _ rfl
  have hb0 := Go.Joins.below_alloc1 w (.cells #[.int .i64 0, .float .f32 0, .float .f32 0, .float .f32 0, .float .f32 0, .float .f32 0] 35)
  go_enter Try.func16, Try.ntmps16
  go_wp2_with (first
    | (go_at_call 10; refine (c_SineOf _ _).mono ?_; rintro e w1 ⟨r, rfl, HS', b1⟩; have HS := Lib.hid HS'; clear HS'; replace hR := hR.below (below_drop b1) hR.lt; replace hb0 := seq_below hb0 (below_drop b1); clear b1)
    | (refine wpList_store_own rfl 35 _ _ rfl rfl rfl (by first | exact hb0 | exact below_drewN hb0 _) (by first | exact Nat.le_refl _ | omega) hR info_filter rfl rfl (fun w2 b2 h2 => ?_)))
  refine bodyPost_ret (results_cells rfl _ _ _ rfl h2 Try.underlying35 rfl info_filter) rfl ⟨_, _, _, rfl, ?_, ?_, ?_, b2⟩
  · simp only [cv_fval]
  · unfold twoC; rw [cv_neg, cv_fval, HS.out]; simp only [cv_fval]
  · simp only [cv_fval]
end Go.Proofs.Ytklnoiopogodiaa
