/- New rings. No condition. -/
import Derived.Test.YtpchebclhjgcmaaSw
namespace Go.Proofs.Ytpchebclhjgcmaa
open Go.RowKit Go.Fl
theorem inB_true' {a b c : Int} (h : inB a b c = true) : b ≤ a ∧ a ≤ c := by simpa [inB] using h
set_option maxRecDepth 20000 in
theorem c_iNewRing_no (n : Int) (w : World) (h : inB n 1 1024 = false) : Calls Try.prog 60 #[.int .i64 n] w fun e w' => e = .returned (.tuple #[.agg #[.slice none 0 0, .int .i64 0], .int .i64 2]) ∧ Below w.heap.size w w' := by
  have hR := Row.new w #[.slice none 0 0, .int .i64 0] 34 _ rfl
  have hb0 := Go.Joins.below_alloc1 w (.cells #[.slice none 0 0, .int .i64 0] 34)
  go_enter Try.func60, Try.ntmps60
  go_wp2_with (first
    | (go_at_call 69; refine (c_within _ _ _ _ _ h).mono ?_; rintro e w1 ⟨rfl, rfl⟩)
    | (refine wpList_store_own rfl 34 _ _ rfl rfl rfl hb0 (Nat.le_refl _) hR info_ring rfl rfl (fun w2 b2 h2 => ?_)))
  exact bodyPost_ret (results_cells_tmp rfl _ _ _ rfl rfl h2 Try.underlying34 rfl info_ring) rfl ⟨rfl, b2⟩
set_option maxRecDepth 20000 in
theorem c_iNewRing (n : Nat) (w : World) (h : inB n 1 1024 = true) : Calls Try.prog 60 #[.int .i64 n] w fun e w' => ∃ g, e = .returned (.tuple #[.agg #[.slice (some ⟨g, 0, none⟩) n n, .int .i64 0], .int .i64 0]) ∧ Blk w' g (List.replicate n 0) 25 ∧ w.heap.size ≤ g ∧ Below w.heap.size w w' := by
  obtain ⟨hlo, hhi⟩ := inB_true' h
  have hmk := fun W => run_make_row' (P := Try.prog) 22 25 (.float .f32 0) 4 Try.underlying22 info_f32e rfl .i64 .i64 n (by omega) (by omega) W
  have hR := (Row.new w #[.slice none 0 0, .int .i64 0] 34 _ rfl).alloc (.cells (madeCells #[.float .f32 0] n) 25)
  have hb0 := Go.Joins.below_alloc2 w (.cells #[.slice none 0 0, .int .i64 0] 34) (.cells (madeCells #[.float .f32 0] n) 25)
  have hZ : Blk ((w.alloc (.cells #[.slice none 0 0, .int .i64 0] 34)).alloc (.cells (madeCells #[.float .f32 0] n) 25)) (w.heap.size + 1) (List.replicate n 0) 25 := Blk.newRow _ _ _ _ _ (by simp) (made_fl n)
  go_enter Try.func60, Try.ntmps60
  go_wp2_with (first
    | (go_at_call 69; refine (c_within _ _ _ _ _ h).mono ?_; rintro e w1 ⟨rfl, rfl⟩)
    | (refine wpList_store_cells rfl 34 _ _ rfl _ rfl rfl hR info_ring rfl rfl ?_))
  exact bodyPost_ret (results_cells_tmp rfl _ _ _ rfl rfl (hR.row _) Try.underlying34 rfl info_ring) rfl ⟨_, rfl, hZ.rowOther (by omega) _, by omega, below_setRow hb0 (Nat.le_refl _) _⟩
end Go.Proofs.Ytpchebclhjgcmaa
