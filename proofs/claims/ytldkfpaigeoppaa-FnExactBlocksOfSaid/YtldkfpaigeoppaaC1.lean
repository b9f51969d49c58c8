/- Contracts of the law's own helpers: sameFloat, toBlock. No condition. -/
import Derived.Test.YtldkfpaigeoppaaRows
import Derived.Test.YtldkfpaigeoppaaSq
import Derived.Lib.Hide
namespace Go.Proofs.Ytldkfpaigeoppaa
open Go.RowKit Go.Fl

/-- Two floats of one value are told the same. -/
theorem c_sameFloat (a b : Nat) (w : World) (h : cv .f64 a = cv .f64 b) :
    Calls Try.prog 31 #[.float .f64 a, .float .f64 b] w fun e w' => e = .returned (.bool true) ∧ ∃ n, w' = w.drewN n := by
  by_cases hs : ordC .f64 (cv .f64 b) (cv .f64 b) = some .eq
  · go_enter Try.func31, Try.ntmps31
    go_wp2
    all_goals (go_ret; first | exact ⟨rfl, 0, rfl⟩ | exact ⟨rfl, _, rfl⟩)
  · have hb := ordC_self_cv _ _ hs
    have ha : cv .f64 a = none := h.trans hb
    go_enter Try.func31, Try.ntmps31
    go_wp2
    all_goals (go_ret; first | exact ⟨rfl, 0, rfl⟩ | exact ⟨rfl, _, rfl⟩)

/-- The same of two float32, each made a float64. -/
theorem c_same32 (a b : Nat) (w1 w2 w : World) (h : cv .f32 a = cv .f32 b) :
    Calls Try.prog 31 #[.float .f64 (conv .f32 .f64 a w1), .float .f64 (conv .f32 .f64 b w2)] w fun e w' => e = .returned (.bool true) ∧ ∃ n, w' = w.drewN n :=
  c_sameFloat _ _ _ (by rw [cv_wid, cv_wid, h])

theorem info_a16 : (Try.prog.info? 40).map (·.size) = some 16 := by kernel_rfl
theorem info_blk : (Try.prog.info? 41).map (·.size) = some 16 := by kernel_rfl
theorem c_toBlock (xs : List Nat) (w : World) (hx : xs.length = 16) :
    Calls Try.prog 26 #[.agg (fl xs)] w fun e w' => e = .returned (.agg (fl xs)) ∧ Below w.heap.size w w' := by
  have HX := Lib.hid hx; clear hx
  go_enter Try.func26, Try.ntmps26
  go_wp2
  go_loopw [4] (fun i wr => ∃ k : Nat, k ≤ 16 ∧ i = .int .i64 k ∧ Below w.heap.size w wr ∧ Blk wr w.heap.size xs 40 ∧ Blk wr (w.heap.size + 1) (List.replicate 16 0) 41 ∧ Blk wr (w.heap.size + 1 + 1) (mix xs (List.replicate 16 0) k) 41) (fun i _ => 16 - (intOf i).toNat)
  case atStart =>
    refine ⟨0, by omega, rfl, ?_, ?_, ?_, ?_⟩
    · exact Go.Joins.below_alloc3 _ _ _ _
    · exact ((Blk.new _ _ _ _ rfl).alloc _).alloc _
    · refine (Blk.newRow _ _ _ _ _ ?_ ?_).alloc _
      · simp
      · rfl
    · rw [mix_zero]; refine Blk.newRow _ _ _ _ _ ?_ ?_
      · simp
      · rfl
  case round =>
    obtain ⟨k, hk, rfl, hb, h1, h2, h3⟩ := hrel
    have hsz := hb.size
    by_cases hlt : k < 16
    · have c1 := h1.cell k (by rw [HX.out]; exact hlt)
      have c3 := h3.cell k (by rw [mix_length _ _ _ (by rw [HX.out]; rfl)]; simpa using hlt)
      have f3 := h3.free k
      go_wp2
      go_roundw
      case rel =>
        refine ⟨k + 1, by omega, by go_num, below_setCell hb (by omega) _, h1.other (by omega) _, h2.other (by omega) _, ?_⟩
        rw [← mix_set _ _ _ (by rw [HX.out]; rfl) (by simpa using hlt)]
        exact h3.set _ _
      case measure => simp [intOf]; omega
    · have hk16 : k = 16 := by omega
      subst hk16
      have h3' : Blk wr (w.heap.size + 1 + 1) xs 41 := by
        have := mix_full xs (List.replicate 16 0) (by rw [HX.out]; rfl)
        rw [List.length_replicate] at this
        rw [this] at h3; exact h3
      clear h3
      go_wp2_with (first | (refine wpList_load_blk rfl 41 _ rfl _ rfl h3' Try.underlying41 info_blk HX.out ?_) | (refine wpList_store_blk rfl 41 _ _ rfl _ rfl rfl h2 info_blk HX.out rfl ?_))
      exact bodyPost_ret (results_blk rfl _ _ _ rfl (h2.row xs) Try.underlying41 info_blk HX.out) rfl ⟨rfl, below_setRow hb (by omega) _⟩
end Go.Proofs.Ytldkfpaigeoppaa
