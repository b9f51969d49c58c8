/- A table out of an array. No condition. -/
import Derived.Test.YtklnoiopogodiaaSf
import Derived.Test.YtklnoiopogodiaaSh
namespace Go.Proofs.Ytklnoiopogodiaa
open Go.RowKit Go.Fl
theorem info_a257 : (Try.prog.info? 27).map (·.size) = some 257 := by kernel_rfl
set_option maxRecDepth 20000 in
theorem c_toTable (xs : List Nat) (w : World) (hx : xs.length = 257) :
    Calls Try.prog 19 #[.agg (fl xs)] w fun e w' => e = .returned (.agg (fl xs)) ∧ Below w.heap.size w w' := by
  have h1 : Blk (((w.alloc (.cells (fl xs) 27)).alloc (.cells Try.zeroCells28 28)).alloc (.cells Try.zeroCells28 28)) w.heap.size xs 27 := ((Blk.new _ _ _ _ rfl).alloc _).alloc _
  have q1 : Blk (((w.alloc (.cells (fl xs) 27)).alloc (.cells Try.zeroCells28 28)).alloc (.cells Try.zeroCells28 28)) (w.heap.size + 1) (List.replicate 257 0) 28 := (Blk.newRow _ _ _ _ _ (by simp) tz).alloc _
  have q2 : Blk (((w.alloc (.cells (fl xs) 27)).alloc (.cells Try.zeroCells28 28)).alloc (.cells Try.zeroCells28 28)) (w.heap.size + 1 + 1) (mix xs (List.replicate 257 0) 0) 28 := by rw [mix_zero]; exact Blk.newRow _ _ _ _ _ (by simp) tz
  have q3 := Go.Joins.below_alloc3 w (.cells (fl xs) 27) (.cells Try.zeroCells28 28) (.cells Try.zeroCells28 28)
  have HX := Lib.hid hx; clear hx
  go_enter Try.func19, Try.ntmps19
  go_wp2_with fail
  generalize hW : (((w.alloc (.cells (fl xs) 27)).alloc (.cells Try.zeroCells28 28)).alloc (.cells Try.zeroCells28 28)) = W at *
  clear hW
  go_loopw [4] (fun i wr => ∃ k : Nat, k ≤ 257 ∧ i = .int .i64 k ∧ Below w.heap.size w wr ∧ Blk wr w.heap.size xs 27 ∧ Blk wr (w.heap.size + 1) (List.replicate 257 0) 28 ∧ Blk wr (w.heap.size + 1 + 1) (mix xs (List.replicate 257 0) k) 28) (fun i _ => 257 - (intOf i).toNat)
  case atStart => exact ⟨0, by omega, rfl, q3, h1, q1, q2⟩
  case round =>
    clear q1 q2 q3 h1
    obtain ⟨k, hk, rfl, hb, h1, h2, h3⟩ := hrel
    have hsz := hb.size
    have hl0 : (List.replicate 257 (0 : Nat)).length = 257 := List.length_replicate ..
    by_cases hlt : k < 257
    · have c1 := h1.cell k (by rw [HX.out]; exact hlt)
      have c3 := h3.cell k (by rw [mix_length _ _ _ (by rw [HX.out, hl0]), hl0]; exact hlt)
      have f3 := h3.free k
      have hi : (0 : Int) ≤ k := by omega
      have hi2 : (k : Int) < 257 := by omega
      have HL := Lib.hid hl0; clear hl0
      go_wp2
      go_roundw
      case rel =>
        refine ⟨k + 1, by omega, by go_num, below_setCell hb (by omega) _, h1.other (by omega) _, h2.other (by omega) _, ?_⟩
        rw [← mix_set _ _ _ (by rw [HX.out, HL.out]) (by rw [HL.out]; exact hlt)]
        exact h3.set _ _
      case measure => simp [intOf]; omega
    · have hk16 : k = 257 := by omega
      subst hk16
      have h3' : Blk wr (w.heap.size + 1 + 1) xs 28 := by
        have := mix_full xs (List.replicate 257 0) (by rw [HX.out, hl0])
        rw [hl0] at this
        rw [this] at h3; exact h3
      clear h3
      have HL := Lib.hid hl0; clear hl0
      go_wp2_with (first | (refine wpList_load_blk rfl 28 _ rfl _ rfl h3' Try.underlying28 info_tab HX.out ?_) | (refine wpList_store_blk rfl 28 _ _ rfl _ rfl rfl h2 info_tab HX.out HL.out ?_))
      exact bodyPost_ret (results_blk rfl _ _ _ rfl (h2.row xs) Try.underlying28 info_tab HX.out) rfl ⟨rfl, below_setRow hb (by omega) _⟩
end Go.Proofs.Ytklnoiopogodiaa
