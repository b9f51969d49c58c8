/- Contracts: silence, sums of products, absolute values. No condition. -/
import Derived.Test.YtldkfpaigeoppaaC2
namespace Go.Proofs.Ytldkfpaigeoppaa
open Go.RowKit Go.Fl
theorem info_f32 : (Try.prog.info? 39).map (·.size) = some 1 := by kernel_rfl

theorem ret_bool {a b : Bool} (h : a = b) : Ending.returned (.bool a) = .returned (.bool b) := by rw [h]

def silB (xs : List Nat) : Bool := eqAll 16 xs (List.replicate 16 0)
theorem nth_rep (n i : Nat) : nth (List.replicate n 0) i = 0 := by
  simp only [nth, List.getD_eq_getElem?_getD, List.getElem?_replicate]
  split <;> rfl
theorem eqg_blk : Try.prog.eqGuardType Try.prog.depth 41 = false := by kernel_rfl
theorem c_sIsSilent (xs : List Nat) (w : World) (hx : xs.length = 16) : Calls Try.prog 28 #[.agg (fl xs)] w fun e w' => e = .returned (.bool (silB xs)) ∧ Below w.heap.size w w' := by
  have HX := Lib.hid hx; clear hx
  have hb : Blk (w.alloc (.cells (fl xs) 41)) w.heap.size xs 41 := Blk.new _ _ _ _ rfl
  go_enter Try.func28, Try.ntmps28
  go_wp2_with (first | (refine wpList_load_blk rfl 41 _ rfl _ rfl hb Try.underlying41 info_blk HX.out ?_) | (refine wpList_eql_farr (ys := List.replicate 16 0) rfl 41 _ _ _ rfl rfl rfl Try.underlying41 Try.underlying39 info_f32 eqg_blk HX.out rfl ?_))
  go_ret
  exact ⟨rfl, Go.Joins.below_alloc1 _ _⟩
theorem silB_false (xs : List Nat) (k : Nat) (hk : k < 16) (h : (ordC .f32 (cv .f32 (nth xs k)) (cv .f32 0) != some .eq) = true) : silB xs = false := by
  unfold silB eqAll
  rw [List.all_eq_false]
  refine ⟨k, by simpa using hk, ?_⟩
  rw [nth_rep]; simpa using h
theorem silB_true (xs : List Nat) (h : ∀ j, j < 16 → ordC .f32 (cv .f32 (nth xs j)) (cv .f32 0) = some .eq) : silB xs = true := by
  unfold silB eqAll
  rw [List.all_eq_true]
  intro k hk
  rw [nth_rep, h k (by simpa using hk)]; rfl
theorem c_iIsSilent (xs : List Nat) (w : World) (hx : xs.length = 16) : Calls Try.prog 29 #[.agg (fl xs)] w fun e w' => e = .returned (.bool (silB xs)) ∧ Below w.heap.size w w' := by
  have HX := Lib.hid hx; clear hx
  have hb : Blk (w.alloc (.cells (fl xs) 41)) w.heap.size xs 41 := Blk.new _ _ _ _ rfl
  go_enter Try.func29, Try.ntmps29
  go_wp2_with (refine wpList_load_blk rfl 41 _ rfl _ rfl hb Try.underlying41 info_blk HX.out ?_)
  clear hb
  go_loop [6] (fun i => ∃ k : Nat, k ≤ 16 ∧ i = .int .i64 k ∧ Hid (∀ j, j < k → ordC .f32 (cv .f32 (nth xs j)) (cv .f32 0) = some .eq)) (fun i => 16 - (intOf i).toNat)
  case atStart => exact ⟨0, by omega, rfl, fun j hj => by omega⟩
  case round =>
    obtain ⟨k, hk, rfl, HL⟩ := hrel
    by_cases hlt : k < 16
    · have hi := fun W => run_index_fl (P := Try.prog) (w := W) 41 39 16 xs k Try.underlying41 Try.underlying39 info_f32 (by rw [HX.out]; exact hlt) hlt
      by_cases ht : ordC .f32 (cv .f32 (nth xs k)) (cv .f32 0) = some .eq
      · have ht' : (ordC .f32 (cv .f32 (nth xs k)) (cv .f32 0) != some .eq) = false := by rw [ht]; rfl
        have HT := Lib.hid ht; clear ht
        go_wp2
        go_round
        case rel => exact ⟨k + 1, by omega, by go_num, fun j hj => by
          by_cases e : j = k
          · subst e; exact HT.out
          · exact HL.out j (by omega)⟩
        case measure => simp [intOf]; omega
      · have ht' : (ordC .f32 (cv .f32 (nth xs k)) (cv .f32 0) != some .eq) = true := by simpa using ht
        have hs := silB_false xs k hlt ht'
        have HS := Lib.hid hs; clear hs ht
        go_wp2
        go_ret
        exact ⟨ret_bool HS.out.symm, Go.Joins.below_alloc1 _ _⟩
    · have e : k = 16 := by omega
      subst e
      have HS := Lib.hid (silB_true xs HL.out)
      clear HL
      go_wp2
      go_ret
      exact ⟨ret_bool HS.out.symm, Go.Joins.below_alloc1 _ _⟩

end Go.Proofs.Ytldkfpaigeoppaa
