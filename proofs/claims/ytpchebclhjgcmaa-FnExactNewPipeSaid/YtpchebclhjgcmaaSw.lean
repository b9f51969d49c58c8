/- The laws' marks: numbers written into a slice and found again. No condition. -/
import Derived.Test.YtpchebclhjgcmaaSp
namespace Go.Proofs.Ytpchebclhjgcmaa
open Go.RowKit Go.Fl
/-- The cells that 'mark' writes from k on. -/
def markL (n : Nat) (m : Int) : List Nat := (List.range n).map fun (i : Nat) => floatOfInt .f32 (m + (i : Int))
theorem markL_length (n : Nat) (m : Int) : (markL n m).length = n := by simp [markL]
theorem markL_nth (n : Nat) (m : Int) (k : Nat) (h : k < n) : nth (markL n m) k = floatOfInt .f32 (m + (k : Int)) := by
  simp [nth, markL, List.getD_eq_getElem?_getD, h]
set_option maxHeartbeats 1000000 in
theorem c_markFloat32S (g c : Nat) (xs : List Nat) (m : Int) (w : World) (hg : Blk w g xs 25) (hl : (xs.length : Int) ≤ 4294967296) (h0 : 0 ≤ m) (h1 : m ≤ 4294967296) :
    Calls Try.prog 34 #[.slice (some ⟨g, 0, none⟩) xs.length c, .int .i64 m] w fun e w' => e = .returned (.int .i64 (m + xs.length)) ∧ Blk w' g (markL xs.length m) 25 ∧ Below g w w' ∧ (∀ b, b ≠ g → w'.heap[b]? = w.heap[b]?) := by
  generalize hn : xs.length = n at *
  have HN := Lib.hid hn; clear hn
  go_enter Try.func34, Try.ntmps34
  go_wp2
  go_loopw [1, 5] (fun s i wr => ∃ j : Nat, j ≤ n ∧ s = .int .i64 (m + j) ∧ i = .int .i64 j ∧ Blk wr g (mix (markL n m) xs j) 25 ∧ Below g w wr ∧ Hid (∀ b, b ≠ g → wr.heap[b]? = w.heap[b]?)) (fun _ i _ => n - (intOf i).toNat)
  case atStart => exact ⟨0, by omega, by simp, rfl, by rw [mix_zero]; exact hg, Below.refl _ _, fun b hb => rfl⟩
  case round =>
    clear hg
    obtain ⟨j, hj, rfl, rfl, h3, hb, HO⟩ := hrel
    by_cases hlt : j < n
    · have c3 := h3.cell j (by rw [mix_length _ _ _ (by rw [markL_length, HN.out]), HN.out]; exact hlt)
      have f3 := h3.free j
      have hi : (0 : Int) ≤ j := by omega
      have hi2 : (j : Int) < n := by omega
      go_wp2
      go_roundw
      case rel =>
        refine ⟨j + 1, by omega, by go_num, by go_num, ?_, below_setCell hb (Nat.le_refl _) _, fun b hb' => by rw [Below.heap_setCell _ _ _ _ hb']; exact HO.out b hb'⟩
        rw [← mix_set _ _ _ (by rw [markL_length, HN.out]) (by rw [HN.out]; exact hlt), markL_nth _ _ _ hlt]
        exact h3.set _ _
      case measure => simp [intOf]; omega
    · have e : j = n := by omega
      subst e
      have h4 : Blk wr g (markL j m) 25 := by
        have := mix_full (markL j m) xs (by rw [markL_length, HN.out])
        rw [HN.out] at this
        rw [this] at h3; exact h3
      clear h3
      go_wp2
      go_ret
      exact ⟨rfl, h4, hb, HO.out⟩
theorem int_self (n : Int) : ordC .f32 (cv .f32 (floatOfInt .f32 n)) (cv .f32 (floatOfInt .f32 n)) = some .eq := by
  have h : nanB .f32 (floatOfInt .f32 n) = false := by
    first
      | exact nearest_notNaN _ _ _ _
      | (unfold floatOfInt; exact nearest_notNaN _ _ _ _)
      | (unfold floatOfInt; exact write_notNaN _ rfl)
  rw [cv_of h]
  exact ordC_self .f32 _ h
set_option maxHeartbeats 1000000 in
theorem c_heldFloat32S (g c n : Nat) (m : Int) (w : World) (hg : Blk w g (markL n m) 25) (hl : (n : Int) ≤ 4294967296) (h0 : 0 ≤ m) (h1 : m ≤ 4294967296) :
    Calls Try.prog 77 #[.slice (some ⟨g, 0, none⟩) n c, .int .i64 m] w fun e w' => e = .returned (.int .i64 (m + n)) ∧ Below w.heap.size w w' := by
  go_enter Try.func77, Try.ntmps77
  go_wp2
  go_loopw [1, 5] (fun s i wr => ∃ j : Nat, j ≤ n ∧ s = .int .i64 (m + j) ∧ i = .int .i64 j ∧ Blk wr g (markL n m) 25 ∧ Below w.heap.size w wr) (fun _ i _ => n - (intOf i).toNat)
  case atStart => exact ⟨0, by omega, by simp, rfl, hg, Below.refl _ _⟩
  case round =>
    clear hg
    obtain ⟨j, hj, rfl, rfl, h3, hb⟩ := hrel
    by_cases hlt : j < n
    · have c3 := h3.cell j (by rw [markL_length]; exact hlt)
      rw [markL_nth _ _ _ hlt] at c3
      have hself := int_self (m + (j : Int))
      have hi : (0 : Int) ≤ j := by omega
      have hi2 : (j : Int) < n := by omega
      go_wp2
      go_roundw
      case rel => exact ⟨j + 1, by omega, by go_num, by go_num, h3, hb⟩
      case measure => simp [intOf]; omega
    · have e : j = n := by omega
      subst e
      go_wp2
      go_ret
      exact ⟨rfl, hb⟩
theorem c_markFloat32S_nil (A : Option Addr) (c : Nat) (m : Int) (w : World) : Calls Try.prog 34 #[.slice A 0 c, .int .i64 m] w fun e w' => e = .returned (.int .i64 m) ∧ w' = w := by
  go_enter Try.func34, Try.ntmps34
  go_wp2
  go_loopw [1, 5] (fun s i wr => s = .int .i64 m ∧ i = .int .i64 0 ∧ wr = w) (fun _ _ _ => 0)
  case atStart => exact ⟨rfl, rfl, rfl⟩
  case round =>
    obtain ⟨rfl, rfl, rfl⟩ := hrel
    go_wp2
    go_ret
    exact ⟨rfl, rfl⟩
theorem c_heldFloat32S_nil (A : Option Addr) (c : Nat) (m : Int) (w : World) : Calls Try.prog 77 #[.slice A 0 c, .int .i64 m] w fun e w' => e = .returned (.int .i64 m) ∧ w' = w := by
  go_enter Try.func77, Try.ntmps77
  go_wp2
  go_loopw [1, 5] (fun s i wr => s = .int .i64 m ∧ i = .int .i64 0 ∧ wr = w) (fun _ _ _ => 0)
  case atStart => exact ⟨rfl, rfl, rfl⟩
  case round =>
    obtain ⟨rfl, rfl, rfl⟩ := hrel
    go_wp2
    go_ret
    exact ⟨rfl, rfl⟩
end Go.Proofs.Ytpchebclhjgcmaa
