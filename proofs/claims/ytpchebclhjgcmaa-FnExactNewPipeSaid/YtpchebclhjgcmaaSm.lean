/- The law's own helpers over slices of float32. No condition. -/
import Derived.Test.YtpchebclhjgcmaaC1
import Derived.Test.YtpchebclhjgcmaaSl
namespace Go.Proofs.Ytpchebclhjgcmaa
open Go.RowKit Go.Fl
theorem info_f32e : (Try.prog.info? 25).map (fun i => (i.zero, i.size, i.bytes)) = some (some (.float .f32 0), 1, 4) := by kernel_rfl
theorem c_toFloat32S (A : Option Addr) (c : Nat) (xs : List Nat) (w : World) (hs : Sl w A xs) (hl : xs.length ≤ 4294967296) :
    Calls Try.prog 28 #[.slice A xs.length c] w fun e w' => ∃ g, e = .returned (.slice (some ⟨g, 0, none⟩) xs.length xs.length) ∧ Blk w' g xs 25 ∧ w.heap.size ≤ g ∧ Below w.heap.size w w' := by
  have hmk := fun W => run_make_row' (P := Try.prog) 22 25 (.float .f32 0) 4 Try.underlying22 info_f32e rfl .i64 .i64 xs.length (by omega) (by omega) W
  have HS := Lib.hid hs; clear hs
  have HL := Lib.hid hl; clear hl
  generalize hn : xs.length = n at *
  have HN := Lib.hid hn; clear hn
  go_enter Try.func28, Try.ntmps28
  go_wp2
  go_loopw [4] (fun i wr => ∃ k : Nat, k ≤ n ∧ i = .int .i64 k ∧ Below w.heap.size w wr ∧ Blk wr w.heap.size (mix xs (List.replicate n 0) k) 25) (fun i _ => n - (intOf i).toNat)
  case atStart => exact ⟨0, by omega, rfl, Go.Joins.below_alloc1 _ _, by rw [mix_zero]; exact Blk.newRow _ _ _ _ _ rfl (made_fl n)⟩
  case round =>
    clear hmk
    obtain ⟨k, hk, rfl, hb, h3⟩ := hrel
    have hsz := hb.size
    by_cases hlt : k < n
    · obtain ⟨ad, rfl, hbl, c1⟩ := (HS.out.below hb).at_ (k := k) (by rw [HN.out]; exact hlt)
      have c3 := h3.cell k (by rw [mix_length _ _ _ (by rw [HN.out, List.length_replicate]), List.length_replicate]; exact hlt)
      have f3 := h3.free k
      have hi : (0 : Int) ≤ k := by omega
      have hi2 : (k : Int) < n := by omega
      have hi3 : (n : Int) ≤ 4294967296 := by have := HL.out; omega
      go_wp2
      go_roundw
      case rel =>
        refine ⟨k + 1, by omega, by go_num, below_setCell hb (Nat.le_refl _) _, ?_⟩
        rw [← mix_set _ _ _ (by rw [HN.out, List.length_replicate]) (by rw [List.length_replicate]; exact hlt)]
        exact h3.set _ _
      case measure => simp [intOf]; omega
    · have e : k = n := by omega
      subst e
      have h4 : Blk wr w.heap.size xs 25 := by
        have := mix_full xs (List.replicate k 0) (by rw [HN.out, List.length_replicate])
        rw [List.length_replicate] at this
        rw [this] at h3; exact h3
      clear h3
      go_wp2
      go_ret
      exact ⟨_, rfl, h4, Nat.le_refl _, hb⟩
set_option maxHeartbeats 4000000 in
theorem c_eqFloat32S (A B : Option Addr) (c d : Nat) (xs ys : List Nat) (w : World) (hs : Sl w A xs) (ht : Sl w B ys) (hl : xs.length = ys.length) (hl2 : xs.length ≤ 4294967296) (h : ∀ j, j < xs.length → cv .f32 (nth xs j) = cv .f32 (nth ys j)) :
    Calls Try.prog 32 #[.slice A xs.length c, .slice B ys.length d] w fun e w' => e = .returned (.bool true) ∧ Below w.heap.size w w' := by
  rw [← hl]
  have HY := Lib.hid hl; clear hl
  have HL := Lib.hid hl2; clear hl2
  have HS := Lib.hid hs; have HT := Lib.hid ht; have H := Lib.hid h; clear hs ht h
  generalize hn : xs.length = n at *
  have HN := Lib.hid hn; clear hn
  go_enter Try.func32, Try.ntmps32
  go_wp2
  go_loopw [5] (fun i wr => ∃ k : Nat, k ≤ n ∧ i = .int .i64 k ∧ Below w.heap.size w wr) (fun i _ => n - (intOf i).toNat)
  case atStart => exact ⟨0, by omega, rfl, Below.refl _ _⟩
  case round =>
    obtain ⟨k, hk, rfl, hb⟩ := hrel
    by_cases hlt : k < n
    · obtain ⟨ad, rfl, hbl, c1⟩ := (HS.out.below hb).at_ (k := k) (by rw [HN.out]; exact hlt)
      obtain ⟨bd, rfl, hbl2, c2⟩ := (HT.out.below hb).at_ (k := k) (by rw [← HY.out]; exact hlt)
      have hi : (0 : Int) ≤ k := by omega
      have hi2 : (k : Int) < n := by omega
      have hi3 : (n : Int) ≤ 4294967296 := by have := HL.out; omega
      have HK := Lib.hid (H.out k hlt)
      go_wp2
      go_region_with (go_at_call 23; refine (c_same32 _ _ _ _ _ HK.out).mono ?_; rintro e w' ⟨rfl, n, rfl⟩)
      all_goals go_wp2
      all_goals go_roundw
      all_goals first
        | exact ⟨k + 1, by omega, by go_num, below_drewN hb _⟩
        | (simp [intOf]; omega)
    · have e : k = n := by omega
      subst e
      go_wp2
      go_ret
      exact ⟨rfl, hb⟩
end Go.Proofs.Ytpchebclhjgcmaa
