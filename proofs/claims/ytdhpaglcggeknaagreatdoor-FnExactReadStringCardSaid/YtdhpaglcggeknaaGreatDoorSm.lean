/- The law's own helpers over slices of float32. No condition. -/
import Derived.Test.YtdhpaglcggeknaaGreatDoorC1
import Derived.Test.YtdhpaglcggeknaaGreatDoorSl
namespace Go.Proofs.YtdhpaglcggeknaaGreatDoor
open Go.RowKit Go.Fl
set_option maxHeartbeats 4000000 in
theorem c_eqFloat32S (A B : Option Addr) (c d : Nat) (xs ys : List Nat) (w : World) (hs : Sl w A xs) (ht : Sl w B ys) (hl : xs.length = ys.length) (hl2 : xs.length ≤ 4294967296) (h : ∀ j, j < xs.length → cv .f32 (nth xs j) = cv .f32 (nth ys j)) :
    Calls Tryz.prog 40 #[.slice A xs.length c, .slice B ys.length d] w fun e w' => e = .returned (.bool true) ∧ Below w.heap.size w w' := by
  rw [← hl]
  have HY := Lib.hid hl; clear hl
  have HL := Lib.hid hl2; clear hl2
  have HS := Lib.hid hs; have HT := Lib.hid ht; have H := Lib.hid h; clear hs ht h
  generalize hn : xs.length = n at *
  have HN := Lib.hid hn; clear hn
  go_enter Tryz.func40, Tryz.ntmps40
  go_wp2
  go_loopw [5] (fun i wr => ∃ k : Nat, k ≤ n ∧ i = .int .i64 k ∧ Below w.heap.size w wr) (fun i _ => n - (intOf i).toNat)
  case atStart => exact ⟨0, by omega, rfl, Below.refl _ _⟩
  case round =>
    obtain ⟨k, hk, rfl, hb⟩ := hrel
    by_cases hlt : k < n
    · obtain ⟨ad, rfl, hbl, c1⟩ := (HS.out.below hb).at_ (k := k) (by rw [HN.out]; exact hlt)
      obtain ⟨bd, rfl, hbl2, c2⟩ := (HT.out.below hb).at_ (k := k) (by rw [← HY.out]; exact hlt)
      have hi : (0 : Int) ≤ k := by omega
      have hi2 : (k : Int) < n := by omega
      have hi3 : (n : Int) ≤ 4294967296 := by have := HL.out; omega
      have HK := Lib.hid (H.out k hlt)
      go_wp2
      go_region_with (go_at_call 23; refine (c_same32 _ _ _ _ _ HK.out).mono ?_; rintro e w' ⟨rfl, n, rfl⟩)
      all_goals go_wp2
      all_goals go_roundw
      all_goals first
        | exact ⟨k + 1, by omega, by go_num, below_drewN hb _⟩
        | (simp [intOf]; omega)
    · have e : k = n := by omega
      subst e
      go_wp2
      go_ret
      exact ⟨rfl, hb⟩
end Go.Proofs.YtdhpaglcggeknaaGreatDoor
