/- Blocks of one's own in a row: marked by the law and found again. No condition. -/
import Derived.Test.YtldkfpaigeoppaaKb
import Derived.Test.YtldkfpaigeoppaaOg
namespace Go.Proofs.Ytldkfpaigeoppaa
open Go.RowKit Go.Fl
/-- A slice of one's own of n blocks, as a flat list of samples. -/
def BO (w : World) (base : Nat) (A : Option Addr) (n : Nat) (xs : List Nat) : Prop := xs.length = 16 * n ∧ (n = 0 ∨ ∃ g r, A = some ⟨g, 0, none⟩ ∧ base ≤ g ∧ PreR w g xs r 41)
theorem BO.of {w : World} {base : Nat} {A : Option Addr} {c n : Nat} {xs : List Nat} (h : OwnR w base A c n (fll xs) 41 16) (hl : xs.length = 16 * n) : BO w base A n xs := by
  refine ⟨hl, ?_⟩
  by_cases h0 : n = 0
  · exact .inl h0
  · obtain ⟨g, rfl, hg, _⟩ := h.head (by omega)
    obtain ⟨r, hr⟩ := h.blk
    exact .inr ⟨g, r, rfl, hg, hr⟩
theorem BO.sl {w : World} {base : Nat} {A : Option Addr} {n : Nat} {xs : List Nat} (h : BO w base A n xs) : Sl w A xs := by
  rcases h.2 with h0 | ⟨g, r, rfl, _, hp⟩
  · subst h0
    exact .inl (List.eq_nil_of_length_eq_zero h.1)
  · refine .inr ⟨_, rfl, hp.lt, fun k hk => ?_⟩
    have e : (⟨g, 0, none⟩ : Addr).add k = ⟨g, k, none⟩ := by
      unfold Addr.add
      by_cases h0 : k = 0
      · subst h0; simp
      · simp [h0]
    rw [e]; exact hp.cell k hk
theorem BO.below {w w' : World} {base : Nat} {A : Option Addr} {n : Nat} {xs : List Nat} (h : BO w base A n xs) (hb : Below w.heap.size w w') : BO w' base A n xs := by
  refine ⟨h.1, ?_⟩
  rcases h.2 with h0 | ⟨g, r, h1, h2, hp⟩
  · exact .inl h0
  · refine .inr ⟨g, r, h1, h2, ?_⟩
    unfold PreR
    rw [hb.block g hp.lt]; exact hp
set_option maxRecDepth 20000 in
set_option maxHeartbeats 1000000 in
theorem c_markBlockS_own (A : Option Addr) (base c n : Nat) (xs : List Nat) (w : World) (h : BO w base A n xs) (hn : (n : Int) ≤ 1048576) :
    Calls Try.prog 15 #[.slice A n c, .int .i64 1] w fun e w' => e = .returned (.int .i64 (1 + 16 * (n : Int))) ∧ BO w' base A n (markL (16 * n) 1) ∧ Below (min base w.heap.size) w w' := by
  obtain ⟨hl, h⟩ := h
  by_cases hz : n = 0
  · subst hz
    clear h hl
    go_enter Try.func15, Try.ntmps15
    go_wp2_with fail
    go_loopw [1, 5] (fun s i wr => s = .int .i64 1 ∧ i = .int .i64 0 ∧ wr = w) (fun _ _ _ => 0)
    case atStart => exact ⟨rfl, rfl, rfl⟩
    case round =>
      obtain ⟨rfl, rfl, rfl⟩ := hrel
      go_wp2_with fail
      go_ret
      exact ⟨by simp, ⟨by simp [markL], .inl rfl⟩, Below.refl _ _⟩
  rcases h with h | ⟨g, r, rfl, hg, hp⟩
  · omega
  have HG := Lib.hid hg; have HLN := Lib.hid hl; clear hg hl
  have hML : ((markL (16 * n) 1).length = xs.length) := by rw [markL_length, HLN.out]
  have HML := Lib.hid hML; clear hML
  go_enter Try.func15, Try.ntmps15
  go_wp2_with fail
  go_loopw [1, 5] (fun v i wr => ∃ (p : Nat), p ≤ n ∧ i = .int .i64 p ∧ v = .int .i64 (1 + 16 * (p : Int)) ∧ PreR wr g (mix (markL (16 * n) 1) xs (16 * p)) r 41 ∧ Hid (w.grownBy wr (some g))) (fun _ i _ => n - (intOf i).toNat)
  case atStart => exact ⟨0, by omega, rfl, rfl, by rw [mix_zero]; exact hp, grownBy_refl _ _⟩
  case round =>
    clear hp
    obtain ⟨p, hk, rfl, rfl, hy, HB⟩ := hrel
    by_cases hlt : p < n
    · have hi : (0 : Int) ≤ p := by omega
      have hi2 : (p : Int) < n := by omega
      go_wp2_with fail
      go_loopw [1, 6] (fun v i wr => ∃ (q : Nat), q ≤ 16 ∧ i = .int .i64 q ∧ v = .int .i64 (1 + 16 * (p : Int) + (q : Int)) ∧ PreR wr g (mix (markL (16 * n) 1) xs (16 * p + q)) r 41 ∧ Hid (w.grownBy wr (some g))) (fun _ i _ => 16 - (intOf i).toNat)
      case atStart => exact ⟨0, by omega, rfl, by simp, hy, HB⟩
      case round =>
        clear hy HB
        obtain ⟨q, hq, rfl, rfl, hz, HB⟩ := hrel
        by_cases hlq : q < 16
        · have hj : (0 : Int) ≤ q := by omega
          have hj2 : (q : Int) < 16 := by omega
          have e16 : p * 16 + q = 16 * p + q := by omega
          have c0 := hz.cell (p * 16 + q) (by rw [mix_length _ _ _ HML.out, HLN.out]; omega)
          have f0 := hz.free (p * 16 + q)
          have HZ : Hid (PreR (wr.setCell ⟨g, p * 16 + q, none⟩ (.float .f32 (floatOfInt .f32 (1 + 16 * (p : Int) + (q : Int))))) g (mix (markL (16 * n) 1) xs (16 * p + (q + 1))) r 41) := by
            have h1 := hz.set (p * 16 + q) (nth (markL (16 * n) 1) (p * 16 + q)) (by rw [mix_length _ _ _ HML.out, HLN.out]; omega)
            rw [e16, mix_set _ _ _ HML.out (by rw [HLN.out]; omega), markL_nth _ _ _ (by omega)] at h1
            have e2 : (1 : Int) + ((16 * p + q : Nat) : Int) = 1 + 16 * (p : Int) + (q : Int) := by omega
            rw [e2] at h1
            rw [e16]; exact h1
          clear hz e16
          go_wp2_with fail
          go_roundw
          case rel => exact ⟨q + 1, by omega, by go_num, by go_num, HZ.out, grownBy_setCell HB.out _ _⟩
          case measure => simp [intOf]; omega
        · have e : q = 16 := by omega
          subst e
          have HZ := Lib.hid hz; clear hz
          go_wp2_with fail
          go_roundw
          case rel => exact ⟨p + 1, by omega, by go_num, by go_num, HZ.out, HB⟩
          case measure => simp [intOf]; omega
    · have e : p = n := by omega
      subst e
      have h4 : Hid (PreR wr g (markL (16 * p) 1) r 41) := Lib.hid (by
        have := mix_full (markL (16 * p) 1) xs HML.out
        rw [HLN.out] at this
        rwa [this] at hy)
      clear hy
      go_wp2_with fail
      go_ret
      exact ⟨rfl, ⟨markL_length _ _, .inr ⟨g, r, rfl, HG.out, h4.out⟩⟩, below_grownBy HB.out (Nat.min_le_right _ _) (fun k hk => by cases hk; exact Nat.le_trans (Nat.min_le_left _ _) HG.out)⟩
set_option maxRecDepth 20000 in
set_option maxHeartbeats 1000000 in
theorem c_heldBlockS (A : Option Addr) (base c n : Nat) (w : World) (h : BO w base A n (markL (16 * n) 1)) (hn : (n : Int) ≤ 1048576) :
    Calls Try.prog 16 #[.slice A n c, .int .i64 1] w fun e w' => e = .returned (.int .i64 (1 + 16 * (n : Int))) ∧ Below w.heap.size w w' := by
  obtain ⟨_, h⟩ := h
  by_cases hz : n = 0
  · subst hz
    clear h
    go_enter Try.func16, Try.ntmps16
    go_wp2_with fail
    go_loopw [1, 5] (fun s i wr => s = .int .i64 1 ∧ i = .int .i64 0 ∧ wr = w) (fun _ _ _ => 0)
    case atStart => exact ⟨rfl, rfl, rfl⟩
    case round =>
      obtain ⟨rfl, rfl, rfl⟩ := hrel
      go_wp2_with fail
      go_ret
      exact ⟨by simp, Below.refl _ _⟩
  rcases h with h | ⟨g, r, rfl, hg, hp⟩
  · omega
  clear hg
  have HP := Lib.hid hp; clear hp
  go_enter Try.func16, Try.ntmps16
  go_wp2_with fail
  go_loopw [1, 5] (fun v i wr => ∃ (p : Nat), p ≤ n ∧ i = .int .i64 p ∧ v = .int .i64 (1 + 16 * (p : Int)) ∧ Hid (PreR wr g (markL (16 * n) 1) r 41) ∧ Below w.heap.size w wr) (fun _ i _ => n - (intOf i).toNat)
  case atStart => exact ⟨0, by omega, rfl, rfl, HP, Below.refl _ _⟩
  case round =>
    clear HP
    obtain ⟨p, hk, rfl, rfl, hy, hb⟩ := hrel
    by_cases hlt : p < n
    · have hi : (0 : Int) ≤ p := by omega
      have hi2 : (p : Int) < n := by omega
      go_wp2_with fail
      go_loopw [1, 6] (fun v i wr => ∃ (q : Nat), q ≤ 16 ∧ i = .int .i64 q ∧ v = .int .i64 (1 + 16 * (p : Int) + (q : Int)) ∧ Hid (PreR wr g (markL (16 * n) 1) r 41) ∧ Below w.heap.size w wr) (fun _ i _ => 16 - (intOf i).toNat)
      case atStart => exact ⟨0, by omega, rfl, by simp, hy, hb⟩
      case round =>
        clear hy hb
        obtain ⟨q, hq, rfl, rfl, hz, hb⟩ := hrel
        by_cases hlq : q < 16
        · have hj : (0 : Int) ≤ q := by omega
          have hj2 : (q : Int) < 16 := by omega
          have c0 := hz.out.cell (p * 16 + q) (by rw [markL_length]; omega)
          rw [markL_nth _ _ _ (by omega)] at c0
          have e2 : (1 : Int) + ((p * 16 + q : Nat) : Int) = 1 + 16 * (p : Int) + (q : Int) := by omega
          rw [e2] at c0
          have hself := int_self (1 + 16 * (p : Int) + (q : Int))
          go_wp2_with fail
          go_roundw
          case rel => exact ⟨q + 1, by omega, by go_num, by go_num, hz, hb⟩
          case measure => simp [intOf]; omega
        · have e : q = 16 := by omega
          subst e
          go_wp2_with fail
          go_roundw
          case rel => exact ⟨p + 1, by omega, by go_num, by go_num, hz, hb⟩
          case measure => simp [intOf]; omega
    · have e : p = n := by omega
      subst e
      go_wp2_with fail
      go_ret
      exact ⟨rfl, hb⟩
end Go.Proofs.Ytldkfpaigeoppaa
