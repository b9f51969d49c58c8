/- Blocks marked. No condition. -/
import Derived.Test.YtboffmlhoddopaaKd
namespace Go.Proofs.Ytboffmlhoddopaa
open Go.RowKit Go.Fl
set_option maxRecDepth 20000 in
set_option maxHeartbeats 1000000 in
theorem c_markBlockS (g c n : Nat) (xs : List Nat) (w : World) (hx : Blk w g xs 92) (hl : xs.length = 16 * n) (hn : (n : Int) ≤ 1048576) :
    Calls Try.prog 47 #[.slice (some ⟨g, 0, none⟩) n c, .int .i64 1] w fun e w' => e = .returned (.int .i64 (1 + 16 * (n : Int))) ∧ w.grownBy w' (some g) := by
  go_enter Try.func47, Try.ntmps47
  go_wp2_with fail
  go_loopw [1, 5] (fun v i wr => ∃ (p : Nat) (ys : List Nat), p ≤ n ∧ i = .int .i64 p ∧ v = .int .i64 (1 + 16 * (p : Int)) ∧ Blk wr g ys 92 ∧ ys.length = 16 * n ∧ w.grownBy wr (some g)) (fun _ i _ => n - (intOf i).toNat)
  case atStart => exact ⟨0, xs, by omega, rfl, rfl, hx, hl, grownBy_refl _ _⟩
  case round =>
    clear hx hl
    obtain ⟨p, ys, hk, rfl, rfl, hy, hl, hg⟩ := hrel
    by_cases hlt : p < n
    · have hi : (0 : Int) ≤ p := by omega
      have hi2 : (p : Int) < n := by omega
      go_wp2_with fail
      go_loopw [1, 6] (fun v i wr => ∃ (q : Nat) (ys : List Nat), q ≤ 16 ∧ i = .int .i64 q ∧ v = .int .i64 (1 + 16 * (p : Int) + (q : Int)) ∧ Blk wr g ys 92 ∧ ys.length = 16 * n ∧ w.grownBy wr (some g)) (fun _ i _ => 16 - (intOf i).toNat)
      case atStart => exact ⟨0, ys, by omega, rfl, by simp, hy, hl, hg⟩
      case round =>
        clear hy hl hg
        obtain ⟨q, zs, hq, rfl, rfl, hz, hlz, hg⟩ := hrel
        by_cases hlq : q < 16
        · have hj : (0 : Int) ≤ q := by omega
          have hj2 : (q : Int) < 16 := by omega
          have c0 := hz.cell (p * 16 + q) (by rw [hlz]; omega)
          have f0 := hz.free (p * 16 + q)
          have HZ := Lib.hid hz; have HG := Lib.hid hg; clear hz hg
          go_wp2_with fail
          go_roundw
          case rel => exact ⟨q + 1, _, by omega, by go_num, by go_num, HZ.out.set _ _, by rw [List.length_set]; exact hlz, grownBy_setCell HG.out _ _⟩
          case measure => simp [intOf]; omega
        · have e : q = 16 := by omega
          subst e
          have HZ := Lib.hid hz; have HG := Lib.hid hg; clear hz hg
          go_wp2_with fail
          go_roundw
          case rel => exact ⟨p + 1, _, by omega, by go_num, by go_num, HZ.out, hlz, HG.out⟩
          case measure => simp [intOf]; omega
    · have e : p = n := by omega
      subst e
      go_wp2_with fail
      go_ret
      exact ⟨rfl, hg⟩
end Go.Proofs.Ytboffmlhoddopaa
