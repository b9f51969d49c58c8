/- Rings: a sample some steps back. No condition. -/
import Derived.Test.YtpbkphjnhmiocaaSp
namespace Go.Proofs.Ytpbkphjnhmiocaa
open Go.RowKit Go.Fl
def backJ (n : Nat) (at0 k : Int) : Nat := ((at0 + n - k).tmod n).toNat
theorem back_facts (n : Nat) (at0 k : Int) (h1 : 1 ≤ (n : Int)) (h2 : 0 ≤ at0) (h3 : at0 ≤ (n : Int) - 1) (h5 : k ≤ (n : Int)) :
    (at0 + n - k).tmod n = (backJ n at0 k : Int) ∧ (at0 - k + n).tmod n = (backJ n at0 k : Int) ∧ backJ n at0 k < n := by
  have e : at0 - k + n = at0 + n - k := by omega
  have h0 : 0 ≤ (at0 + n - k).tmod n := Int.tmod_nonneg _ (by omega)
  have h6 : (at0 + n - k).tmod n < n := Int.tmod_lt_of_pos _ (by omega)
  rw [e]
  unfold backJ
  refine ⟨by omega, by omega, by omega⟩
set_option maxRecDepth 20000 in
theorem c_iBack (A : Option Addr) (c : Nat) (xs : List Nat) (at0 k : Int) (w : World) (hs : Sl w A xs) (hn : (xs.length : Int) ≤ 1024) (h1 : 1 ≤ (xs.length : Int)) (h2 : 0 ≤ at0) (h3 : at0 ≤ (xs.length : Int) - 1) (h4 : 1 ≤ k) (h5 : k ≤ (xs.length : Int)) :
    Calls Try.prog 35 #[.agg #[.slice A xs.length c, .int .i64 at0], .int .i64 k] w fun e w' => e = .returned (.float .f32 (nth xs (backJ xs.length at0 k))) ∧ Below w.heap.size w w' := by
  obtain ⟨_, hj, hlt⟩ := back_facts xs.length at0 k h1 h2 h3 h5
  have hb := Go.Joins.below_alloc1 w (.cells #[.slice A xs.length c, .int .i64 at0] 29)
  obtain ⟨ad, rfl, _, c1⟩ := (hs.below hb).at_ hlt
  clear hs
  generalize hJ : backJ xs.length at0 k = j at *
  clear hJ
  generalize xs.length = n at *
  have hz : ((n : Int) == 0) = false := by simp; omega
  have hj0 : (0 : Int) ≤ (j : Int) := by omega
  have hj1 : (j : Int) < (n : Int) := by omega
  go_enter Try.func35, Try.ntmps35
  go_wp2_with (go_at_call 34; refine (c_length _ _ _ _).mono ?_; rintro e w1 ⟨rfl, rfl⟩)
  go_region
  all_goals (go_wp2; go_ret; exact ⟨rfl, by first | exact hb.drew | exact below_drewN hb _⟩)
set_option maxRecDepth 20000 in
theorem c_sBack (A : Option Addr) (c g : Nat) (xs : List Nat) (at0 k : Int) (w : World) (hr : Row w g #[.slice A xs.length c, .int .i64 at0] 29) (hs : Sl w A xs) (hn : (xs.length : Int) ≤ 1024) (h1 : 1 ≤ (xs.length : Int)) (h2 : 0 ≤ at0) (h3 : at0 ≤ (xs.length : Int) - 1) (h4 : 1 ≤ k) (h5 : k ≤ (xs.length : Int)) :
    Calls Try.prog 22 #[.pointer (some ⟨g, 0, none⟩), .int .i64 k] w fun e w' => e = .returned (.float .f32 (nth xs (backJ xs.length at0 k))) ∧ Below w.heap.size w w' := by
  obtain ⟨hj, _, hlt⟩ := back_facts xs.length at0 k h1 h2 h3 h5
  obtain ⟨ad, rfl, _, c1⟩ := hs.at_ hlt
  have k0 := hr.cell 0 _ rfl; have k1 := hr.cell 1 _ rfl
  have hb := Below.refl w.heap.size w
  clear hs hr
  generalize hJ : backJ xs.length at0 k = j at *
  clear hJ
  generalize xs.length = n at *
  have hz : ((n : Int) == 0) = false := by simp; omega
  have hj0 : (0 : Int) ≤ (j : Int) := by omega
  have hj1 : (j : Int) < (n : Int) := by omega
  go_enter Try.func22, Try.ntmps22
  go_wp2
  go_region
  all_goals (go_wp2; go_ret; exact ⟨rfl, by first | exact hb.drew | exact below_drewN hb _⟩)
def rbQ (n : Nat) (at0 k : Int) : Int := if ringOk n at0 = true then (if inB k 1 n = true then 0 else 2) else 1
def rbV (xs : List Nat) (at0 k : Int) : Nat := if ringOk xs.length at0 = true then (if inB k 1 xs.length = true then nth xs (backJ xs.length at0 k) else 0) else 0
theorem inB_true {a b c : Int} (h : inB a b c = true) : b ≤ a ∧ a ≤ c := by simpa [inB] using h
theorem rb_no {xs : List Nat} {at0 k : Int} (h : ringOk xs.length at0 = false) : (0 = rbV xs at0 k) ∧ (1 = rbQ xs.length at0 k) := by unfold rbV rbQ; rw [h]; exact ⟨rfl, rfl⟩
theorem rb_far {xs : List Nat} {at0 k : Int} (h : ringOk xs.length at0 = true) (h2 : inB k 1 xs.length = false) : (0 = rbV xs at0 k) ∧ (2 = rbQ xs.length at0 k) := by unfold rbV rbQ; rw [h, h2]; exact ⟨rfl, rfl⟩
theorem rb_yes {xs : List Nat} {at0 k : Int} (h : ringOk xs.length at0 = true) (h2 : inB k 1 xs.length = true) : (nth xs (backJ xs.length at0 k) = rbV xs at0 k) ∧ (0 = rbQ xs.length at0 k) := by unfold rbV rbQ; rw [h, h2]; exact ⟨rfl, rfl⟩
theorem ret_rb {r r' : Nat} {q q' : Int} (h : r = r' ∧ q = q') : Ending.returned (.tuple #[.float .f32 r, .int .i64 q]) = .returned (.tuple #[.float .f32 r', .int .i64 q']) := by rw [h.1, h.2]
theorem ring_facts {n : Nat} {at0 k : Int} (h : ringOk n at0 = true) (h2 : inB k 1 n = true) : (n : Int) ≤ 1024 ∧ 1 ≤ (n : Int) ∧ 0 ≤ at0 ∧ at0 ≤ (n : Int) - 1 ∧ 1 ≤ k ∧ k ≤ (n : Int) := by
  unfold ringOk at h
  rw [Bool.and_eq_true] at h
  obtain ⟨a, b⟩ := inB_true h.1
  obtain ⟨c, d⟩ := inB_true h.2
  obtain ⟨e, f⟩ := inB_true h2
  exact ⟨b, a, c, d, e, f⟩
end Go.Proofs.Ytpbkphjnhmiocaa
