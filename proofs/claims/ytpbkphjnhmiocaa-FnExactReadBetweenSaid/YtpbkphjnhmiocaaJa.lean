/- The place between two samples of a ring. Plain arithmetic, no program. No condition. -/
import Derived.Test.YtpbkphjnhmiocaaHk
namespace Go.Fl
open Ieee
theorem between_facts (n d : Nat) (hn : n ≤ 1024) (h : inR d 1065353216 (floatOfInt .f32 (n : Int)) = true) : ∃ k y : Nat, 1 ≤ k ∧ k ≤ n ∧ floatToIntVal .f32 d .i64 = some (k : Int) ∧ (∀ w, f2i .f32 d .i64 w = (k : Int)) ∧ (∀ w w' w'', f2i .f64 (ival .down (conv .f32 .f64 d w) w') .i64 w'' = (k : Int)) ∧
    (∀ w, fval .sub .f32 d (floatOfInt .f32 (k : Int)) w = y) ∧ cop .sub .f32 (cv .f32 d) (cv .f32 (floatOfInt .f32 (k : Int))) = some y ∧ (k = n → ordC .f32 (cv .f32 y) (cv .f32 0) = some .eq) := by
  obtain ⟨_, _, fn, sn, _⟩ := small_facts (show n < 1025 by omega)
  obtain ⟨fd, d1, d2⟩ := inR_fin h (by decide +kernel) fn
  rw [sn] at d2
  rw [show sv single 1065353216 = ((2 ^ slp : Nat) : Int) from by decide +kernel] at d1
  have hz : 0 < (2 : Nat) ^ slp := Nat.two_pow_pos _
  have hsg : sg single d = false := by
    cases hs : sg single d
    · rfl
    · unfold sv at d1; rw [if_pos hs] at d1
      have : (0 : Int) < ((2 ^ slp : Nat) : Int) := by omega
      omega
  have hsv : sv single d = (mg single (rg single d) : Int) := by unfold sv; rw [if_neg (by rw [hsg]; simp)]
  have hm2 : mg single (rg single d) ≤ n * 2 ^ slp := by
    rw [hsv] at d2
    have e : ((n * 2 ^ slp : Nat) : Int) = (n : Int) * ((2 ^ slp : Nat) : Int) := by push_cast; rfl
    omega
  have hm1 : 2 ^ slp ≤ mg single (rg single d) := by rw [hsv] at d1; omega
  obtain ⟨hk, hi, hdn, hdi⟩ := floor_whole d n (by omega) fd hsg hm2
  have hk1 : 1 ≤ wh d := by unfold wh; exact (Nat.le_div_iff_mul_le hz).2 (by omega)
  obtain ⟨_, _, fk, sk, _⟩ := small_facts (show wh d < 1025 by omega)
  obtain ⟨y, hy, hc, hrd, _⟩ := sub_some fd fk
  have nd : nanB .f32 d = false := by rw [nanB_rg32]; unfold fin at fd; simp; omega
  have hiv : ∀ w w', ival .down (conv .f32 .f64 d w) w' = floatOfInt .f64 (wh d : Int) := fun w w' => by
    have e := cv_ival (way := .down) (x := conv .f32 .f64 d w) (w := w')
    rw [cv_wid, cv_of nd, hdn] at e
    exact (cv_some e).2.symm
  refine ⟨wh d, y, hk1, hk, hi, fun w => f2i_of w hi, fun w w' w'' => by rw [hiv w w']; exact f2i_of w'' hdi, hy, hc, fun e => ?_⟩
  -- the whole number is the ring's length: the number is it, and the rest is 0
  have hge : n * 2 ^ slp ≤ mg single (rg single d) := by
    have := Nat.div_mul_le_self (mg single (rg single d)) (2 ^ slp)
    have e2 : mg single (rg single d) / 2 ^ slp = n := e
    rw [e2] at this; exact this
  have hv : sv single d - sv single (floatOfInt .f32 (wh d : Int)) = 0 := by
    rw [sk, hsv, e]
    have e3 : ((n * 2 ^ slp : Nat) : Int) = (n : Int) * ((2 ^ slp : Nat) : Int) := by push_cast; rfl
    omega
  rw [hv] at hrd
  have hr0 : rg single y = 0 := by
    have := hrd.up 0 (by simp)
    omega
  have fy : fin single y := by unfold fin; rw [hr0]; decide
  have f0 : fin single 0 := by unfold fin; decide +kernel
  have ny : nanB .f32 y = false := by rw [nanB_rg32]; unfold fin at fy; simp; omega
  rw [cv_of ny, cv_of (by decide +kernel)]
  show single.order y 0 = some .eq
  rw [order_fin single y 0 fy f0]
  have s0 : sv single 0 = 0 := by decide +kernel
  have sy : sv single y = 0 := by
    unfold sv; rw [hr0]
    have : mg single 0 = 0 := mg_small single 0 (Nat.zero_le _)
    rw [this]; split <;> rfl
  rw [s0, sy]
  simp [compare, compareOfLessAndEq]
end Go.Fl
