/- The lengths of new strings. Plain arithmetic, no program. No condition. -/
import Derived.Test.YtpchebclhjgcmaaHf
namespace Go.Fl
open Ieee
/-- From one number to another. -/
def inR (a lo hi : Nat) : Bool := (ordC .f32 (cv .f32 a) (cv .f32 lo) == some .gt || ordC .f32 (cv .f32 a) (cv .f32 lo) == some .eq) && (ordC .f32 (cv .f32 a) (cv .f32 hi) == some .lt || ordC .f32 (cv .f32 a) (cv .f32 hi) == some .eq)
theorem inR_fin {a lo hi : Nat} (h : inR a lo hi = true) (h1 : rg single lo < single.infRung) (h2 : rg single hi < single.infRung) : fin single a ∧ sv single lo ≤ sv single a ∧ sv single a ≤ sv single hi := by
  unfold inR at h
  simp only [Bool.and_eq_true, Bool.or_eq_true, beq_iff_eq] at h
  exact fin_between a lo hi h1 h2 h.1 h.2
theorem sub_some {x y : Nat} (hx : fin single x) (hy : fin single y) : ∃ r, (∀ w, fval .sub .f32 x y w = r) ∧ cop .sub .f32 (cv .f32 x) (cv .f32 y) = some r ∧ Rd single (sv single x - sv single y).natAbs 1 (rg single r) ∧ (sv single x - sv single y ≠ 0 → sg single r = decide (sv single x - sv single y < 0)) := by
  obtain ⟨r, h1, h2, h3, _⟩ := sub_fin single x y hx hy
  have nx : nanB .f32 x = false := by rw [nanB_rg32]; unfold fin at hx; simp; omega
  have ny : nanB .f32 y = false := by rw [nanB_rg32]; unfold fin at hy; simp; omega
  have hc : cop .sub .f32 (cv .f32 x) (cv .f32 y) = some r := by rw [cv_of nx, cv_of ny]; exact h1
  refine ⟨r, fun w => ?_, hc, h2, h3⟩
  have e := cv_fval (op := .sub) (k := .f32) (x := x) (y := y) (w := w)
  rw [hc] at e
  exact (cv_some e).2.symm
theorem small_facts {k : Nat} (h : k < 1025) : (∀ w, conv .f64 .f32 (floatOfInt .f64 (k : Int)) w = floatOfInt .f32 (k : Int)) ∧ (∀ w, f2i .f32 (floatOfInt .f32 (k : Int)) .i64 w = (k : Int)) ∧ fin single (floatOfInt .f32 (k : Int)) ∧ sv single (floatOfInt .f32 (k : Int)) = (k : Int) * (2 ^ slp : Nat) ∧ (0 < k → ∀ w, fval .sub .f32 (floatOfInt .f32 (k : Int)) 1065353216 w = floatOfInt .f32 ((k : Int) - 1)) := by
  have hb := small_all k h
  unfold smallB at hb
  simp only [Bool.and_eq_true, Bool.or_eq_true, beq_iff_eq, decide_eq_true_eq] at hb
  obtain ⟨⟨⟨⟨⟨h1, h2⟩, h3⟩, h4⟩, h5⟩, h6⟩ := hb
  refine ⟨fun w => ?_, fun w => f2i_of w h2, h4, h3, fun h0 w => ?_⟩
  · have h7 : floatToFloatBits .f64 (floatOfInt .f64 (k : Int)) .f32 = some (floatOfInt .f32 (k : Int)) := h1
    unfold conv
    simp only [h7]
  · have hf : fin single 1065353216 := by unfold fin; decide +kernel
    obtain ⟨r, hr, hc, _, _⟩ := sub_some h4 hf
    have nk : nanB .f32 (floatOfInt .f32 (k : Int)) = false := by rw [nanB_rg32]; simp; omega
    rw [cv_of nk, cv_of (by decide +kernel)] at hc
    rw [hr w]
    rcases h6 with h6 | h6
    · omega
    · rw [hc] at h6; exact Option.some.inj h6
theorem new_len (p m : Nat) (h1 : inR p 1077936128 1149239296 = true) (h2 : inR m 0 1056964608 = true) : ∃ x k : Nat, (∀ w, fval .sub .f32 p m w = x) ∧ cop .sub .f32 (cv .f32 p) (cv .f32 m) = some x ∧ floatToIntVal .f32 x .i64 = some (k : Int) ∧ fin single x ∧ 2 ≤ k ∧ k ≤ 1024 ∧ (∀ w, f2i .f32 x .i64 w = (k : Int)) ∧ (∀ w w', ival .down (conv .f32 .f64 x w) w' = floatOfInt .f64 (k : Int)) := by
  obtain ⟨fp, p1, p2⟩ := inR_fin h1 (by decide +kernel) (by decide +kernel)
  obtain ⟨fm, m1, m2⟩ := inR_fin h2 (by decide +kernel) (by decide +kernel)
  rw [show sv single 1077936128 = ((6 * 2 ^ 148 : Nat) : Int) from by decide +kernel] at p1
  rw [show sv single 1149239296 = ((2048 * 2 ^ 148 : Nat) : Int) from by decide +kernel] at p2
  rw [show sv single 0 = 0 from by decide +kernel] at m1
  rw [show sv single 1056964608 = ((2 ^ 148 : Nat) : Int) from by decide +kernel] at m2
  obtain ⟨x, hx, hc, hrd, hsg⟩ := sub_some fp fm
  have e1 : mg single (rg single 1149239296) = 2048 * 2 ^ 148 := by decide +kernel
  have e2 : mg single (rg single 1073741824) = 4 * 2 ^ 148 := by decide +kernel
  have e3 : (2 : Nat) ^ slp = 2 * 2 ^ 148 := by decide
  have hz : 0 < (2 : Nat) ^ 148 := Nat.two_pow_pos _
  generalize (2 : Nat) ^ 148 = z at *
  generalize hv : sv single p - sv single m = v at *
  have v1 : ((4 * z : Nat) : Int) ≤ v := by omega
  have v2 : v ≤ ((2048 * z : Nat) : Int) := by omega
  have up := hrd.up (rg single 1149239296) (by rw [e1]; omega)
  have dn := hrd.dn (rg single 1073741824) (by decide +kernel) (by rw [e2]; omega)
  have fx : fin single x := by
    unfold fin
    have : rg single 1149239296 < single.infRung := by decide +kernel
    omega
  have mu := mg_le single up
  have md := mg_le single dn
  rw [e1] at mu; rw [e2] at md
  have sx : sg single x = false := by rw [hsg (by omega)]; simp; omega
  obtain ⟨hk, hi, hd, _⟩ := floor_whole x 1024 (by decide) fx sx (by rw [e3]; omega)
  refine ⟨x, wh x, hx, hc, hi, fx, ?_, hk, fun w => f2i_of w hi, fun w w' => ?_⟩
  · unfold wh
    rw [e3]
    exact (Nat.le_div_iff_mul_le (by omega)).2 (by omega)
  · have nx : nanB .f32 x = false := by rw [nanB_rg32]; unfold fin at fx; simp; omega
    have e := cv_ival (way := .down) (x := conv .f32 .f64 x w) (w := w')
    rw [cv_wid, cv_of nx, hd] at e
    exact (cv_some e).2.symm
end Go.Fl
