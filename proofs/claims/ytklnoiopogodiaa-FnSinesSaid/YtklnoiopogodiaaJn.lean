/- Noise lies between -1 and 1. Plain arithmetic, no program. No condition. -/
import Derived.Test.YtklnoiopogodiaaHk
namespace Go.Fl
open Ieee
theorem int32_exact (m : Int) (h : m.natAbs ≤ 16777216) : ∃ R, R < single.infRung ∧ mg single R = m.natAbs * 2 ^ slp ∧ rg single (floatOfInt .f32 m) = R ∧ sg single (floatOfInt .f32 m) = decide (m < 0) := by
  obtain ⟨R, hR⟩ := rep single m.natAbs slp (by rw [show 2 * single.binade = 16777216 from by decide +kernel]; exact h)
  have hR1 : R < single.infRung := by
    obtain ⟨S, hS, hS2⟩ := pow_rung32 (slp + 24) (by unfold slp; omega) (by unfold slp; omega)
    refine Nat.lt_of_le_of_lt ((mg_le_iff single R S).1 ?_) hS
    rw [hR, hS2, show slp + 24 = 24 + slp from by omega, Nat.pow_add]
    exact Nat.mul_le_mul_right _ (by rw [show (2 : Nat) ^ 24 = 16777216 from by decide]; exact h)
  have e : floatOfInt .f32 m = single.word (decide (m < 0)) (rnd single m.natAbs 0) := by
    unfold floatOfInt FloatKind.nearest
    exact nearest_eq single (decide (m < 0)) m.natAbs 0
  have hx : rnd single m.natAbs 0 = R := rnd_exact single m.natAbs 0 R slp 0 (Nat.le_of_lt hR1) (by rw [s_lp']; omega) (by rw [hR]; simp)
  rw [e, hx]
  exact ⟨R, hR1, hR, rg_word single _ (Nat.le_of_lt hR1), sg_word single _ (Nat.le_of_lt hR1)⟩
theorem read_fin2 (f : Format) (x : Nat) (h : fin f x) : ∃ m j : Nat, f.read x = .number (sg f x) m (f.leastPlace + (j : Nat)) ∧ m * 2 ^ j = mg f (rg f x) ∧ m < 2 * f.binade := by
  unfold fin at h
  unfold Format.read mg
  unfold rg at *
  dsimp only
  have hb := binade_pos f
  by_cases h1 : x % f.signWeight < f.binade
  · rw [if_pos h1, if_pos h1]
    exact ⟨x % f.signWeight, 0, by simp [sg], by simp, by omega⟩
  · rw [if_neg h1, if_pos h, if_neg h1]
    refine ⟨_, _, rfl, rfl, ?_⟩
    have := Nat.mod_lt (x % f.signWeight) hb
    omega
theorem noise_quo (x a R : Nat) (hx : fin single x) (ha : mg single (rg single x) = a * 2 ^ slp) (hR : R ≤ single.infRung) (hc : mg single R = a * 2 ^ 126) :
    ∃ r, single.div x 1258291200 = some r ∧ rg single r = R ∧ sg single r = sg single x := by
  obtain ⟨m, i, e1, e2, e3⟩ := read_fin2 single x hx
  have ey : single.read 1258291200 = .number false 8388608 0 := by kernel_rfl
  rw [show 2 * single.binade = 16777216 from by decide +kernel] at e3
  have hl : m.log2 < 24 := by
    by_cases hm : m = 0
    · subst hm; decide
    · exact (Nat.log2_lt hm).2 (by rw [show (2 : Nat) ^ 24 = 16777216 from by decide]; exact e3)
  unfold Format.div
  rw [e1, ey]
  simp only [Datum.quotient, if_neg (show ¬ (8388608 : Nat) = 0 from by decide), Option.map_some]
  rw [show single.fractionBits + 2 + Nat.log2 8388608 = 48 from by decide +kernel]
  obtain ⟨d, hd⟩ : ∃ d, 48 - m.log2 = d + 23 := ⟨25 - m.log2, by omega⟩
  rw [hd]
  have hD : m <<< (d + 23) = m * 2 ^ d * 8388608 := by
    rw [Nat.shiftLeft_eq, Nat.pow_add, show (2 : Nat) ^ 23 = 8388608 from by decide, Nat.mul_assoc]
  rw [hD, Nat.mul_div_cancel _ (by decide), Nat.mul_mod_left]
  refine ⟨_, rfl, ?_⟩
  simp only [Format.write]
  rw [nearest_eq]
  have hr : rnd single (2 * (m * 2 ^ d) + (0 != 0).toNat) (single.leastPlace + (i : Int) - 0 - ((d + 23 : Nat) : Int) - 1) = R := by
    refine rnd_exact single _ _ R i (d + 24) hR (by push_cast; omega) ?_
    rw [hc]
    have h1 : m * 2 ^ i = a * 2 ^ slp := e2.trans ha
    show (2 * (m * 2 ^ d) + 0) * 2 ^ i = a * 2 ^ 126 * 2 ^ (d + 24)
    calc (2 * (m * 2 ^ d) + 0) * 2 ^ i = 2 * (m * 2 ^ i * 2 ^ d) := by rw [Nat.add_zero, Nat.mul_assoc, Nat.mul_assoc, Nat.mul_assoc, Nat.mul_comm (2 ^ d)]
      _ = 2 * (a * 2 ^ slp * 2 ^ d) := by rw [h1]
      _ = a * 2 ^ 126 * 2 ^ (d + 24) := by
        rw [show slp = 126 + 23 from rfl, Nat.pow_add 2 126 23, Nat.pow_add 2 d 24, show (2 : Nat) ^ 24 = 2 * 2 ^ 23 from by decide]
        generalize (2 : Nat) ^ 126 = z
        generalize (2 : Nat) ^ 23 = y
        generalize (2 : Nat) ^ d = u
        simp only [Nat.mul_assoc, Nat.mul_left_comm, Nat.mul_comm]
  rw [hr]
  exact ⟨rg_word single _ hR, by rw [sg_word single _ hR]; cases sg single x <;> rfl⟩
theorem noise_unit (m : Int) (h1 : -8388608 ≤ m) (h2 : m ≤ 8388607) : ∃ r, cop .quo .f32 (cv .f32 (floatOfInt .f32 m)) (cv .f32 1258291200) = some r ∧ nanB .f32 r = false ∧
    ordC .f32 (some r) (cv .f32 3212836864) ≠ some .lt ∧ ordC .f32 (some r) (cv .f32 1065353216) = some .lt := by
  obtain ⟨R, hR, hm, e1, e2⟩ := int32_exact m (by omega)
  obtain ⟨S, hS⟩ := rep single m.natAbs 126 (by rw [show 2 * single.binade = 16777216 from by decide +kernel]; omega)
  have hx : fin single (floatOfInt .f32 m) := by unfold fin; rw [e1]; exact hR
  have hSR : S ≤ R := (mg_le_iff single S R).1 (by rw [hS, hm]; exact Nat.mul_le_mul_left _ (Nat.pow_le_pow_right (by decide) (by decide)))
  obtain ⟨r, q1, q2, q3⟩ := noise_quo (floatOfInt .f32 m) m.natAbs S hx (by rw [e1, hm]) (by omega) hS
  have fr : fin single r := by unfold fin; rw [q2]; omega
  have nx : nanB .f32 (floatOfInt .f32 m) = false := by rw [nanB_rg32]; unfold fin at hx; simp; omega
  have nr : nanB .f32 r = false := by rw [nanB_rg32]; unfold fin at fr; simp; omega
  have hv : sv single r = m * ((2 ^ 126 : Nat) : Int) := by
    unfold sv
    rw [q3, e2, q2, hS]
    generalize (2 : Nat) ^ 126 = z
    by_cases hn : m < 0
    · rw [if_pos (by simpa using hn)]
      have : (m.natAbs : Int) = -m := by omega
      push_cast; rw [this, Int.neg_mul, Int.neg_neg]
    · rw [if_neg (by simpa using hn)]
      have : (m.natAbs : Int) = m := by omega
      push_cast; rw [this]
  refine ⟨r, ?_, nr, ?_, ?_⟩
  · rw [cv_of nx, cv_of (by decide +kernel)]
    exact q1
  · rw [cv_of (by decide +kernel)]
    show single.order r 3212836864 ≠ some .lt
    rw [order_fin single r _ fr (by unfold fin; decide +kernel), show sv single 3212836864 = -8388608 * ((2 ^ 126 : Nat) : Int) from by decide +kernel, hv]
    intro h
    have := Int.compare_eq_lt.1 (Option.some.inj h)
    have h3 : -8388608 * ((2 ^ 126 : Nat) : Int) ≤ m * ((2 ^ 126 : Nat) : Int) := Int.mul_le_mul_of_nonneg_right h1 (by omega)
    omega
  · rw [cv_of (by decide +kernel)]
    show single.order r 1065353216 = some .lt
    rw [order_fin single r _ fr (by unfold fin; decide +kernel), show sv single 1065353216 = 8388608 * ((2 ^ 126 : Nat) : Int) from by decide +kernel, hv]
    congr 1
    refine Int.compare_eq_lt.2 ?_
    exact Int.mul_lt_mul_of_pos_right (by omega) (by exact_mod_cast Nat.two_pow_pos 126)
end Go.Fl
