/- The sine of a turn, as a formula of float64; it fits into a float32. Plain arithmetic, no program. No condition. -/
import Derived.Test.YtklnoiopogodiaaSb
namespace Go.Fl
open Ieee

theorem Bd.neg {c : CF} {E : Nat} (h : Bd c E) : Bd (negC .f64 c) E := by
  obtain ⟨x, rfl, hx, mx⟩ := h
  have e : rg double (Op.negFloat .f64 x) = rg double x := rung_neg .f64 x
  exact ⟨Op.negFloat .f64 x, rfl, by unfold fin; rw [e]; exact hx, by rw [e]; exact mx⟩
theorem Bd.const (x E : Nat) (h0 : nanB .f64 x = false) (h1 : rg double x < double.infRung) (h2 : mg double (rg double x) ≤ 2 ^ E) : Bd (cv .f64 x) E := ⟨x, cv_of h0, h1, h2⟩

def sHalf : Nat := 4602678819172646912
def sQuart : Nat := 4598175219545276416
def sOne : Nat := 4607182418800017408
def sTau : Nat := 4618760256179416344
theorem bd_half : Bd (cv .f64 sHalf) dlp := Bd.const _ _ (by decide +kernel) (by decide +kernel) (by decide +kernel)
theorem bd_one : Bd (cv .f64 sOne) (dlp + 1) := Bd.const _ _ (by decide +kernel) (by decide +kernel) (by decide +kernel)
theorem bd_tau : Bd (cv .f64 sTau) (dlp + 3) := Bd.const _ _ (by decide +kernel) (by decide +kernel) (by decide +kernel)

/-- The divisor of round j (the counter stands at 8 - j). -/
def sDiv (j : Nat) : CF := cv .f64 (floatOfInt .f64 (2 * ((8 - j : Nat) : Int) * (2 * ((8 - j : Nat) : Int) + 1)))
theorem sDiv_fin (j : Nat) (h : j < 8) : ∃ y, sDiv j = some y ∧ fin double y ∧ 2 ^ dlp ≤ mg double (rg double y) := by
  have hh : ∀ j : Fin 8, nanB .f64 (floatOfInt .f64 (2 * ((8 - j.val : Nat) : Int) * (2 * ((8 - j.val : Nat) : Int) + 1))) = false ∧ rg double (floatOfInt .f64 (2 * ((8 - j.val : Nat) : Int) * (2 * ((8 - j.val : Nat) : Int) + 1))) < double.infRung ∧ 2 ^ dlp ≤ mg double (rg double (floatOfInt .f64 (2 * ((8 - j.val : Nat) : Int) * (2 * ((8 - j.val : Nat) : Int) + 1)))) := by decide +kernel
  obtain ⟨h1, h2, h3⟩ := hh ⟨j, h⟩
  exact ⟨_, cv_of h1, h2, h3⟩
def sinT (y : CF) : Nat → CF
  | 0 => cv .f64 sOne
  | j + 1 => cop .sub .f64 (cv .f64 sOne) (cop .mul .f64 (cop .quo .f64 y (sDiv j)) (sinT y j))
theorem bd_sinT {y : CF} (hy : Bd y (dlp + 10)) : ∀ j, j ≤ 8 → Bd (sinT y j) (dlp + 12 * j + 1)
  | 0, _ => bd_one
  | j + 1, h => by
    have ih := bd_sinT hy j (by omega)
    obtain ⟨d, e, hd, h1⟩ := sDiv_fin j (by omega)
    have hq : Bd (cop .quo .f64 y (sDiv j)) (dlp + 11) := by
      rw [e]; exact hy.quo hd h1 (by omega) (by unfold dlp; omega) (by unfold dlp; omega)
    have hm := hq.mul ih (G := dlp + 12 * j + 12) (by omega) (by unfold dlp; omega) (by unfold dlp; omega)
    exact (bd_one.mono (F := dlp + 12 * j + 12) (by omega)).sub hm (by omega) (by unfold dlp; omega) (by unfold dlp; omega)

def sF0 (a : CF) : CF := cop .sub .f64 (conC .f32 .f64 a) (intC .down (conC .f32 .f64 a))
def sNeg (a : CF) : Bool := (ordC .f64 (sF0 a) (cv .f64 sHalf) == some .gt) || (ordC .f64 (sF0 a) (cv .f64 sHalf) == some .eq)
def sF1 (a : CF) : CF := if sNeg a = true then cop .sub .f64 (sF0 a) (cv .f64 sHalf) else sF0 a
def sF2 (a : CF) : CF := if (ordC .f64 (sF1 a) (cv .f64 sQuart) == some .gt) = true then cop .sub .f64 (cv .f64 sHalf) (sF1 a) else sF1 a
def sX (a : CF) : CF := cop .mul .f64 (cv .f64 sTau) (sF2 a)
def sY (a : CF) : CF := cop .mul .f64 (sX a) (sX a)
def sS (a : CF) : CF := cop .mul .f64 (sinT (sY a) 8) (sX a)
def sR (a : CF) : CF := if sNeg a = true then negC .f64 (sS a) else sS a
def sineC (a : CF) : CF := if (ordC .f32 (cop .sub .f32 a a) (cv .f32 0) == some .eq) = true then conC .f64 .f32 (sR a) else none

theorem finite_of (a : Nat) (h : (ordC .f32 (cop .sub .f32 (cv .f32 a) (cv .f32 a)) (cv .f32 0) == some .eq) = true) : fin single a := by
  unfold fin
  rcases Nat.lt_or_ge (rg single a) single.infRung with h1 | h1
  · exact h1
  · exfalso
    have hn : cop .sub .f32 (cv .f32 a) (cv .f32 a) = none := by
      rcases Nat.eq_or_lt_of_le h1 with h2 | h2
      · have hr := read_inf single a h2.symm (by decide)
        rw [cv_of (by rw [nanB_rg32]; simp; omega)]
        show single.sub a a = none
        unfold Format.sub
        rw [hr]
        cases sg single a <;> rfl
      · rw [cv_nan (by rw [nanB_rg32]; simpa using h2)]; rfl
    rw [hn] at h
    cases h
theorem sine_fits (a : Nat) (h : (ordC .f32 (cop .sub .f32 (cv .f32 a) (cv .f32 a)) (cv .f32 0) == some .eq) = true) : Fits .f64 .f32 (sR (cv .f32 a)) := by
  obtain ⟨x, e, hx⟩ := wide_fin a (finite_of a h)
  have h0 : Bd (sF0 (cv .f32 a)) dlp := by unfold sF0; rw [e]; exact Bd.frac hx
  have h1 : Bd (sF1 (cv .f32 a)) (dlp + 1) := by
    unfold sF1; split
    · exact h0.sub bd_half (by omega) (by unfold dlp; omega) (by unfold dlp; omega)
    · exact h0.mono (by omega)
  have h2 : Bd (sF2 (cv .f32 a)) (dlp + 2) := by
    unfold sF2; split
    · exact (bd_half.mono (F := dlp + 1) (by omega)).sub h1 (by omega) (by unfold dlp; omega) (by unfold dlp; omega)
    · exact h1.mono (by omega)
  have hX : Bd (sX (cv .f32 a)) (dlp + 5) := bd_tau.mul h2 (by omega) (by unfold dlp; omega) (by unfold dlp; omega)
  have hY : Bd (sY (cv .f32 a)) (dlp + 10) := hX.mul hX (by omega) (by unfold dlp; omega) (by unfold dlp; omega)
  have hS : Bd (sS (cv .f32 a)) (dlp + 102) := (bd_sinT hY 8 (by omega)).mul hX (by omega) (by unfold dlp; omega) (by unfold dlp; omega)
  have hR : Bd (sR (cv .f32 a)) (dlp + 102) := by
    unfold sR; split
    · exact hS.neg
    · exact hS
  exact hR.fits (by omega)
end Go.Fl
