/- Numbers between two numbers, their floors; small whole numbers. Plain arithmetic, no program. No condition. -/
import Derived.Test.YtpchebclhjgcmaaSg
namespace Go.Fl
open Ieee

/-- A number that is not below one number nor above another. -/
theorem fin_between (a lo hi : Nat) (fl0 : fin single lo) (fh : fin single hi) (h0 : ordC .f32 (cv .f32 a) (cv .f32 lo) = some .gt ∨ ordC .f32 (cv .f32 a) (cv .f32 lo) = some .eq) (h1 : ordC .f32 (cv .f32 a) (cv .f32 hi) = some .lt ∨ ordC .f32 (cv .f32 a) (cv .f32 hi) = some .eq) :
    fin single a ∧ sv single lo ≤ sv single a ∧ sv single a ≤ sv single hi := by
  have hn : nanB .f32 a = false := by
    cases h : nanB .f32 a
    · rfl
    · rw [cv_nan h] at h0; rcases h0 with h0 | h0 <;> cases h0
  have nlo : nanB .f32 lo = false := by rw [nanB_rg32]; unfold fin at fl0; simp; omega
  have nhi : nanB .f32 hi = false := by rw [nanB_rg32]; unfold fin at fh; simp; omega
  have c0 : ordC .f32 (cv .f32 a) (cv .f32 lo) = single.order a lo := by rw [cv_of hn, cv_of nlo]; rfl
  have c1 : ordC .f32 (cv .f32 a) (cv .f32 hi) = single.order a hi := by rw [cv_of hn, cv_of nhi]; rfl
  rw [c0] at h0; rw [c1] at h1
  have hf : fin single a := by
    have hle : rg single a ≤ single.infRung := by rw [nanB_rg32] at hn; simpa using hn
    rcases Nat.lt_or_ge (rg single a) single.infRung with h | h
    · exact h
    · exfalso
      have hr := read_inf single a (by omega) (by decide)
      obtain ⟨m, j, e1, _⟩ := read_fin single lo fl0
      obtain ⟨m', j', e2, _⟩ := read_fin single hi fh
      unfold Format.order at h0 h1
      rw [hr, e1] at h0; rw [hr, e2] at h1
      cases hs : sg single a <;> rw [hs] at h0 h1
      · rcases h1 with h1 | h1 <;> cases h1
      · rcases h0 with h0 | h0 <;> cases h0
  rw [order_fin single a _ hf fl0] at h0
  rw [order_fin single a _ hf fh] at h1
  refine ⟨hf, ?_, ?_⟩
  · rcases h0 with h0 | h0
    · have := Int.compare_eq_gt.1 (Option.some.inj h0); omega
    · have := Int.compare_eq_eq.1 (Option.some.inj h0); omega
  · rcases h1 with h1 | h1
    · have := Int.compare_eq_lt.1 (Option.some.inj h1); omega
    · have := Int.compare_eq_eq.1 (Option.some.inj h1); omega
theorem i64_in' {k : Nat} (h : k ≤ 1048576) : IntKind.i64.min ≤ (k : Int) ∧ (k : Int) ≤ IntKind.i64.max := by
  have e1 : IntKind.i64.min = -9223372036854775808 := by decide
  have e2 : IntKind.i64.max = 9223372036854775807 := by decide
  rw [e1, e2]; omega
/-- The whole number in a number that is not negative. -/
def wh (x : Nat) : Nat := mg single (rg single x) / 2 ^ slp
theorem floor_whole (x K : Nat) (hK : K ≤ 1048576) (fx : fin single x) (sx : sg single x = false) (hm : mg single (rg single x) ≤ K * 2 ^ slp) :
    wh x ≤ K ∧ floatToIntVal .f32 x .i64 = some (wh x : Int) ∧ intC .down (conC .f32 .f64 (some x)) = some (floatOfInt .f64 (wh x : Int)) ∧ floatToIntVal .f64 (floatOfInt .f64 (wh x : Int)) .i64 = some (wh x : Int) := by
  have hk : wh x ≤ K := by
    unfold wh
    exact Nat.le_trans (Nat.div_le_div_right hm) (by rw [Nat.mul_div_cancel _ (Nat.two_pow_pos _)]; exact Nat.le_refl _)
  refine ⟨hk, ?_, ?_⟩
  · unfold floatToIntVal FloatKind.decode
    rw [fmt32, toInt_fin single slp s_lp' x fx]
    have e : (if sg single x = true then -((mg single (rg single x) / 2 ^ slp : Nat) : Int) else ((mg single (rg single x) / 2 ^ slp : Nat) : Int)) = ((wh x : Nat) : Int) := by
      rw [if_neg (by rw [sx]; simp)]; rfl
    rw [e]
    dsimp only
    rw [if_pos (i64_in' (by omega))]
  · obtain ⟨W, hW, hWm, hc⟩ := wid_fin x fx
    rw [sx] at hc
    have fz : fin double (double.word false W) := by unfold fin; rw [rg_word double _ (Nat.le_of_lt hW)]; exact hW
    obtain ⟨n, d, hi, hn⟩ := integral_fin .down double dlp d_lp' _ fz
    rw [rg_word double _ (Nat.le_of_lt hW), hWm] at hn
    rw [sg_word double _ (Nat.le_of_lt hW)] at hi
    have e1 : n / 2 ^ d = wh x := by
      have e2 : n / 2 ^ d = (n * 2 ^ dlp) / (2 ^ d * 2 ^ dlp) := by rw [Nat.mul_div_mul_right _ _ (Nat.two_pow_pos dlp)]
      rw [e2, hn, show dlp = slp + wdn from rfl, Nat.pow_add, ← Nat.mul_assoc, Nat.mul_right_comm, Nat.mul_div_mul_right _ _ (Nat.two_pow_pos wdn), Nat.mul_comm (2 ^ d), Nat.mul_div_mul_right _ _ (Nat.two_pow_pos d)]
      rfl
    have e3 : Toward.down.cut false n d = wh x := by
      rw [cut_down, e1]; rfl
    rw [e3] at hi
    have ey : double.write ((double.read (double.word false W)).integral .down) = floatOfInt .f64 (wh x : Int) := by
      rw [hi]
      unfold floatOfInt FloatKind.nearest FloatKind.encode
      rw [fmt64]
      have h1 : decide ((wh x : Int) < 0) = false := by simp
      rw [h1, Int.natAbs_natCast]
    have hd : intC .down (conC .f32 .f64 (some x)) = some (floatOfInt .f64 (wh x : Int)) := by
      show intC .down (floatToFloatBits .f32 x .f64) = _
      rw [hc]
      show some (double.write ((double.read (double.word false W)).integral .down)) = _
      rw [ey]
    refine ⟨hd, ?_⟩
    obtain ⟨n', d', hn', y, hy, hys, hM⟩ := intC_cases .down _ fz
    have hy2 : y = floatOfInt .f64 (wh x : Int) := by
      rw [show conC .f32 .f64 (some x) = floatToFloatBits .f32 x .f64 from rfl, hc] at hd
      exact Option.some.inj (hy.symm.trans hd)
    rw [rg_word double _ (Nat.le_of_lt hW), hWm] at hn'
    rw [sg_word double _ (Nat.le_of_lt hW)] at hys hM
    have e1' : n' / 2 ^ d' = wh x := by
      have e2 : n' / 2 ^ d' = (n' * 2 ^ dlp) / (2 ^ d' * 2 ^ dlp) := by rw [Nat.mul_div_mul_right _ _ (Nat.two_pow_pos dlp)]
      rw [e2, hn', show dlp = slp + wdn from rfl, Nat.pow_add, ← Nat.mul_assoc, Nat.mul_right_comm, Nat.mul_div_mul_right _ _ (Nat.two_pow_pos wdn), Nat.mul_comm (2 ^ d'), Nat.mul_div_mul_right _ _ (Nat.two_pow_pos d')]
      rfl
    have e3' : Toward.down.cut false n' d' = wh x := by rw [cut_down, e1']; rfl
    rw [e3'] at hM
    rcases hM with ⟨_, fy, my⟩ | ⟨hb, _⟩
    · rw [← hy2]
      unfold floatToIntVal FloatKind.decode
      rw [fmt64, whole_toInt fy my]
      have e : (if sg double y = true then -((wh x : Nat) : Int) else ((wh x : Nat) : Int)) = ((wh x : Nat) : Int) := by
        rw [if_neg (by rw [hys]; simp)]
      rw [e]
      dsimp only
      rw [if_pos (i64_in' (by omega))]
    · exfalso
      have : (2 : Nat) ^ 53 = 9007199254740992 := by decide
      omega
/-! ### Small whole numbers -/
def smallB (k : Nat) : Bool := conC .f64 .f32 (some (floatOfInt .f64 (k : Int))) == some (floatOfInt .f32 (k : Int)) && (floatToIntVal .f32 (floatOfInt .f32 (k : Int)) .i64 == some (k : Int)) && decide (sv single (floatOfInt .f32 (k : Int)) = (k : Int) * (2 ^ slp : Nat)) && decide (rg single (floatOfInt .f32 (k : Int)) < single.infRung) && (sg single (floatOfInt .f32 (k : Int)) == false) && (k == 0 || cop .sub .f32 (some (floatOfInt .f32 (k : Int))) (some 1065353216) == some (floatOfInt .f32 ((k : Int) - 1)))
theorem small_all : ∀ k, k < 1025 → smallB k = true := by decide +kernel
end Go.Fl
