/- The place in a table: the integer of 256 times a number between 0 and 1. Plain arithmetic, no program. No condition. -/
import Derived.Test.YtpchebclhjgcmaaSb
namespace Go.Fl
open Ieee

theorem rd32_zero {N D r : Nat} (h : Rd single N D r) (h0 : N = 0) : r = 0 := by
  have := h.up 0 (by rw [h0]; exact Nat.zero_le _)
  omega
theorem i64_in {k : Nat} (h : k ≤ 256) : IntKind.i64.min ≤ (k : Int) ∧ (k : Int) ≤ IntKind.i64.max := by
  have e1 : IntKind.i64.min = -9223372036854775808 := by decide
  have e2 : IntKind.i64.max = 9223372036854775807 := by decide
  rw [e1, e2]; omega
theorem fin_unit (a : Nat) (h0 : ordC .f32 (cv .f32 a) (cv .f32 0) = some .gt ∨ ordC .f32 (cv .f32 a) (cv .f32 0) = some .eq) (h1 : ordC .f32 (cv .f32 a) (cv .f32 1065353216) = some .lt ∨ ordC .f32 (cv .f32 a) (cv .f32 1065353216) = some .eq) :
    fin single a ∧ mg single (rg single a) ≤ 2 ^ slp ∧ (sg single a = true → mg single (rg single a) = 0) := by
  have f0 : fin single 0 := by unfold fin; decide +kernel
  have f1 : fin single 1065353216 := by unfold fin; decide +kernel
  have hn : nanB .f32 a = false := by
    cases h : nanB .f32 a
    · rfl
    · rw [cv_nan h] at h0; rcases h0 with h0 | h0 <;> cases h0
  have c0 : ordC .f32 (cv .f32 a) (cv .f32 0) = single.order a 0 := by rw [cv_of hn, cv_of (by decide +kernel)]; rfl
  have c1 : ordC .f32 (cv .f32 a) (cv .f32 1065353216) = single.order a 1065353216 := by rw [cv_of hn, cv_of (by decide +kernel)]; rfl
  rw [c0] at h0; rw [c1] at h1
  have hf : fin single a := by
    have hle : rg single a ≤ single.infRung := by rw [nanB_rg32] at hn; simpa using hn
    rcases Nat.lt_or_ge (rg single a) single.infRung with h | h
    · exact h
    · exfalso
      have hr := read_inf single a (by omega) (by decide)
      obtain ⟨m, j, e1, _⟩ := read_fin single 0 f0
      obtain ⟨m', j', e2, _⟩ := read_fin single 1065353216 f1
      unfold Format.order at h0 h1
      rw [hr, e1] at h0; rw [hr, e2] at h1
      cases hs : sg single a <;> rw [hs] at h0 h1
      · rcases h1 with h1 | h1 <;> cases h1
      · rcases h0 with h0 | h0 <;> cases h0
  rw [order_fin single a _ hf f0] at h0
  rw [order_fin single a _ hf f1] at h1
  have s0 : sv single 0 = 0 := by decide +kernel
  have s1 : sv single 1065353216 = ((2 ^ slp : Nat) : Int) := by decide +kernel
  rw [s0] at h0; rw [s1] at h1
  have g0 : 0 ≤ sv single a := by
    rcases h0 with h0 | h0
    · have := Int.compare_eq_gt.1 (Option.some.inj h0); omega
    · have := Int.compare_eq_eq.1 (Option.some.inj h0); omega
  have g1 : sv single a ≤ ((2 ^ slp : Nat) : Int) := by
    rcases h1 with h1 | h1
    · have := Int.compare_eq_lt.1 (Option.some.inj h1); omega
    · have := Int.compare_eq_eq.1 (Option.some.inj h1); omega
  refine ⟨hf, ?_, ?_⟩
  · unfold sv at g0 g1
    generalize 2 ^ slp = z at *
    by_cases hsa : sg single a = true
    · rw [if_pos hsa] at g0 g1; omega
    · rw [if_neg hsa] at g0 g1; omega
  · intro hs
    unfold sv at g0
    rw [if_pos hs] at g0; omega
theorem tab_index (a : Nat) (h0 : ordC .f32 (cv .f32 a) (cv .f32 0) = some .gt ∨ ordC .f32 (cv .f32 a) (cv .f32 0) = some .eq) (h1 : ordC .f32 (cv .f32 a) (cv .f32 1065353216) = some .lt ∨ ordC .f32 (cv .f32 a) (cv .f32 1065353216) = some .eq) :
    ∃ x k : Nat, cop .mul .f32 (cv .f32 a) (cv .f32 1132462080) = some x ∧ k ≤ 256 ∧ floatToIntVal .f32 x .i64 = some (k : Int) ∧ ∃ y, intC .down (conC .f32 .f64 (some x)) = some y ∧ floatToIntVal .f64 y .i64 = some (k : Int) := by
  obtain ⟨hf, hm, hs⟩ := fin_unit a h0 h1
  have fc : fin single 1132462080 := by unfold fin; decide +kernel
  have mc : mg single (rg single 1132462080) = 2 ^ (slp + 8) := by decide +kernel
  have sc : sg single 1132462080 = false := by decide +kernel
  obtain ⟨x, hx, hrd, hsg⟩ := mul_fin single slp s_lp' a 1132462080 hf fc
  rw [mc] at hrd
  rw [sc, Bool.xor_false] at hsg
  obtain ⟨R, hR, hRm⟩ := pow_rung32 (slp + 8) (by decide) (by decide)
  have hup := hrd.up R (by rw [hRm, Nat.mul_comm]; exact Nat.mul_le_mul_left _ hm)
  have fx : fin single x := by unfold fin; omega
  have mx : mg single (rg single x) ≤ 2 ^ 8 * 2 ^ slp := by
    rw [← Nat.pow_add, Nat.add_comm 8, ← hRm]; exact mg_le single hup
  have zx : sg single x = true → mg single (rg single x) = 0 := by
    intro h
    rw [rd32_zero hrd (by rw [hs (by rw [← hsg]; exact h), Nat.zero_mul])]
    decide +kernel
  have hna : nanB .f32 a = false := by rw [nanB_rg32]; unfold fin at hf; simp; omega
  refine ⟨x, mg single (rg single x) / 2 ^ slp, ?_, ?_, ?_, ?_⟩
  · rw [cv_of hna, cv_of (by decide +kernel)]; exact hx
  · exact Nat.le_trans (Nat.div_le_div_right mx) (by rw [Nat.mul_div_cancel _ (Nat.two_pow_pos _)]; decide)
  · have hk : mg single (rg single x) / 2 ^ slp ≤ 256 := Nat.le_trans (Nat.div_le_div_right mx) (by rw [Nat.mul_div_cancel _ (Nat.two_pow_pos _)]; decide)
    unfold floatToIntVal FloatKind.decode
    rw [fmt32, toInt_fin single slp s_lp' x fx]
    have e : (if sg single x = true then -((mg single (rg single x) / 2 ^ slp : Nat) : Int) else ((mg single (rg single x) / 2 ^ slp : Nat) : Int)) = ((mg single (rg single x) / 2 ^ slp : Nat) : Int) := by
      split
      · rename_i h; rw [zx h, Nat.zero_div]; rfl
      · rfl
    rw [e]
    dsimp only
    rw [if_pos (i64_in hk)]
  · have hk : mg single (rg single x) / 2 ^ slp ≤ 256 := Nat.le_trans (Nat.div_le_div_right mx) (by rw [Nat.mul_div_cancel _ (Nat.two_pow_pos _)]; decide)
    obtain ⟨W, hW, hWm, hc⟩ := wid_fin x fx
    have fz : fin double (double.word (sg single x) W) := by unfold fin; rw [rg_word double _ (Nat.le_of_lt hW)]; exact hW
    obtain ⟨n, d, hn, y, hy, hys, hM⟩ := intC_cases .down _ fz
    rw [rg_word double _ (Nat.le_of_lt hW), hWm] at hn
    rw [sg_word double _ (Nat.le_of_lt hW)] at hys hM
    have e1 : n / 2 ^ d = mg single (rg single x) / 2 ^ slp := by
      have e2 : n / 2 ^ d = (n * 2 ^ dlp) / (2 ^ d * 2 ^ dlp) := by rw [Nat.mul_div_mul_right _ _ (Nat.two_pow_pos dlp)]
      rw [e2, hn, show dlp = slp + wdn from rfl, Nat.pow_add, ← Nat.mul_assoc, Nat.mul_right_comm, Nat.mul_div_mul_right _ _ (Nat.two_pow_pos wdn), Nat.mul_comm (2 ^ d), Nat.mul_div_mul_right _ _ (Nat.two_pow_pos d)]
    have e3 : Toward.down.cut (sg single x) n d = mg single (rg single x) / 2 ^ slp := by
      rw [cut_down, e1]
      cases hsx : sg single x
      · rfl
      · have hz := zx hsx
        rw [hz, Nat.zero_mul, Nat.zero_mul] at hn
        have hn0 : n = 0 := by
          rcases Nat.mul_eq_zero.1 hn with h | h
          · exact h
          · have := Nat.two_pow_pos dlp; omega
        rw [hn0]; simp
    rw [e3] at hM
    rcases hM with ⟨_, fy, my⟩ | ⟨hb, _⟩
    · refine ⟨y, ?_, ?_⟩
      · show intC .down (floatToFloatBits .f32 x .f64) = some y
        rw [hc]; exact hy
      · unfold floatToIntVal FloatKind.decode
        rw [fmt64, whole_toInt fy my, hys]
        have e : (if sg single x = true then -((mg single (rg single x) / 2 ^ slp : Nat) : Int) else ((mg single (rg single x) / 2 ^ slp : Nat) : Int)) = ((mg single (rg single x) / 2 ^ slp : Nat) : Int) := by
          split
          · rename_i h; rw [zx h, Nat.zero_div]; rfl
          · rfl
        rw [e]
        dsimp only
        rw [if_pos (i64_in hk)]
    · exfalso
      generalize mg single (rg single x) / 2 ^ slp = q at *
      have : (2 : Nat) ^ 53 = 9007199254740992 := by decide
      omega
end Go.Fl
