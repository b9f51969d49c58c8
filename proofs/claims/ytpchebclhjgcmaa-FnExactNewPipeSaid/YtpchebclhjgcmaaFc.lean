/- From float32 to float64 and back; the sign struck off. Plain arithmetic, no program. No condition. -/
import Derived.Test.YtpchebclhjgcmaaFx
namespace Go.Fl
open Ieee

theorem s_bin : single.binade = 8388608 := by decide
theorem s_sw : single.signWeight = 2147483648 := by decide
theorem s_inf : single.infRung = 2139095040 := by decide
theorem s_lp : single.leastPlace = -149 := by decide
theorem d_bin : double.binade = 4503599627370496 := by decide
theorem d_sw : double.signWeight = 9223372036854775808 := by decide
theorem d_inf : double.infRung = 9218868437227405312 := by decide
theorem d_lp : double.leastPlace = -1074 := by decide
theorem fmt32 : FloatKind.f32.format = single := rfl
theorem fmt64 : FloatKind.f64.format = double := rfl

/-- The least places of the two kinds lie 925 apart. -/
def wdn : Nat := 925
theorem wdn_eq : wdn = 925 := rfl

theorem widen_rung (r : Nat) (h : r < single.infRung) : ∃ R, R < double.infRung ∧ mg double R = mg single r * 2 ^ wdn := by
  rcases Nat.eq_zero_or_pos r with h0 | h0
  · subst h0
    exact ⟨0, by rw [d_inf]; omega, by rw [mg_small _ 0 (Nat.zero_le _), mg_small _ 0 (Nat.zero_le _), Nat.zero_mul]⟩
  have hcd : ∃ c d, 0 < c ∧ c < 2 ^ 24 ∧ d ≤ 253 ∧ mg single r = c * 2 ^ d := by
    by_cases hs : r < single.binade
    · rw [s_bin] at hs
      exact ⟨r, 0, h0, by omega, by omega, by rw [mg_small _ r (by rw [s_bin]; omega), Nat.pow_zero, Nat.mul_one]⟩
    · obtain ⟨d, c, h1, h2, rfl⟩ := rung_form single r (by omega)
      refine ⟨c, d, ?_, ?_, ?_, mg_form single d c h1 (by omega)⟩
      · rw [s_bin] at h1; omega
      · rw [s_bin] at h2; omega
      · rw [s_bin] at h1; rw [s_inf, s_bin] at h; omega
  obtain ⟨c, d, hc0, hc, hd, hm⟩ := hcd
  have hl : c.log2 < 24 := (Nat.log2_lt (by omega)).2 hc
  have hlo := Nat.log2_self_le (show c ≠ 0 by omega)
  have hhi : c < 2 ^ (c.log2 + 1) := Nat.lt_log2_self
  generalize c.log2 = l at *
  have hA : double.binade ≤ c * 2 ^ (52 - l) := by
    have : 2 ^ l * 2 ^ (52 - l) ≤ c * 2 ^ (52 - l) := Nat.mul_le_mul_right _ hlo
    rw [← Nat.pow_add, show l + (52 - l) = 52 by omega] at this
    rw [d_bin]; exact this
  have hB : c * 2 ^ (52 - l) ≤ 2 * double.binade := by
    have : c * 2 ^ (52 - l) ≤ 2 ^ (l + 1) * 2 ^ (52 - l) := Nat.mul_le_mul_right _ (Nat.le_of_lt hhi)
    rw [← Nat.pow_add, show l + 1 + (52 - l) = 53 by omega] at this
    rw [d_bin]; exact this
  refine ⟨(873 + d + l) * double.binade + c * 2 ^ (52 - l), ?_, ?_⟩
  · rw [d_bin] at hB ⊢
    rw [d_inf]; omega
  · rw [mg_form double _ _ hA hB, hm, Nat.mul_assoc, ← Nat.pow_add, Nat.mul_assoc, ← Nat.pow_add]
    congr 2; rw [wdn_eq]; omega

theorem isInf_word (f : Format) (s : Bool) {r : Nat} (h : r < f.infRung) : (f.read (f.word s r)).isInfinity = false := by
  have hf : fin f (f.word s r) := by unfold fin; rw [rg_word f s (Nat.le_of_lt h)]; exact h
  obtain ⟨m, j, h1, _⟩ := read_fin f _ hf
  rw [h1]; rfl

theorem wid_fin (x : Nat) (h : fin single x) : ∃ R, R < double.infRung ∧ mg double R = mg single (rg single x) * 2 ^ wdn ∧ floatToFloatBits .f32 x .f64 = some (double.word (sg single x) R) := by
  obtain ⟨R, hR, hm⟩ := widen_rung (rg single x) h
  refine ⟨R, hR, hm, ?_⟩
  obtain ⟨m, j, h1, h2⟩ := read_fin single x h
  have hr : rnd double m (single.leastPlace + (j : Int)) = R :=
    rnd_exact double m _ R (wdn + j) 0 (Nat.le_of_lt hR) (by rw [s_lp, d_lp, wdn_eq]; omega) (by rw [hm, ← h2, Nat.pow_zero, Nat.mul_one, Nat.pow_add, Nat.mul_comm (2 ^ wdn), Nat.mul_assoc])
  unfold floatToFloatBits
  rw [if_neg (by decide)]
  have e : FloatKind.decode .f32 x = .number (sg single x) m (single.leastPlace + (j : Int)) := h1
  simp only [e]
  have e2 : FloatKind.encode .f64 (.number (sg single x) m (single.leastPlace + (j : Int))) = double.word (sg single x) R := by
    show double.nearest _ _ _ = _
    rw [nearest_eq, hr]
  simp only [e2]
  rw [if_neg (by
    have := isInf_word double (sg single x) hR
    show ¬ (double.read _).isInfinity = true
    rw [this]; exact Bool.false_ne_true)]

theorem read_inf (f : Format) (x : Nat) (h : rg f x = f.infRung) (hb : f.binade ≤ f.infRung) : f.read x = .infinity (sg f x) := by
  unfold rg at h
  unfold Format.read
  dsimp only
  rw [h, if_neg (by omega), if_neg (by omega), if_pos rfl]; rfl

theorem wid_inf (x : Nat) (h : rg single x = single.infRung) : floatToFloatBits .f32 x .f64 = some (double.word (sg single x) double.infRung) := by
  unfold floatToFloatBits
  rw [if_neg (by decide)]
  have e : FloatKind.decode .f32 x = .infinity (sg single x) := read_inf single x h (by rw [s_bin, s_inf]; omega)
  simp only [e]; rfl

theorem nar_inf (x : Nat) (h : rg double x = double.infRung) : floatToFloatBits .f64 x .f32 = some (single.word (sg double x) single.infRung) := by
  unfold floatToFloatBits
  rw [if_neg (by decide)]
  have e : FloatKind.decode .f64 x = .infinity (sg double x) := read_inf double x h (by rw [d_bin, d_inf]; omega)
  simp only [e]; rfl

/-- Of a finite float64: the rung of the nearest float32; if it is no infinity, that is what the conversion gives. -/
theorem nar_fin (y : Nat) (h : fin double y) : ∃ r, Rd single (mg double (rg double y)) (2 ^ wdn) r ∧ (r < single.infRung → floatToFloatBits .f64 y .f32 = some (single.word (sg double y) r)) := by
  obtain ⟨m, j, h1, h2⟩ := read_fin double y h
  have h3 := rd_rnd single m (double.leastPlace + (j : Int)) j wdn (by rw [s_lp, d_lp, wdn_eq]; omega)
  rw [h2] at h3
  refine ⟨_, h3, fun hr => ?_⟩
  unfold floatToFloatBits
  rw [if_neg (by decide)]
  have e : FloatKind.decode .f64 y = .number (sg double y) m (double.leastPlace + (j : Int)) := h1
  simp only [e]
  have e2 : FloatKind.encode .f32 (.number (sg double y) m (double.leastPlace + (j : Int))) = single.word (sg double y) (rnd single m (double.leastPlace + (j : Int))) := by
    show single.nearest _ _ _ = _
    rw [nearest_eq]
  simp only [e2]
  rw [if_neg (by
    have := isInf_word single (sg double y) hr
    show ¬ (single.read _).isInfinity = true
    rw [this]; exact Bool.false_ne_true)]

theorem nanB_rg32 (x : Nat) : nanB .f32 x = decide (single.infRung < rg single x) := by
  rw [nanB_f32, s_inf]; unfold rg; rw [s_sw]
theorem nanB_rg64 (x : Nat) : nanB .f64 x = decide (double.infRung < rg double x) := by
  rw [nanB_f64, d_inf]; unfold rg; rw [d_sw]

theorem cv_some {k : FloatKind} {x y : Nat} (h : cv k x = some y) : nanB k x = false ∧ y = x := by
  unfold cv at h
  split at h
  · cases h
  · rename_i hn; cases h; exact ⟨by simpa using hn, rfl⟩
theorem cv_of {k : FloatKind} {x : Nat} (h : nanB k x = false) : cv k x = some x := by unfold cv; rw [if_neg (by rw [h]; exact Bool.false_ne_true)]
theorem cv_nan {k : FloatKind} {x : Nat} (h : nanB k x = true) : cv k x = none := by unfold cv; rw [if_pos h]

theorem fits_wid (x : Nat) : Fits .f32 .f64 (cv .f32 x) := by
  intro y hy
  obtain ⟨hn, rfl⟩ := cv_some hy
  rw [nanB_rg32] at hn
  rcases Nat.lt_trichotomy (rg single y) single.infRung with h | h | h
  · obtain ⟨R, _, _, h3⟩ := wid_fin y h; rw [h3]; rfl
  · rw [wid_inf y h]; rfl
  · simp at hn; omega

/-- WIDENED, A FLOAT32 IS ITS FLOAT64. -/
@[go_sem] theorem cv_wid (x : Nat) (w : World) : cv .f64 (conv .f32 .f64 x w) = conC .f32 .f64 (cv .f32 x) := cv_conv .f32 .f64 (by decide) x w (fits_wid x)

/-- A float32 widened and narrowed is itself; so with its sign struck off between. -/
theorem nar_wid (x : Nat) (neg : Bool) (h : fin single x) (R : Nat) (hR : R < double.infRung) (hm : mg double R = mg single (rg single x) * 2 ^ wdn) :
    floatToFloatBits .f64 (double.word neg R) .f32 = some (single.word neg (rg single x)) := by
  have hf : fin double (double.word neg R) := by unfold fin; rw [rg_word _ _ (Nat.le_of_lt hR)]; exact hR
  obtain ⟨r, h1, h2⟩ := nar_fin _ hf
  rw [rg_word _ _ (Nat.le_of_lt hR), hm] at h1
  rw [sg_word _ _ (Nat.le_of_lt hR)] at h2
  have e : r = rg single x := h1.exact (Nat.le_of_lt h) rfl
  subst e
  exact h2 h

def absC64 (a : CF) : CF := a.map fun x => x % 9223372036854775808
def absC32 (a : CF) : CF := a.map fun x => x % 2147483648

theorem abs_word64 (s : Bool) {r : Nat} (h : r ≤ double.infRung) : double.word s r % 9223372036854775808 = double.word false r := by
  have h1 := rg_word double s h
  unfold rg at h1
  rw [d_sw] at h1
  rw [h1]; rfl

/-- The absolute value by way of float64 is the one by way of the bits. -/
theorem abs_both (x : Nat) : conC .f64 .f32 (absC64 (conC .f32 .f64 (cv .f32 x))) = absC32 (cv .f32 x) := by
  by_cases hn : nanB .f32 x = true
  · rw [cv_nan hn]; rfl
  · have hn' : nanB .f32 x = false := by simpa using hn
    rw [cv_of hn']
    rw [nanB_rg32] at hn'
    simp only [conC, absC64, absC32, Option.bind_some, Option.map_some]
    have e : single.word false (rg single x) = x % 2147483648 := by unfold rg; rw [s_sw]; rfl
    rcases Nat.lt_trichotomy (rg single x) single.infRung with h | h | h
    · obtain ⟨R, hR, hm, h3⟩ := wid_fin x h
      rw [h3]
      simp only [Option.map_some, Option.bind_some]
      rw [abs_word64 _ (Nat.le_of_lt hR), nar_wid x false h R hR hm, e]
    · rw [wid_inf x h]
      simp only [Option.map_some, Option.bind_some]
      rw [abs_word64 _ (Nat.le_refl _), nar_inf _ (rg_word _ _ (Nat.le_refl _)), sg_word _ _ (Nat.le_refl _), ← e, h]
    · simp at hn'; omega

theorem absC64_cv (y : Nat) : cv .f64 (y % 9223372036854775808) = absC64 (cv .f64 y) := by
  unfold absC64 cv
  rw [nanB_f64, nanB_f64, Nat.mod_mod]
  split <;> rfl
@[go_sem] theorem absC32_cv (y : Nat) : cv .f32 (y % 2147483648) = absC32 (cv .f32 y) := by
  unfold absC32 cv
  rw [nanB_f32, nanB_f32, Nat.mod_mod]
  split <;> rfl

theorem fits_abs (x : Nat) : Fits .f64 .f32 (absC64 (conC .f32 .f64 (cv .f32 x))) := by
  intro y hy
  have h1 := abs_both x
  rw [hy] at h1
  by_cases hn : nanB .f32 x = true
  · rw [cv_nan hn] at hy; cases hy
  · have hn' : nanB .f32 x = false := by simpa using hn
    rw [cv_of hn'] at h1
    simp only [conC, absC32, Option.bind_some, Option.map_some] at h1
    rw [h1]; rfl

/-- Comparing a float with itself. -/
theorem compare_self_int (a : Int) : compare a a = .eq := by simp
theorem ordC_self (k : FloatKind) (x : Nat) (h : nanB k x = false) : k.format.order x x = some .eq := by
  have : ∀ f : Format, (f.read x).isNaN = false → f.order x x = some .eq := by
    intro f hf
    unfold Format.order
    cases hd : f.read x with
    | nan a b => rw [hd] at hf; simp [Datum.isNaN] at hf
    | infinity s => simp [Datum.order]
    | number s m i => simp [Datum.order]
  exact this _ h
theorem ordC_self_cv (k : FloatKind) (x : Nat) (h : ¬ ordC k (cv k x) (cv k x) = some .eq) : cv k x = none := by
  by_cases hn : nanB k x = true
  · exact cv_nan hn
  · exfalso; apply h
    have hn' : nanB k x = false := by simpa using hn
    rw [← order_cv]; exact ordC_self k x hn'
end Go.Fl
