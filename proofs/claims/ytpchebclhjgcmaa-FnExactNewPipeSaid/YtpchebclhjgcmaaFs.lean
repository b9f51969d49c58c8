/- The integer of a sample, by way of float32 and by way of float64. Plain arithmetic, no program. No condition. -/
import Derived.Test.YtpchebclhjgcmaaFi
namespace Go.Fl
open Ieee

/-- A finite number that is N whole units of 1. -/
def Whole (x : Nat) (N : Int) : Prop := fin double x ∧ sv double x = N * (2 ^ dlp : Nat)
theorem whole_order {x y : Nat} {N C : Int} (hx : Whole x N) (hy : Whole y C) : double.order x y = some (compare N C) := by
  rw [order_fin double x y hx.1 hy.1, hx.2, hy.2, compare_mul _ _ _ (Nat.two_pow_pos _)]
theorem fin_iff (f : Format) (x : Nat) : fin f x ↔ rg f x < f.infRung := Iff.rfl

/-- What is rounded is whole, or very great. -/
theorem intC_cases (way : Toward) (x : Nat) (h : fin double x) : ∃ n d : Nat, n * 2 ^ dlp = mg double (rg double x) * 2 ^ d ∧
    ∃ y, intC way (some x) = some y ∧ sg double y = sg double x ∧
      ((way.cut (sg double x) n d ≤ 2 ^ 53 ∧ fin double y ∧ mg double (rg double y) = way.cut (sg double x) n d * 2 ^ dlp) ∨ (2 ^ 53 < way.cut (sg double x) n d ∧ rg double y ≤ double.infRung ∧ 2 ^ 53 * 2 ^ dlp ≤ mg double (rg double y))) := by
  obtain ⟨n, d, h1, h2⟩ := integral_fin way double dlp d_lp' x h
  refine ⟨n, d, h2, double.write (.number (sg double x) (way.cut (sg double x) n d) 0), by simp only [intC, Option.map_some, h1], ?_⟩
  generalize way.cut (sg double x) n d = M
  have hr := rd_rnd double M 0 dlp 0 (by rw [d_lp']; omega)
  rw [Nat.pow_zero] at hr
  simp only [Format.write]
  rw [nearest_eq, sg_word _ _ hr.inf, rg_word _ _ hr.inf]
  refine ⟨rfl, ?_⟩
  have hb53 : 2 * double.binade = 2 ^ 53 := by decide
  by_cases hM : M ≤ 2 ^ 53
  · left
    obtain ⟨R, hR⟩ := rep double M dlp (by rw [hb53]; exact hM)
    have hlt : R < double.infRung := by
      rcases Nat.lt_or_ge R double.infRung with h | h
      · exact h
      · exfalso
        have h3 := mg_le double h
        rw [hR] at h3
        have h4 : M * 2 ^ dlp ≤ 2 ^ 53 * 2 ^ dlp := Nat.mul_le_mul_right _ hM
        have h5 : 2 ^ 53 * 2 ^ dlp < mg double double.infRung := by decide +kernel
        omega
    have e := hr.exact (Nat.le_of_lt hlt) (by rw [hR, Nat.mul_one])
    refine ⟨hM, ?_, ?_⟩
    · rw [fin_iff, rg_word _ _ hr.inf, e]; exact hlt
    · rw [e, hR]
  · right
    refine ⟨by omega, hr.inf, ?_⟩
    obtain ⟨R, hR⟩ := rep double (2 ^ 53) dlp (by rw [hb53]; exact Nat.le_refl _)
    have hlt : R ≤ double.infRung := by
      rcases Nat.le_total R double.infRung with h | h
      · exact h
      · exfalso
        have h3 := mg_le double h
        rw [hR] at h3
        have h5 : 2 ^ 53 * 2 ^ dlp < mg double double.infRung := by decide +kernel
        omega
    have h6 := hr.dn R hlt (by rw [hR, Nat.mul_one]; exact Nat.mul_le_mul_right _ (by omega))
    rw [← hR]; exact mg_le double h6

theorem whole_of {y : Nat} {M : Nat} (h : fin double y) (hm : mg double (rg double y) = M * 2 ^ dlp) : Whole y (if sg double y = true then -(M : Int) else M) := by
  refine ⟨h, ?_⟩
  unfold sv
  rw [hm]
  cases sg double y
  · rw [if_neg (by simp), if_neg (by simp)]; norm_cast
  · rw [if_pos rfl, if_pos rfl, Int.neg_mul]; norm_cast
theorem whole_toInt {y : Nat} {M : Nat} (h : fin double y) (hm : mg double (rg double y) = M * 2 ^ dlp) : (double.read y).toInt .zero = some (if sg double y = true then -(M : Int) else M) := by
  rw [toInt_fin double dlp d_lp' y h, hm, Nat.mul_div_cancel _ (Nat.two_pow_pos _)]

/-- Beyond a whole number that stands for C: greater, or less. -/
theorem order_inf_right {x y : Nat} (hx : rg double x = double.infRung) (hy : fin double y) : double.order x y = some (if sg double x = true then .lt else .gt) := by
  have h1 := read_inf double x hx (by rw [d_bin, d_inf]; omega)
  obtain ⟨m, j, h2, _⟩ := read_fin double y hy
  unfold Format.order
  rw [h1, h2]; rfl
theorem great_order {y c : Nat} {C : Int} {B : Nat} (h : rg double y ≤ double.infRung) (hB : B * 2 ^ dlp ≤ mg double (rg double y)) (hc : Whole c C) (h1 : C < B) (h2 : -(B : Int) < C) :
    double.order y c = some (if sg double y = true then .lt else .gt) := by
  rcases Nat.lt_or_ge (rg double y) double.infRung with hf | hf
  · rw [order_fin double y c hf hc.1, hc.2]
    congr 1
    have hp : (0 : Int) < (2 ^ dlp : Nat) := by have := Nat.two_pow_pos dlp; omega
    have hB' : (B : Int) * (2 ^ dlp : Nat) ≤ mg double (rg double y) := by exact_mod_cast hB
    unfold sv
    cases sg double y
    · rw [if_neg (by simp), if_neg (by simp)]
      have : C * (2 ^ dlp : Nat) < (B : Int) * (2 ^ dlp : Nat) := Int.mul_lt_mul_of_pos_right h1 hp
      simp only [compare, compareOfLessAndEq]
      rw [if_neg (by omega), if_neg (by omega)]
    · rw [if_pos rfl, if_pos rfl]
      have : -(B : Int) * (2 ^ dlp : Nat) < C * (2 ^ dlp : Nat) := Int.mul_lt_mul_of_pos_right h2 hp
      rw [Int.neg_mul] at this
      simp only [compare, compareOfLessAndEq]
      rw [if_pos (by omega)]
  · exact order_inf_right (by omega) hc.1

def k32767 : Nat := 4674736138332667904
def kN32768 : Nat := 13898108450065350656
def k32768d : Nat := 4674736413210574848
def k32768s : Nat := 1191182336
theorem w32767 : Whole k32767 32767 := by
  refine ⟨?_, ?_⟩
  · rw [fin_iff]; decide +kernel
  · decide +kernel
theorem wN32768 : Whole kN32768 (-32768) := by
  refine ⟨?_, ?_⟩
  · rw [fin_iff]; decide +kernel
  · decide +kernel

/-- The integer of a rounded number. -/
def shortI (c : CF) : Int :=
  match c with
  | none => 0
  | some x => if (ordC .f64 (some x) (cv .f64 k32767) == some .gt) = true then 32767 else if (ordC .f64 (some x) (cv .f64 kN32768) == some .lt) = true then -32768 else (floatToIntVal .f64 x .i16).getD 0

theorem cv_k32767 : cv .f64 k32767 = some k32767 := cv_of (notNaN_fin double _ w32767.1)
theorem cv_kN32768 : cv .f64 kN32768 = some kN32768 := cv_of (notNaN_fin double _ wN32768.1)
theorem ordC_some (x y : Nat) : ordC .f64 (some x) (some y) = double.order x y := rfl

theorem intC_inf (way : Toward) (y : Nat) (h : rg double y = double.infRung) : ∃ x, intC way (some y) = some x ∧ rg double x = double.infRung ∧ sg double x = sg double y := by
  have h1 := read_inf double y h (by rw [d_bin, d_inf]; omega)
  refine ⟨double.word (sg double y) double.infRung, by simp only [intC, Option.map_some, h1]; rfl, rg_word _ _ (Nat.le_refl _), sg_word _ _ (Nat.le_refl _)⟩

theorem cv_cases64 {c : CF} {y : Nat} (_ : c = some y) (hc : nanB .f64 y = false) : rg double y < double.infRung ∨ rg double y = double.infRung := by
  rw [nanB_rg64] at hc
  simp at hc; omega

/-- Within the bounds the conversion gives a number. -/
theorem short_in {y x : Nat} (hy : nanB .f64 y = false) (hx : intC .even (some y) = some x) (h1 : ¬ ordC .f64 (some x) (cv .f64 k32767) = some .gt) (h2 : ¬ ordC .f64 (some x) (cv .f64 kN32768) = some .lt) : ∃ n, floatToIntVal .f64 x .i16 = some n := by
  rw [cv_k32767, ordC_some] at h1
  rw [cv_kN32768, ordC_some] at h2
  rcases cv_cases64 (c := some y) rfl hy with hf | hf
  · obtain ⟨n, d, _, z, hz, hs, hc⟩ := intC_cases .even y hf
    rw [hz] at hx
    cases hx
    rcases hc with ⟨hM, hfin, hm⟩ | ⟨hM, hr, hm⟩
    · generalize Toward.even.cut (sg double y) n d = M at *
      have hw := whole_of hfin hm
      have ht := whole_toInt hfin hm
      rw [whole_order hw w32767] at h1
      rw [whole_order hw wN32768] at h2
      have hin : IntKind.i16.min ≤ (if sg double x = true then -(M : Int) else (M : Int)) ∧ (if sg double x = true then -(M : Int) else (M : Int)) ≤ IntKind.i16.max → ∃ n, floatToIntVal .f64 x .i16 = some n := fun hb => ⟨_, by
        unfold floatToIntVal FloatKind.decode
        rw [fmt64, ht]; dsimp only; rw [if_pos hb]⟩
      apply hin
      clear hin ht
      generalize (if sg double x = true then -(M : Int) else (M : Int)) = N at *
      have g1 : ¬ 32767 < N := fun h => h1 (by
        simp only [compare, compareOfLessAndEq]
        rw [if_neg (by omega), if_neg (by omega)])
      have g2 : ¬ N < -32768 := fun h => h2 (by
        simp only [compare, compareOfLessAndEq]
        rw [if_pos (by omega)])
      have e1 : IntKind.i16.min = -32768 := by decide
      have e2 : IntKind.i16.max = 32767 := by decide
      rw [e1, e2]; omega
    · exfalso
      have g1 := great_order hr hm w32767 (by decide) (by decide)
      have g2 := great_order hr hm wN32768 (by decide) (by decide)
      cases hsg : sg double x
      · rw [hsg] at g1; exact h1 g1
      · rw [hsg] at g2; exact h2 g2
  · exfalso
    obtain ⟨z, hz, hr, hs⟩ := intC_inf .even y hf
    rw [hz] at hx
    cases hx
    have g1 := order_inf_right hr w32767.1
    have g2 := order_inf_right hr wN32768.1
    cases hsg : sg double x
    · rw [hsg] at g1; exact h1 g1
    · rw [hsg] at g2; exact h2 g2

/-- A very great number gives a bound. -/
theorem short_great {y : Nat} (hr : rg double y ≤ double.infRung) (hm : 2 ^ 16 * 2 ^ dlp ≤ mg double (rg double y)) : shortI (intC .even (some y)) = if sg double y = true then -32768 else 32767 := by
  have key : ∀ z, intC .even (some y) = some z → sg double z = sg double y → rg double z ≤ double.infRung → 2 ^ 16 * 2 ^ dlp ≤ mg double (rg double z) → shortI (intC .even (some y)) = if sg double y = true then -32768 else 32767 := by
    intro z hz hs hzr hzm
    rw [hz]
    have g1 := great_order hzr hzm w32767 (by decide) (by decide)
    have g2 := great_order hzr hzm wN32768 (by decide) (by decide)
    unfold shortI
    dsimp only
    rw [cv_k32767, cv_kN32768, ordC_some, ordC_some, g1, g2, hs]
    cases sg double y <;> rfl
  rcases Nat.lt_or_ge (rg double y) double.infRung with hf | hf
  · obtain ⟨n, d, hnd, z, hz, hs, hc⟩ := intC_cases .even y hf
    have hcut : 2 ^ 16 ≤ Toward.even.cut (sg double y) n d := by
      refine le_cut _ _ _ _ ?_
      have h3 : 2 ^ 16 * 2 ^ d * 2 ^ dlp ≤ n * 2 ^ dlp := by
        rw [hnd, Nat.mul_assoc, Nat.mul_comm (2 ^ d), ← Nat.mul_assoc]
        exact Nat.mul_le_mul_right _ hm
      exact Nat.le_of_mul_le_mul_right h3 (Nat.two_pow_pos _)
    rcases hc with ⟨hM, hfin, hzm⟩ | ⟨hM, hzr, hzm⟩
    · refine key z hz hs (Nat.le_of_lt hfin) ?_
      rw [hzm]; exact Nat.mul_le_mul_right _ hcut
    · refine key z hz hs hzr (Nat.le_trans (Nat.mul_le_mul_right _ ?_) hzm)
      decide
  · obtain ⟨z, hz, hzr, hs⟩ := intC_inf .even y (by omega)
    refine key z hz hs (Nat.le_of_eq hzr) ?_
    rw [hzr]
    have h5 : 2 ^ 16 * 2 ^ dlp ≤ mg double double.infRung := by decide +kernel
    exact h5

theorem k32768s_mg : mg single (rg single k32768s) = 2 ^ 15 * 2 ^ slp := by decide +kernel
theorem k32768d_mg : mg double (rg double k32768d) = 2 ^ 15 * 2 ^ dlp := by decide +kernel
theorem k32768s_fin : fin single k32768s := by rw [fin_iff]; decide +kernel
theorem k32768d_fin : fin double k32768d := by rw [fin_iff]; decide +kernel
theorem k32768s_sg : sg single k32768s = false := by decide +kernel
theorem k32768d_sg : sg double k32768d = false := by decide +kernel

theorem mg_cd (f : Format) (r : Nat) : ∃ c d, c ≤ 2 * f.binade ∧ mg f r = c * 2 ^ d := by
  by_cases h : r < f.binade
  · exact ⟨r, 0, by omega, by rw [mg_small f r (by omega), Nat.pow_zero, Nat.mul_one]⟩
  · obtain ⟨d, c, h1, h2, rfl⟩ := rung_form f r (by omega)
    exact ⟨c, d, by omega, mg_form f d c h1 (by omega)⟩

theorem mul_inf_num (f : Format) (x y : Nat) (hb : f.binade ≤ f.infRung) (hx : rg f x = f.infRung) (hy : fin f y) (hy0 : mg f (rg f y) ≠ 0) (hs : sg f y = false) : f.mul x y = some (f.word (sg f x) f.infRung) := by
  have h1 := read_inf f x hx hb
  obtain ⟨m, j, h2, h3⟩ := read_fin f y hy
  have hm : m ≠ 0 := fun h => hy0 (by rw [← h3, h, Nat.zero_mul])
  unfold Format.mul
  rw [h1, h2, hs]
  simp only [Datum.product, if_neg hm]
  simp [Format.write]

/-- BOTH WAYS GIVE ONE INTEGER. -/
theorem short_same (a : Nat) : shortI (intC .even (cop .mul .f64 (conC .f32 .f64 (cv .f32 a)) (cv .f64 k32768d))) = shortI (intC .even (conC .f32 .f64 (cop .mul .f32 (cv .f32 a) (cv .f32 k32768s)))) := by
  by_cases hn : nanB .f32 a = true
  · rw [cv_nan hn]; rfl
  have hn' : nanB .f32 a = false := by simpa using hn
  rw [cv_of hn', cv_of (k := .f64) (notNaN_fin double _ k32768d_fin), cv_of (k := .f32) (notNaN_fin single _ k32768s_fin)]
  have e1 : cop .mul .f32 (some a) (some k32768s) = single.mul a k32768s := rfl
  have e2 : ∀ y, cop .mul .f64 (some y) (some k32768d) = double.mul y k32768d := fun _ => rfl
  rw [e1]
  rw [nanB_rg32] at hn'
  have hle : rg single a ≤ single.infRung := by simp at hn'; omega
  rcases Nat.lt_or_ge (rg single a) single.infRung with hf | hf
  · -- finite
    obtain ⟨A2, hA2, hA2m, hwa⟩ := wid_fin a hf
    have ea : conC .f32 .f64 (some a) = some (double.word (sg single a) A2) := hwa
    rw [ea, e2]
    have hfA : fin double (double.word (sg single a) A2) := by rw [fin_iff, rg_word _ _ (Nat.le_of_lt hA2)]; exact hA2
    obtain ⟨x, hx, hxr, hxs⟩ := mul_fin double dlp d_lp' (double.word (sg single a) A2) k32768d hfA k32768d_fin
    obtain ⟨r, hr, hrr, hrs⟩ := mul_fin single slp s_lp' a k32768s hf k32768s_fin
    rw [hx, hr]
    rw [rg_word _ _ (Nat.le_of_lt hA2), hA2m, k32768d_mg] at hxr
    rw [sg_word _ _ (Nat.le_of_lt hA2), k32768d_sg, Bool.xor_false] at hxs
    rw [k32768s_mg] at hrr
    rw [k32768s_sg, Bool.xor_false] at hrs
    obtain ⟨c, d, hc, hm⟩ := mg_cd single (rg single a)
    obtain ⟨R, hR⟩ := rep single c (d + 15) hc
    have hR' : mg single R = mg single (rg single a) * 2 ^ 15 := by rw [hR, hm, Nat.pow_add, Nat.mul_assoc]
    have eN : mg single (rg single a) * (2 ^ 15 * 2 ^ slp) = mg single R * 2 ^ slp := by rw [hR', Nat.mul_assoc]
    rcases Nat.lt_or_ge R single.infRung with hRf | hRf
    · -- no overflow: the same bits
      have er := hrr.exact (Nat.le_of_lt hRf) eN
      have hfr : fin single r := by rw [fin_iff, er]; exact hRf
      obtain ⟨R2, hR2, hR2m, hwr⟩ := wid_fin r hfr
      have ex : rg double x = R2 := hxr.exact (Nat.le_of_lt hR2) (by rw [hR2m, er, hR']; simp only [Nat.mul_assoc, Nat.mul_left_comm, Nat.mul_comm])
      have exx : x = double.word (sg single a) R2 := by
        rw [← word_of double x (by have := double.mul_lt hx; exact this), hxs, ex]
      have ewr : conC .f32 .f64 (some r) = some (double.word (sg single r) R2) := hwr
      rw [ewr, exx, hrs]
    · -- overflow: both very great
      have er : rg single r = single.infRung := Nat.le_antisymm hrr.inf (hrr.dn _ (Nat.le_refl _) (by rw [eN]; exact Nat.mul_le_mul_right _ (mg_le single hRf)))
      have ewr : conC .f32 .f64 (some r) = some (double.word (sg single r) double.infRung) := wid_inf r er
      rw [ewr, short_great (y := double.word (sg single r) double.infRung) (by rw [rg_word _ _ (Nat.le_refl _)]; exact Nat.le_refl _) (by
        rw [rg_word _ _ (Nat.le_refl _)]
        have h5 : 2 ^ 16 * 2 ^ dlp ≤ mg double double.infRung := by decide +kernel
        exact h5), sg_word _ _ (Nat.le_refl _), hrs]
      rw [short_great (y := x) hxr.inf ?_, hxs]
      obtain ⟨Q, hQ⟩ := rep double 1 (16 + dlp) (by decide)
      rw [Nat.one_mul, Nat.pow_add] at hQ
      have hQi : Q ≤ double.infRung := by
        rcases Nat.le_total Q double.infRung with h | h
        · exact h
        · exfalso
          have h3 := mg_le double h
          rw [hQ] at h3
          have h5 : 2 ^ 16 * 2 ^ dlp < mg double double.infRung := by decide +kernel
          omega
      have hge := hxr.dn Q hQi (by
        rw [hQ]
        have h6 : mg single single.infRung ≤ mg single R := mg_le single hRf
        rw [hR'] at h6
        have h7 : 2 ^ 16 * 2 ^ dlp ≤ mg single single.infRung * 2 ^ wdn := by decide +kernel
        have h8 : mg single single.infRung * 2 ^ wdn ≤ mg single (rg single a) * 2 ^ 15 * 2 ^ wdn := Nat.mul_le_mul_right _ h6
        have h9 : mg single (rg single a) * 2 ^ wdn * (2 ^ 15 * 2 ^ dlp) = mg single (rg single a) * 2 ^ 15 * 2 ^ wdn * 2 ^ dlp := by simp only [Nat.mul_assoc, Nat.mul_left_comm, Nat.mul_comm]
        rw [h9]
        exact Nat.mul_le_mul_right _ (Nat.le_trans h7 h8))
      rw [← hQ]; exact mg_le double hge
  · -- infinite
    have hf' : rg single a = single.infRung := by omega
    have ea : conC .f32 .f64 (some a) = some (double.word (sg single a) double.infRung) := wid_inf a hf'
    rw [ea, e2, mul_inf_num single a k32768s (by rw [s_bin, s_inf]; omega) hf' k32768s_fin (by rw [k32768s_mg]; exact Nat.ne_of_gt (Nat.mul_pos (by decide) (Nat.two_pow_pos _))) k32768s_sg]
    rw [mul_inf_num double (double.word (sg single a) double.infRung) k32768d (by rw [d_bin, d_inf]; omega) (rg_word _ _ (Nat.le_refl _)) k32768d_fin (by rw [k32768d_mg]; exact Nat.ne_of_gt (Nat.mul_pos (by decide) (Nat.two_pow_pos _))) k32768d_sg]
    have ewr : conC .f32 .f64 (some (single.word (sg single a) single.infRung)) = some (double.word (sg single (single.word (sg single a) single.infRung)) double.infRung) := wid_inf _ (rg_word _ _ (Nat.le_refl _))
    rw [ewr, sg_word _ _ (Nat.le_refl _), sg_word _ _ (Nat.le_refl _)]
end Go.Fl
