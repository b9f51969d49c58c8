/- Bounds by powers of two of float64 formulas. No condition. -/
import Derived.Test.YtpchebclhjgcmaaFs
namespace Go.Fl
open Ieee

theorem pow_rung (E : Nat) (h1 : 52 ≤ E) (h2 : E ≤ dlp + 1023) : ∃ R, R < double.infRung ∧ mg double R = 2 ^ E := by
  refine ⟨(E - 52) * double.binade + double.binade, ?_, ?_⟩
  · rw [d_bin, d_inf]; unfold dlp at h2; omega
  · rw [mg_form double _ _ (Nat.le_refl _) (by have := binade_pos double; omega)]
    rw [show double.binade = 2 ^ 52 by decide, ← Nat.pow_add]
    congr 1; omega
theorem pow_rung32 (E : Nat) (h1 : 23 ≤ E) (h2 : E ≤ slp + 126) : ∃ R, R < single.infRung ∧ mg single R = 2 ^ E := by
  refine ⟨(E - 23) * single.binade + single.binade, ?_, ?_⟩
  · rw [s_bin, s_inf]; unfold slp at h2; omega
  · rw [mg_form single _ _ (Nat.le_refl _) (by have := binade_pos single; omega)]
    rw [show single.binade = 2 ^ 23 by decide, ← Nat.pow_add]
    congr 1; omega

/-- A finite float64, not above 2 ^ E units. -/
def Bd (c : CF) (E : Nat) : Prop := ∃ x, c = some x ∧ fin double x ∧ mg double (rg double x) ≤ 2 ^ E
theorem Bd.mono {c : CF} {E F : Nat} (h : Bd c E) (hE : E ≤ F) : Bd c F := by
  obtain ⟨x, h1, h2, h3⟩ := h
  exact ⟨x, h1, h2, Nat.le_trans h3 (Nat.pow_le_pow_right (by decide) hE)⟩
theorem rung_le {N D r E : Nat} (h : Rd double N D r) (h1 : 52 ≤ E) (h2 : E ≤ dlp + 1023) (hN : N ≤ 2 ^ E * D) : r < double.infRung ∧ mg double r ≤ 2 ^ E := by
  obtain ⟨R, hR, hm⟩ := pow_rung E h1 h2
  have h3 := h.up R (by rw [hm]; exact hN)
  exact ⟨by omega, by rw [← hm]; exact mg_le double h3⟩
theorem abs_sv (x : Nat) : (sv double x).natAbs = mg double (rg double x) := by
  unfold sv; split
  · rw [Int.natAbs_neg]; rfl
  · rfl
theorem Bd.mul {a b : CF} {E F G : Nat} (ha : Bd a E) (hb : Bd b F) (h : E + F ≤ G + dlp) (h1 : 52 ≤ G) (h2 : G ≤ dlp + 1023) : Bd (cop .mul .f64 a b) G := by
  obtain ⟨x, rfl, hx, mx⟩ := ha
  obtain ⟨y, rfl, hy, my⟩ := hb
  obtain ⟨r, hr, hrd, _⟩ := mul_fin double dlp d_lp' x y hx hy
  have := rung_le hrd h1 h2 (by
    refine Nat.le_trans (Nat.mul_le_mul mx my) ?_
    rw [← Nat.pow_add, ← Nat.pow_add]; exact Nat.pow_le_pow_right (by decide) h)
  exact ⟨r, hr, this.1, this.2⟩
theorem Bd.sub {a b : CF} {E G : Nat} (ha : Bd a E) (hb : Bd b E) (h : E + 1 ≤ G) (h1 : 52 ≤ G) (h2 : G ≤ dlp + 1023) : Bd (cop .sub .f64 a b) G := by
  obtain ⟨x, rfl, hx, mx⟩ := ha
  obtain ⟨y, rfl, hy, my⟩ := hb
  obtain ⟨r, hr, hrd, _⟩ := sub_fin double x y hx hy
  have := rung_le hrd h1 h2 (by
    refine Nat.le_trans (Int.natAbs_sub_le _ _) ?_
    rw [abs_sv, abs_sv, Nat.mul_one]
    refine Nat.le_trans (Nat.add_le_add mx my) ?_
    rw [← Nat.two_mul, ← Nat.pow_succ']; exact Nat.pow_le_pow_right (by decide) h)
  exact ⟨r, hr, this.1, this.2⟩

theorem div_up (x y : Nat) (hx : fin double x) (hy : fin double y) (h1 : 2 ^ dlp ≤ mg double (rg double y)) : ∃ r, double.div x y = some r ∧ rg double r ≤ double.infRung ∧ ∀ R, 2 * mg double (rg double x) ≤ mg double R → rg double r ≤ R := by
  obtain ⟨m, i, e1, e2⟩ := read_fin double x hx
  obtain ⟨n, j, e3, e4⟩ := read_fin double y hy
  have hn : n ≠ 0 := by
    intro h; subst h; rw [Nat.zero_mul] at e4; rw [← e4] at h1
    have := Nat.two_pow_pos dlp; omega
  unfold Format.div
  rw [e1, e3]
  simp only [Datum.quotient, if_neg hn, Option.map_some]
  generalize hm : (double.fractionBits + 2 + n.log2 - m.log2) = more
  generalize hd : m <<< more = D
  rw [Nat.shiftLeft_eq] at hd
  generalize hM : 2 * (D / n) + (D % n != 0).toNat = M
  refine ⟨_, rfl, ?_⟩
  simp only [Format.write]
  rw [nearest_eq, rg_word double _ (rnd_le_inf _ _ _)]
  refine ⟨rnd_le_inf _ _ _, fun R hR => ?_⟩
  refine rnd_le double M _ R (i + dlp) (j + more + 1) ?_ ?_
  · rw [d_lp']; omega
  · -- M * n ≤ 2 * D + n ≤ m * 2 ^ (more + 2)
    have hMn : M * n ≤ 2 * D + n := by
      have hb : (D % n != 0).toNat ≤ 1 := by cases (D % n != 0) <;> simp
      have h2 := Nat.div_mul_le_self D n
      calc M * n = 2 * (D / n * n) + (D % n != 0).toNat * n := by rw [← hM, Nat.add_mul, Nat.mul_assoc]
        _ ≤ 2 * D + n := by
          have h3 := Nat.mul_le_mul_right n hb
          omega
    have hnm : m ≠ 0 → n ≤ m * 2 ^ (more + 1) := by
      intro hm0
      have l1 := Nat.log2_self_le hm0
      have l2 : n < 2 ^ (n.log2 + 1) := Nat.lt_log2_self
      by_cases hc : m.log2 ≤ double.fractionBits + 2 + n.log2
      · have l3 : 2 ^ m.log2 * 2 ^ (more + 1) ≤ m * 2 ^ (more + 1) := Nat.mul_le_mul_right _ l1
        rw [← Nat.pow_add] at l3
        have l4 : 2 ^ (n.log2 + 1) ≤ 2 ^ (m.log2 + (more + 1)) := Nat.pow_le_pow_right (by decide) (by omega)
        omega
      · have l4 : 2 ^ (n.log2 + 1) ≤ 2 ^ m.log2 := Nat.pow_le_pow_right (by decide) (by omega)
        have l5 : m * 1 ≤ m * 2 ^ (more + 1) := Nat.mul_le_mul_left _ (Nat.two_pow_pos _)
        omega
    have hMm : M * n ≤ m * 2 ^ (more + 2) := by
      by_cases hm0 : m = 0
      · subst hm0
        rw [Nat.zero_mul] at hd; subst hd
        rw [← hM]; simp
      · have h2 := hnm hm0
        have h3 : m * 2 ^ (more + 2) = 2 * (m * 2 ^ more) + m * 2 ^ (more + 1) := by
          rw [Nat.pow_succ, Nat.pow_succ]
          generalize 2 ^ more = z
          have e1 : m * (z * 2) = 2 * (m * z) := by rw [Nat.mul_comm z 2, Nat.mul_left_comm]
          have e2 : m * (z * 2 * 2) = 4 * (m * z) := by rw [Nat.mul_assoc z 2 2, Nat.mul_comm z (2 * 2), Nat.mul_left_comm]
          omega
        rw [h3, hd]; omega
    have s1 : M * 2 ^ dlp ≤ M * (n * 2 ^ j) := Nat.mul_le_mul_left _ (by rw [e4]; exact h1)
    have s2 : M * (n * 2 ^ j) ≤ m * 2 ^ (more + 2) * 2 ^ j := by rw [← Nat.mul_assoc]; exact Nat.mul_le_mul_right _ hMm
    have s3 := Nat.mul_le_mul_right (2 ^ i) (Nat.le_trans s1 s2)
    calc M * 2 ^ (i + dlp) = M * 2 ^ dlp * 2 ^ i := by rw [Nat.pow_add, Nat.mul_assoc, Nat.mul_comm (2 ^ dlp)]
      _ ≤ m * 2 ^ (more + 2) * 2 ^ j * 2 ^ i := s3
      _ = 2 * (m * 2 ^ i) * 2 ^ (j + more + 1) := by
        rw [show more + 2 = (more + 1) + 1 by omega, show j + more + 1 = j + (more + 1) by omega, Nat.pow_succ' (n := more + 1), Nat.pow_add 2 j (more + 1)]
        generalize 2 ^ (more + 1) = z
        generalize 2 ^ j = y
        generalize 2 ^ i = x
        simp only [Nat.mul_assoc, Nat.mul_left_comm, Nat.mul_comm]
      _ ≤ mg double R * 2 ^ (j + more + 1) := Nat.mul_le_mul_right _ (by rw [e2]; exact hR)

theorem Bd.quo {a : CF} {E G y : Nat} (ha : Bd a E) (hy : fin double y) (h3 : 2 ^ dlp ≤ mg double (rg double y)) (h : E + 1 ≤ G) (h1 : 52 ≤ G) (h2 : G ≤ dlp + 1023) : Bd (cop .quo .f64 a (some y)) G := by
  obtain ⟨x, rfl, hx, mx⟩ := ha
  obtain ⟨r, hr, _, hrd⟩ := div_up x y hx hy h3
  obtain ⟨R, hR, hm⟩ := pow_rung G h1 h2
  have h4 := hrd R (by
    rw [hm]
    refine Nat.le_trans (Nat.mul_le_mul_left 2 mx) ?_
    rw [← Nat.pow_succ']; exact Nat.pow_le_pow_right (by decide) h)
  exact ⟨r, hr, by unfold fin; omega, by rw [← hm]; exact mg_le double h4⟩

theorem Bd.fits {c : CF} {E : Nat} (h : Bd c E) (hE : E ≤ dlp + 126) : Fits .f64 .f32 c := by
  obtain ⟨y, rfl, hy, my⟩ := h
  intro z hz; cases hz
  obtain ⟨r, hr, hc⟩ := nar_fin y hy
  obtain ⟨R, hR, hm⟩ := pow_rung32 (slp + 126) (by decide) (Nat.le_refl _)
  have h4 := hr.up R (by
    rw [hm, ← Nat.pow_add]
    refine Nat.le_trans my (Nat.pow_le_pow_right (by decide) ?_)
    rw [wdn_eq]; unfold slp; unfold dlp at hE; omega)
  rw [hc (by omega)]; rfl

/-! ### The floor -/
theorem floor_near (x : Nat) (hx : fin double x) : ∃ g, intC .down (some x) = some g ∧ fin double g ∧ (sv double x - sv double g).natAbs ≤ 2 ^ dlp := by
  obtain ⟨n, d, h1, h2⟩ := integral_fin .down double dlp d_lp' x hx
  rw [cut_down] at h1
  have hdm := Nat.div_add_mod n (2 ^ d)
  have hv := Nat.mod_lt n (Nat.two_pow_pos d)
  generalize hb : (sg double x && n % 2 ^ d != 0).toNat = b at h1
  have hb1 : b ≤ 1 := by rw [← hb]; cases (sg double x && n % 2 ^ d != 0) <;> simp
  have hb0 : n % 2 ^ d = 0 → b = 0 := by intro h; rw [← hb, h]; simp
  clear hb
  generalize n / 2 ^ d = u at *
  generalize hvv : n % 2 ^ d = v at *
  generalize hM : mg double (rg double x) = M at *
  have hd := Nat.two_pow_pos d
  have hL := Nat.two_pow_pos dlp
  have lo : u * 2 ^ dlp ≤ M := by
    refine Nat.le_of_mul_le_mul_right ?_ hd
    rw [← h2, Nat.mul_right_comm]
    refine Nat.mul_le_mul_right _ ?_
    rw [Nat.mul_comm]; omega
  have hi : M ≤ (u + 1) * 2 ^ dlp := by
    refine Nat.le_of_mul_le_mul_right ?_ hd
    rw [← h2, Nat.mul_right_comm]
    refine Nat.mul_le_mul_right _ ?_
    rw [Nat.add_mul, Nat.mul_comm u]; omega
  have hR : ∃ R, R < double.infRung ∧ mg double R = (u + b) * 2 ^ dlp := by
    by_cases h0 : v = 0
    · refine ⟨rg double x, hx, ?_⟩
      rw [hb0 h0, Nat.add_zero, hM]
      refine Nat.eq_of_mul_eq_mul_right hd ?_
      rw [← h2, Nat.mul_right_comm]
      refine congrArg (· * 2 ^ dlp) ?_
      rw [Nat.mul_comm]; omega
    · have hbin : double.binade = 2 ^ 52 := by decide
      have hs : M < 2 ^ 53 * 2 ^ dlp := by
        rcases Nat.lt_or_ge M (2 ^ 53 * 2 ^ dlp) with h | h
        · exact h
        · exfalso
          rcases Nat.lt_or_ge (rg double x) double.binade with h3 | h3
          · rw [mg_small double _ (by omega)] at hM
            have : 2 ^ 53 * 1 ≤ 2 ^ 53 * 2 ^ dlp := Nat.mul_le_mul_left _ hL
            rw [hbin] at h3
            omega
          · obtain ⟨e, c, hc1, hc2, hr⟩ := rung_form double _ h3
            rw [hr, mg_form double e c hc1 (by omega)] at hM
            have he : dlp ≤ e := by
              rcases Nat.lt_or_ge e dlp with h4 | h4
              · exfalso
                have h5 : c * 2 ^ e < 2 ^ 53 * 2 ^ dlp := by
                  have h6 : c * 2 ^ e ≤ 2 ^ 53 * 2 ^ e := Nat.mul_le_mul_right _ (by rw [hbin] at hc2; omega)
                  have h7 : 2 ^ e < 2 ^ dlp := Nat.pow_lt_pow_right (by decide) h4
                  have h8 : 2 ^ 53 * 2 ^ e < 2 ^ 53 * 2 ^ dlp := Nat.mul_lt_mul_of_pos_left h7 (by decide)
                  omega
                omega
              · exact h4
            apply h0
            have e1 : n = c * 2 ^ (e - dlp) * 2 ^ d := by
              refine Nat.eq_of_mul_eq_mul_right hL ?_
              rw [h2, ← hM, show 2 ^ e = 2 ^ (e - dlp) * 2 ^ dlp by rw [← Nat.pow_add, Nat.sub_add_cancel he]]
              simp only [Nat.mul_left_comm, Nat.mul_comm]
            rw [← hvv, e1]; exact Nat.mul_mod_left _ _
      have hu53 : u < 2 ^ 53 := by
        rcases Nat.lt_or_ge u (2 ^ 53) with h | h
        · exact h
        · have := Nat.mul_le_mul_right (2 ^ dlp) h; omega
      obtain ⟨R, hR⟩ := rep double (u + b) dlp (by rw [hbin]; omega)
      obtain ⟨R', hR', hm'⟩ := pow_rung (53 + dlp) (by omega) (by omega)
      refine ⟨R, ?_, hR⟩
      have : R ≤ R' := (mg_le_iff double R R').1 (by rw [hR, hm', Nat.pow_add]; exact Nat.mul_le_mul_right _ (by omega))
      omega
  obtain ⟨R, hRi, hRm⟩ := hR
  have hnum : Num double (.number (sg double x) (u + b) 0) (sg double x) (if sg double x = true then -(((u + b) * 2 ^ dlp : Nat) : Int) else (((u + b) * 2 ^ dlp : Nat) : Int)) :=
    ⟨u + b, dlp, by rw [d_lp', Int.add_left_neg], rfl⟩
  obtain ⟨hrd, hsg⟩ := rd_write hnum
  have hrg : rg double (double.write (.number (sg double x) (u + b) 0)) = R := by
    refine hrd.exact (Nat.le_of_lt hRi) ?_
    rw [hRm, Nat.mul_one]
    split
    · rw [Int.natAbs_neg]; rfl
    · rfl
  refine ⟨double.write (.number (sg double x) (u + b) 0), ?_, ?_, ?_⟩
  · unfold intC; rw [Option.map_some, h1]
  · unfold fin; rw [hrg]; exact hRi
  · unfold sv
    rw [hsg, hrg, hRm, hM, Nat.add_mul]
    rw [Nat.add_mul] at hi
    have hbL : b * 2 ^ dlp ≤ 1 * 2 ^ dlp := Nat.mul_le_mul_right _ hb1
    generalize u * 2 ^ dlp = p at *
    generalize b * 2 ^ dlp = q at *
    generalize 2 ^ dlp = r at *
    split <;> omega
/-- The part behind the point. -/
theorem Bd.frac {x : Nat} (hx : fin double x) : Bd (cop .sub .f64 (some x) (intC .down (some x))) dlp := by
  obtain ⟨g, e, hg, hn⟩ := floor_near x hx
  rw [e]
  obtain ⟨r, hr, hrd, _⟩ := sub_fin double x g hx hg
  have := rung_le (E := dlp) hrd (by decide) (by omega) (by rw [Nat.mul_one]; exact hn)
  exact ⟨r, hr, this.1, this.2⟩
theorem wide_fin (a : Nat) (h : fin single a) : ∃ x, conC .f32 .f64 (cv .f32 a) = some x ∧ fin double x := by
  obtain ⟨R, hR, _, hc⟩ := wid_fin a h
  refine ⟨double.word (sg single a) R, ?_, ?_⟩
  · unfold conC
    rw [cv_of (by rw [nanB_rg32]; unfold fin at h; simp; omega)]
    exact hc
  · unfold fin; rw [rg_word double _ (Nat.le_of_lt hR)]; exact hR
end Go.Fl
