/- Rounding: what 'nearest' of the float formats gives, between two numbers of the format. Plain arithmetic, no program. No condition. -/
import Derived.Test.YtpchebclhjgcmaaFl
namespace Go.Fl
open Ieee

/-- The magnitude of a rung, in units of the least place. -/
def mg (f : Format) (r : Nat) : Nat := if r < f.binade then r else (f.binade + r % f.binade) * 2 ^ (r / f.binade - 1)

theorem binade_pos (f : Format) : 0 < f.binade := Nat.two_pow_pos _

theorem mg_form (f : Format) (d c : Nat) (h1 : f.binade ≤ c) (h2 : c ≤ 2 * f.binade) : mg f (d * f.binade + c) = c * 2 ^ d := by
  have hb := binade_pos f
  unfold mg
  rw [if_neg (by have := Nat.le_mul_of_pos_right d hb; omega)]
  by_cases h3 : c = 2 * f.binade
  · subst h3
    have e : d * f.binade + 2 * f.binade = (d + 2) * f.binade := by rw [Nat.add_mul]
    rw [e, Nat.mul_mod_left, Nat.mul_div_cancel _ hb, show d + 2 - 1 = d + 1 from rfl, Nat.pow_succ]
    rw [Nat.add_zero, Nat.mul_comm 2 f.binade, Nat.mul_assoc, Nat.mul_comm 2]
  · obtain ⟨c', rfl⟩ : ∃ c', c = f.binade + c' := ⟨c - f.binade, by omega⟩
    have hc : c' < f.binade := by omega
    have e : d * f.binade + (f.binade + c') = c' + (d + 1) * f.binade := by rw [Nat.add_mul]; omega
    rw [e, Nat.add_mul_mod_self_right, Nat.mod_eq_of_lt hc, Nat.add_mul_div_right _ _ hb, Nat.div_eq_of_lt hc, Nat.zero_add, Nat.add_sub_cancel]

theorem mg_small (f : Format) (c : Nat) (h : c ≤ 2 * f.binade) : mg f c = c := by
  by_cases h1 : c < f.binade
  · unfold mg; rw [if_pos h1]
  · have := mg_form f 0 c (by omega) h
    rw [Nat.zero_mul, Nat.zero_add, Nat.pow_zero, Nat.mul_one] at this
    exact this

theorem rung_form (f : Format) (r : Nat) (h : f.binade ≤ r) : ∃ d c, f.binade ≤ c ∧ c < 2 * f.binade ∧ r = d * f.binade + c := by
  have hb := binade_pos f
  refine ⟨r / f.binade - 1, f.binade + r % f.binade, by omega, by have := Nat.mod_lt r hb; omega, ?_⟩
  have h1 := Nat.div_add_mod r f.binade
  have h2 : 1 ≤ r / f.binade := (Nat.one_le_div_iff hb).2 h
  obtain ⟨q, hq⟩ : ∃ q, r / f.binade = q + 1 := ⟨r / f.binade - 1, by omega⟩
  rw [hq] at h1 ⊢
  have e : f.binade * (q + 1) = q * f.binade + f.binade := by rw [Nat.mul_comm, Nat.add_mul, Nat.one_mul]
  rw [Nat.add_sub_cancel]
  omega

theorem mg_succ (f : Format) (r : Nat) : mg f r < mg f (r + 1) := by
  have hb := binade_pos f
  by_cases h : r < f.binade
  · rw [mg_small f r (by omega), mg_small f (r + 1) (by omega)]; omega
  · obtain ⟨d, c, h1, h2, rfl⟩ := rung_form f r (by omega)
    rw [Nat.add_assoc, mg_form f d c h1 (by omega), mg_form f d (c + 1) (by omega) (by omega)]
    exact Nat.mul_lt_mul_of_pos_right (Nat.lt_succ_self c) (Nat.two_pow_pos d)

theorem mg_lt (f : Format) {r s : Nat} (h : r < s) : mg f r < mg f s := by
  induction s with
  | zero => omega
  | succ n ih =>
    by_cases e : r = n
    · subst e; exact mg_succ f r
    · exact Nat.lt_trans (ih (by omega)) (mg_succ f n)
theorem mg_le (f : Format) {r s : Nat} (h : r ≤ s) : mg f r ≤ mg f s := by
  by_cases e : r = s
  · subst e; exact Nat.le_refl _
  · exact Nat.le_of_lt (mg_lt f (by omega))
theorem mg_le_iff (f : Format) (r s : Nat) : mg f r ≤ mg f s ↔ r ≤ s := by
  refine ⟨fun h => ?_, mg_le f⟩
  by_cases e : r ≤ s
  · exact e
  · have := mg_lt f (show s < r by omega); omega
theorem mg_inj (f : Format) {r s : Nat} (h : mg f r = mg f s) : r = s := by
  have h1 := (mg_le_iff f r s).1 (by omega)
  have h2 := (mg_le_iff f s r).1 (by omega)
  omega

/-! ### 'cut' to the even one lies between whole numbers -/
theorem cut_le (neg : Bool) (n drop a : Nat) (h : n ≤ a * 2 ^ drop) : Toward.even.cut neg n drop ≤ a := by
  unfold Toward.cut
  dsimp only
  by_cases hd : drop ≤ n.log2 + 2
  · rw [Nat.min_eq_left hd, Nat.one_shiftLeft]
    have hp : 0 < 2 ^ drop := Nat.two_pow_pos _
    have h1 := Nat.div_add_mod n (2 ^ drop)
    have h2 := Nat.mod_lt n hp
    generalize 2 ^ drop = g at *
    generalize hlow : n / g = low at *
    generalize n % g = rest at *
    have hle : low ≤ a := by
      rw [← hlow]; exact Nat.div_le_of_le_mul (by rw [Nat.mul_comm]; exact h)
    by_cases e : low = a
    · subst e
      have hr : rest = 0 := by rw [Nat.mul_comm] at h; omega
      subst hr
      have hf : (decide (g < 2 * 0) || (g == 2 * 0 && low % 2 == 1)) = false := by
        have : (g == 2 * 0) = false := by simp; omega
        rw [this]; simp
      rw [hf]; simp
    · have : (decide (g < 2 * rest) || (g == 2 * rest && low % 2 == 1)).toNat ≤ 1 := Bool.toNat_le _
      omega
  · rw [Nat.min_eq_right (by omega), Nat.one_shiftLeft]
    have h3 : n < 2 ^ (n.log2 + 1) := Nat.lt_log2_self
    have e4 : 2 ^ (n.log2 + 2) = 2 * 2 ^ (n.log2 + 1) := by rw [show n.log2 + 2 = (n.log2 + 1) + 1 from rfl, Nat.pow_succ, Nat.mul_comm]
    rw [Nat.div_eq_of_lt (by omega), Nat.mod_eq_of_lt (by omega)]
    have hf : (decide (2 ^ (n.log2 + 2) < 2 * n) || (2 ^ (n.log2 + 2) == 2 * n && 0 % 2 == 1)) = false := by
      have h5 : decide (2 ^ (n.log2 + 2) < 2 * n) = false := by simp; omega
      rw [h5]; simp
    rw [hf]; simp

theorem le_cut (neg : Bool) (n drop a : Nat) (h : a * 2 ^ drop ≤ n) : a ≤ Toward.even.cut neg n drop := by
  unfold Toward.cut
  dsimp only
  by_cases hd : drop ≤ n.log2 + 2
  · rw [Nat.min_eq_left hd, Nat.one_shiftLeft]
    have hp : 0 < 2 ^ drop := Nat.two_pow_pos _
    have : a ≤ n / 2 ^ drop := (Nat.le_div_iff_mul_le hp).2 h
    omega
  · have h3 : n < 2 ^ (n.log2 + 1) := Nat.lt_log2_self
    have h4 : 2 ^ (n.log2 + 1) ≤ 2 ^ drop := Nat.pow_le_pow_right (by omega) (by omega)
    have : a = 0 := by
      rcases Nat.eq_zero_or_pos a with h0 | h0
      · exact h0
      · have := Nat.le_mul_of_pos_left (2 ^ drop) h0
        omega
    rw [this]; exact Nat.zero_le _

/-! ### The rung of the nearest number -/
def rnd (f : Format) (mag : Nat) (place : Int) : Nat :=
  if mag = 0 then 0 else
  let last := max (place + mag.log2 - f.fractionBits) f.leastPlace
  min ((last - f.leastPlace).toNat * f.binade + Toward.even.cut false (mag <<< (place - last).toNat) (last - place).toNat) f.infRung

theorem cut_neg (neg : Bool) (n drop : Nat) : Toward.even.cut neg n drop = Toward.even.cut false n drop := rfl

theorem nearest_eq (f : Format) (neg : Bool) (mag : Nat) (place : Int) : f.nearest neg mag place = f.word neg (rnd f mag place) := by
  unfold Format.nearest rnd
  dsimp only
  split
  · rfl
  · rw [cut_neg]

theorem rnd_le_inf (f : Format) (mag : Nat) (place : Int) : rnd f mag place ≤ f.infRung := by
  unfold rnd
  dsimp only
  split
  · exact Nat.zero_le _
  · exact Nat.min_le_right ..

/-- What is known of the kept digits: 'd' the binade above the least, 'k' the digits; the number lies in units of 2^d. -/
theorem rnd_spec (f : Format) (mag : Nat) (place : Int) (hm : mag ≠ 0) : ∃ d k n drop : Nat, rnd f mag place = min (d * f.binade + k) f.infRung ∧ k = Toward.even.cut false n drop ∧
    (∃ p q : Nat, (p : Int) - q = place - f.leastPlace ∧ (∀ K, n ≤ K * 2 ^ drop ↔ mag * 2 ^ p ≤ K * 2 ^ d * 2 ^ q) ∧ (∀ K, K * 2 ^ drop ≤ n ↔ K * 2 ^ d * 2 ^ q ≤ mag * 2 ^ p)) ∧
    k ≤ 2 * f.binade ∧ (0 < d → f.binade * 2 ^ drop ≤ n) := by
  have hb := binade_pos f
  unfold rnd
  rw [if_neg hm]
  dsimp only
  generalize hlast : max (place + (mag.log2 : Int) - f.fractionBits) f.leastPlace = last
  have hl1 : f.leastPlace ≤ last := by omega
  have hl2 : place + (mag.log2 : Int) - f.fractionBits ≤ last := by omega
  have hlo := Nat.log2_self_le hm
  have hhi : mag < 2 ^ (mag.log2 + 1) := Nat.lt_log2_self
  generalize hd : (last - f.leastPlace).toNat = d
  generalize hs : (place - last).toNat = s
  generalize hdr : (last - place).toNat = drop
  generalize f.leastPlace = lp at *
  have hbin : f.binade = 2 ^ f.fractionBits := rfl
  refine ⟨d, _, mag <<< s, drop, rfl, rfl, ?_, ?_, ?_⟩
  · by_cases hc : last ≤ place
    · -- no digit is dropped: p = place - lp = s + d, q = 0
      have e1 : drop = 0 := by omega
      refine ⟨s + d, 0, by omega, fun K => ?_, fun K => ?_⟩
      · rw [e1, Nat.shiftLeft_eq, Nat.pow_zero, Nat.mul_one, Nat.mul_one, Nat.pow_add, ← Nat.mul_assoc]
        exact (Nat.mul_le_mul_right_iff (Nat.two_pow_pos d)).symm
      · rw [e1, Nat.shiftLeft_eq, Nat.pow_zero, Nat.mul_one, Nat.mul_one, Nat.pow_add, ← Nat.mul_assoc]
        exact (Nat.mul_le_mul_right_iff (Nat.two_pow_pos d)).symm
    · have e1 : s = 0 := by omega
      -- d + q = drop + p, q = lp - min, p = place - min
      by_cases hpl : lp ≤ place
      · obtain ⟨p, hp⟩ : ∃ p : Nat, place - lp = p := ⟨(place - lp).toNat, by omega⟩
        have e2 : d = drop + p := by omega
        refine ⟨p, 0, by omega, fun K => ?_, fun K => ?_⟩
        · rw [e1, Nat.shiftLeft_zero, e2, Nat.pow_zero, Nat.mul_one, Nat.pow_add, ← Nat.mul_assoc]
          exact (Nat.mul_le_mul_right_iff (Nat.two_pow_pos p)).symm
        · rw [e1, Nat.shiftLeft_zero, e2, Nat.pow_zero, Nat.mul_one, Nat.pow_add, ← Nat.mul_assoc]
          exact (Nat.mul_le_mul_right_iff (Nat.two_pow_pos p)).symm
      · obtain ⟨q, hq⟩ : ∃ q : Nat, lp - place = q := ⟨(lp - place).toNat, by omega⟩
        have e2 : drop = d + q := by omega
        refine ⟨0, q, by omega, fun K => ?_, fun K => ?_⟩
        · rw [e1, Nat.shiftLeft_zero, e2, Nat.pow_zero, Nat.mul_one, Nat.pow_add, Nat.mul_assoc]
        · rw [e1, Nat.shiftLeft_zero, e2, Nat.pow_zero, Nat.mul_one, Nat.pow_add, Nat.mul_assoc]
  · -- fewer than fractionBits + 2 digits are kept
    refine cut_le _ _ _ _ ?_
    rw [Nat.shiftLeft_eq, hbin]
    -- mag * 2^s ≤ 2 * 2^fb * 2^drop
    have h1 : mag.log2 + 1 + s ≤ f.fractionBits + 1 + drop := by omega
    have h2 : mag * 2 ^ s ≤ 2 ^ (mag.log2 + 1) * 2 ^ s := Nat.mul_le_mul_right _ (Nat.le_of_lt hhi)
    have h3 : 2 ^ (mag.log2 + 1) * 2 ^ s ≤ 2 ^ (f.fractionBits + 1 + drop) := by
      rw [← Nat.pow_add]; exact Nat.pow_le_pow_right (by omega) h1
    have h4 : 2 * 2 ^ f.fractionBits * 2 ^ drop = 2 ^ (f.fractionBits + 1 + drop) := by
      rw [Nat.pow_add, Nat.pow_succ, Nat.mul_comm 2]
    omega
  · intro hd0
    have e : last = place + (mag.log2 : Int) - f.fractionBits := by omega
    rw [Nat.shiftLeft_eq, hbin]
    have h1 : f.fractionBits + drop = mag.log2 + s := by omega
    rw [← Nat.pow_add, h1, Nat.pow_add]
    exact Nat.mul_le_mul_right _ hlo

/-- THE NUMBER IS NOT ABOVE A RUNG's: NOR IS WHAT IS WRITTEN. ('p - q': the place, counted from the least.) -/
theorem rnd_le (f : Format) (mag : Nat) (place : Int) (R p q : Nat) (hpq : (p : Int) - q = place - f.leastPlace) (h : mag * 2 ^ p ≤ mg f R * 2 ^ q) : rnd f mag place ≤ R := by
  by_cases hm : mag = 0
  · unfold rnd; rw [if_pos hm]; exact Nat.zero_le _
  have hb := binade_pos f
  obtain ⟨d, k, n, drop, hr, hk, ⟨p', q', hpq', hup, hdn⟩, hk2, hlow⟩ := rnd_spec f mag place hm
  rw [hr]
  by_cases hle : d * f.binade + k ≤ R
  · omega
  exfalso
  -- the hypothesis in the other scale
  have key : ∀ K, mg f R ≤ K * 2 ^ d → n ≤ K * 2 ^ drop := fun K hK => by
    refine (hup K).2 ?_
    have h1 : mag * 2 ^ p ≤ K * 2 ^ d * 2 ^ q := Nat.le_trans h (Nat.mul_le_mul_right _ hK)
    have e : p + q' = p' + q := by omega
    have h2 : mag * 2 ^ p * 2 ^ q' ≤ K * 2 ^ d * 2 ^ q * 2 ^ q' := Nat.mul_le_mul_right _ h1
    have e1 : mag * 2 ^ p * 2 ^ q' = mag * 2 ^ p' * 2 ^ q := by rw [Nat.mul_assoc, ← Nat.pow_add, e, Nat.pow_add, Nat.mul_assoc]
    have e2 : K * 2 ^ d * 2 ^ q * 2 ^ q' = K * 2 ^ d * 2 ^ q' * 2 ^ q := by rw [Nat.mul_assoc, Nat.mul_comm (2 ^ q), ← Nat.mul_assoc]
    rw [e1, e2] at h2
    exact Nat.le_of_mul_le_mul_right h2 (Nat.two_pow_pos q)
  by_cases hA : 0 < d ∧ k ≤ f.binade
  · -- k is the least of its binade
    have hkb : f.binade ≤ k := by rw [hk]; exact le_cut _ _ _ _ (hlow hA.1)
    have hk' : k = f.binade := by omega
    have h1 : mg f R < mg f (d * f.binade + k) := mg_lt f (by omega)
    rw [hk', mg_form f d _ (Nat.le_refl _) (by omega)] at h1
    have h2 := (hdn f.binade).1 (hlow hA.1)
    -- f.binade * 2^d * 2^q' ≤ mag * 2^p', mag * 2^p ≤ mg R * 2^q
    have e : p + q' = p' + q := by omega
    have h3 : f.binade * 2 ^ d * 2 ^ q' * 2 ^ q ≤ mag * 2 ^ p' * 2 ^ q := Nat.mul_le_mul_right _ h2
    have e1 : mag * 2 ^ p * 2 ^ q' = mag * 2 ^ p' * 2 ^ q := by rw [Nat.mul_assoc, ← Nat.pow_add, e, Nat.pow_add, Nat.mul_assoc]
    have h4 : mag * 2 ^ p * 2 ^ q' ≤ mg f R * 2 ^ q * 2 ^ q' := Nat.mul_le_mul_right _ h
    have h5 : mg f R * (2 ^ q * 2 ^ q') < f.binade * 2 ^ d * (2 ^ q * 2 ^ q') := Nat.mul_lt_mul_of_pos_right h1 (Nat.mul_pos (Nat.two_pow_pos _) (Nat.two_pow_pos _))
    rw [← Nat.mul_assoc, ← Nat.mul_assoc] at h5
    have e2 : f.binade * 2 ^ d * 2 ^ q * 2 ^ q' = f.binade * 2 ^ d * 2 ^ q' * 2 ^ q := by rw [Nat.mul_assoc, Nat.mul_comm (2 ^ q), ← Nat.mul_assoc]
    omega
  · have hk0 : 0 < k := by
      rcases Nat.eq_zero_or_pos d with h0 | h0
      · subst h0; rw [Nat.zero_mul] at hle; omega
      · omega
    have e1 : mg f (d * f.binade + (k - 1)) = (k - 1) * 2 ^ d := by
      rcases Nat.eq_zero_or_pos d with h0 | h0
      · subst h0; rw [Nat.zero_mul, Nat.zero_add, mg_small f _ (by omega), Nat.pow_zero, Nat.mul_one]
      · exact mg_form f d _ (by omega) (by omega)
    have h1 : mg f R ≤ (k - 1) * 2 ^ d := by rw [← e1]; exact mg_le f (by omega)
    have h2 := cut_le false n drop (k - 1) (key _ h1)
    omega

/-- THE NUMBER IS NOT BELOW A RUNG's: NOR IS WHAT IS WRITTEN. -/
theorem le_rnd (f : Format) (mag : Nat) (place : Int) (R p q : Nat) (hR : R ≤ f.infRung) (hpq : (p : Int) - q = place - f.leastPlace) (h : mg f R * 2 ^ q ≤ mag * 2 ^ p) : R ≤ rnd f mag place := by
  by_cases hm : mag = 0
  · subst hm
    rw [Nat.zero_mul] at h
    have h0 : mg f R = 0 := by
      rcases Nat.eq_zero_or_pos (mg f R) with h0 | h0
      · exact h0
      · have := Nat.mul_pos h0 (Nat.two_pow_pos q); omega
    have : R = 0 := mg_inj f (by rw [h0, mg_small f 0 (Nat.zero_le _)])
    omega
  have hb := binade_pos f
  obtain ⟨d, k, n, drop, hr, hk, ⟨p', q', hpq', hup, hdn⟩, hk2, hlow⟩ := rnd_spec f mag place hm
  rw [hr]
  by_cases hle : R ≤ d * f.binade + k
  · omega
  exfalso
  have key : ∀ K, K * 2 ^ d ≤ mg f R → K * 2 ^ drop ≤ n := fun K hK => by
    refine (hdn K).2 ?_
    have h1 : K * 2 ^ d * 2 ^ q ≤ mag * 2 ^ p := Nat.le_trans (Nat.mul_le_mul_right _ hK) h
    have e : p + q' = p' + q := by omega
    have h2 : K * 2 ^ d * 2 ^ q * 2 ^ q' ≤ mag * 2 ^ p * 2 ^ q' := Nat.mul_le_mul_right _ h1
    have e1 : mag * 2 ^ p * 2 ^ q' = mag * 2 ^ p' * 2 ^ q := by rw [Nat.mul_assoc, ← Nat.pow_add, e, Nat.pow_add, Nat.mul_assoc]
    have e2 : K * 2 ^ d * 2 ^ q * 2 ^ q' = K * 2 ^ d * 2 ^ q' * 2 ^ q := by rw [Nat.mul_assoc, Nat.mul_comm (2 ^ q), ← Nat.mul_assoc]
    rw [e1, e2] at h2
    exact Nat.le_of_mul_le_mul_right h2 (Nat.two_pow_pos q)
  have h1 : mg f (d * f.binade + k + 1) ≤ mg f R := mg_le f (by omega)
  have h2 : (k + 1) * 2 ^ d ≤ mg f (d * f.binade + k + 1) := by
    by_cases h3 : k = 2 * f.binade
    · have e : d * f.binade + k + 1 = (d + 1) * f.binade + (f.binade + 1) := by rw [Nat.add_mul]; omega
      rw [e, mg_form f (d + 1) _ (by omega) (by omega), Nat.pow_succ, ← Nat.mul_assoc, Nat.mul_comm _ 2, ← Nat.mul_assoc]
      exact Nat.mul_le_mul_right _ (by omega)
    · rcases Nat.eq_zero_or_pos d with h0 | h0
      · subst h0; rw [Nat.zero_mul, Nat.zero_add, mg_small f _ (by omega), Nat.pow_zero, Nat.mul_one]; exact Nat.le_refl _
      · have hkb : f.binade ≤ k := by rw [hk]; exact le_cut _ _ _ _ (hlow h0)
        rw [Nat.add_assoc, mg_form f d _ (by omega) (by omega)]; exact Nat.le_refl _
  have h3 := le_cut false n drop (k + 1) (key _ (by omega))
  omega

/-- A number of the format is written as itself. -/
theorem rnd_exact (f : Format) (mag : Nat) (place : Int) (R p q : Nat) (hR : R ≤ f.infRung) (hpq : (p : Int) - q = place - f.leastPlace) (h : mag * 2 ^ p = mg f R * 2 ^ q) : rnd f mag place = R :=
  Nat.le_antisymm (rnd_le f mag place R p q hpq (Nat.le_of_eq h)) (le_rnd f mag place R p q hR hpq (Nat.le_of_eq h.symm))
end Go.Fl
