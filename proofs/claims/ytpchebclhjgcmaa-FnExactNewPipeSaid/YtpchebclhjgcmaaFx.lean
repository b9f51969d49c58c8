/- Numbers of the float formats as whole numbers of units: reading, order, sums, products, and the way from one kind to the other. Plain arithmetic, no program. No condition. -/
import Derived.Test.YtpchebclhjgcmaaFr
namespace Go.Fl
open Ieee

def rg (f : Format) (x : Nat) : Nat := x % f.signWeight
def sg (f : Format) (x : Nat) : Bool := x / f.signWeight % 2 == 1
def fin (f : Format) (x : Nat) : Prop := rg f x < f.infRung
/-- The number, in units of the least place. -/
def sv (f : Format) (x : Nat) : Int := if sg f x = true then -(mg f (rg f x) : Int) else (mg f (rg f x) : Int)

theorem signWeight_pos (f : Format) : 0 < f.signWeight := Nat.two_pow_pos _

theorem rg_word (f : Format) (neg : Bool) {rung : Nat} (h : rung ≤ f.infRung) : rg f (f.word neg rung) = rung := by
  have hlt := f.infRung_lt
  unfold rg Format.word
  split
  · rw [Nat.add_mod_left, Nat.mod_eq_of_lt (by omega)]
  · exact Nat.mod_eq_of_lt (by omega)
theorem sg_word (f : Format) (neg : Bool) {rung : Nat} (h : rung ≤ f.infRung) : sg f (f.word neg rung) = neg := by
  have hlt := f.infRung_lt
  have hp := signWeight_pos f
  unfold sg Format.word
  cases neg
  · rw [if_neg (by simp), Nat.div_eq_of_lt (by omega)]; rfl
  · rw [if_pos rfl, Nat.add_div_left _ hp, Nat.div_eq_of_lt (by omega)]; rfl

theorem word_of (f : Format) (x : Nat) (h : x < 2 * f.signWeight) : f.word (sg f x) (rg f x) = x := by
  have hp := signWeight_pos f
  have h1 := Nat.div_add_mod x f.signWeight
  have h2 : x / f.signWeight < 2 := (Nat.div_lt_iff_lt_mul hp).2 h
  unfold Format.word sg rg
  generalize x / f.signWeight = q at *
  have h3 : q = 0 ∨ q = 1 := by omega
  rcases h3 with e | e
  · subst e
    rw [if_neg (by simp)]; omega
  · subst e
    rw [if_pos (by simp)]; omega

theorem read_fin (f : Format) (x : Nat) (h : fin f x) : ∃ m j : Nat, f.read x = .number (sg f x) m (f.leastPlace + (j : Nat)) ∧ m * 2 ^ j = mg f (rg f x) := by
  unfold fin at h
  unfold Format.read mg
  unfold rg at *
  dsimp only
  by_cases h1 : x % f.signWeight < f.binade
  · rw [if_pos h1, if_pos h1]
    exact ⟨x % f.signWeight, 0, by simp [sg], by simp⟩
  · rw [if_neg h1, if_pos h, if_neg h1]
    exact ⟨_, _, rfl, rfl⟩

theorem notNaN_fin (f : Format) (x : Nat) (h : fin f x) : (f.read x).isNaN = false := by
  obtain ⟨m, j, h1, _⟩ := read_fin f x h
  rw [h1]; rfl

theorem signed_mul (s : Bool) (m u t : Nat) : signed s m u * (2 ^ t : Nat) = if s = true then -((m * 2 ^ (u + t) : Nat) : Int) else ((m * 2 ^ (u + t) : Nat) : Int) := by
  have e : (m <<< u) * 2 ^ t = m * 2 ^ (u + t) := by rw [Nat.shiftLeft_eq, Nat.mul_assoc, ← Nat.pow_add]
  unfold signed
  cases s
  · rw [if_neg (by simp), if_neg (by simp)]; norm_cast
  · rw [if_pos rfl, if_pos rfl, ← e]; rw [Int.neg_mul]; norm_cast

theorem sv_signed (f : Format) (x m j i : Nat) (h : m * 2 ^ j = mg f (rg f x)) (hi : i ≤ j) : signed (sg f x) m (j - i) * (2 ^ i : Nat) = sv f x := by
  rw [signed_mul, show j - i + i = j by omega, h]; rfl

theorem compare_mul (a b : Int) (c : Nat) (hc : 0 < c) : compare (a * c) (b * c) = compare a b := by
  have hc' : (0 : Int) < c := by omega
  simp only [compare, compareOfLessAndEq]
  have h1 : a * c < b * c ↔ a < b := Int.mul_lt_mul_right hc'
  have h2 : a * c = b * c ↔ a = b := ⟨fun h => Int.eq_of_mul_eq_mul_right (by omega) h, fun h => by rw [h]⟩
  simp only [h1, h2]

theorem order_fin (f : Format) (x y : Nat) (hx : fin f x) (hy : fin f y) : f.order x y = some (compare (sv f x) (sv f y)) := by
  obtain ⟨m, i, h1, h2⟩ := read_fin f x hx
  obtain ⟨n, j, h3, h4⟩ := read_fin f y hy
  unfold Format.order
  rw [h1, h3]
  simp only [Datum.order]
  obtain ⟨b, hb⟩ : ∃ b : Nat, b = min i j := ⟨_, rfl⟩
  have e1 : (f.leastPlace + (i : Int) - min (f.leastPlace + (i : Int)) (f.leastPlace + (j : Int))).toNat = i - b := by omega
  have e2 : (f.leastPlace + (j : Int) - min (f.leastPlace + (i : Int)) (f.leastPlace + (j : Int))).toNat = j - b := by omega
  rw [e1, e2, ← sv_signed f x m i b h2 (by omega), ← sv_signed f y n j b h4 (by omega), compare_mul _ _ _ (Nat.two_pow_pos b)]

/-- Rung 'r' is the one nearest to 'N / D' units. -/
structure Rd (f : Format) (N D r : Nat) : Prop where
  up : ∀ R, N ≤ mg f R * D → r ≤ R
  dn : ∀ R, R ≤ f.infRung → mg f R * D ≤ N → R ≤ r
  inf : r ≤ f.infRung

theorem rd_rnd (f : Format) (mag : Nat) (place : Int) (p q : Nat) (hpq : (p : Int) - q = place - f.leastPlace) : Rd f (mag * 2 ^ p) (2 ^ q) (rnd f mag place) :=
  ⟨fun R h => rnd_le f mag place R p q hpq h, fun R hR h => le_rnd f mag place R p q hR hpq h, rnd_le_inf f mag place⟩

theorem Rd.exact {f : Format} {N D r R : Nat} (h : Rd f N D r) (hR : R ≤ f.infRung) (e : N = mg f R * D) : r = R :=
  Nat.le_antisymm (h.up R (Nat.le_of_eq e)) (h.dn R hR (Nat.le_of_eq e.symm))

/-! ### Data that are numbers -/
/-- 'd' is the number 'v' units, of sign 's'. -/
def Num (f : Format) (d : Datum) (s : Bool) (v : Int) : Prop := ∃ m j : Nat, d = .number s m (f.leastPlace + (j : Int)) ∧ v = if s = true then -((m * 2 ^ j : Nat) : Int) else ((m * 2 ^ j : Nat) : Int)

theorem num_read (f : Format) (x : Nat) (h : fin f x) : Num f (f.read x) (sg f x) (sv f x) := by
  obtain ⟨m, j, h1, h2⟩ := read_fin f x h
  exact ⟨m, j, h1, by rw [h2]; rfl⟩
theorem num_opposite {f : Format} {d : Datum} {s : Bool} {v : Int} (h : Num f d s v) : Num f d.opposite (!s) (-v) := by
  obtain ⟨m, j, rfl, rfl⟩ := h
  refine ⟨m, j, rfl, ?_⟩
  cases s <;> simp
theorem num_signed {s : Bool} {v : Int} {m j : Nat} (h : v = if s = true then -((m * 2 ^ j : Nat) : Int) else ((m * 2 ^ j : Nat) : Int)) (i : Nat) (hi : i ≤ j) : signed s m (j - i) * (2 ^ i : Nat) = v := by
  rw [signed_mul, show j - i + i = j by omega, h]

theorem num_sum {f : Format} {d e : Datum} {s t : Bool} {v u : Int} (hd : Num f d s v) (he : Num f e t u) :
    ∃ s', ∃ r, d.sum e = some r ∧ Num f r s' (v + u) ∧ (v + u ≠ 0 → s' = decide (v + u < 0)) ∧ (v + u = 0 → s' = (s && t)) := by
  obtain ⟨m, i, rfl, hv⟩ := hd
  obtain ⟨n, j, rfl, hu⟩ := he
  obtain ⟨b, hb⟩ : ∃ b : Nat, b = min i j := ⟨_, rfl⟩
  have e0 : min (f.leastPlace + (i : Int)) (f.leastPlace + (j : Int)) = f.leastPlace + (b : Int) := by omega
  have e1 : (f.leastPlace + (i : Int) - (f.leastPlace + (b : Int))).toNat = i - b := by omega
  have e2 : (f.leastPlace + (j : Int) - (f.leastPlace + (b : Int))).toNat = j - b := by omega
  have h1 := num_signed hv b (by omega)
  have h2 := num_signed hu b (by omega)
  simp only [Datum.sum, e0, e1, e2]
  generalize signed s m (i - b) = A at *
  generalize signed t n (j - b) = B at *
  have h3 : (A + B) * (2 ^ b : Nat) = v + u := by rw [Int.add_mul, h1, h2]
  have hp : (0 : Int) < (2 ^ b : Nat) := by have := Nat.two_pow_pos b; omega
  have hz : A + B = 0 ↔ v + u = 0 := by
    rw [← h3]
    constructor
    · intro h; rw [h, Int.zero_mul]
    · intro h; rcases Int.mul_eq_zero.1 h with h | h
      · exact h
      · omega
  have hneg : A + B < 0 ↔ v + u < 0 := by
    rw [← h3]
    constructor
    · intro h; exact Int.mul_neg_of_neg_of_pos h hp
    · intro h
      by_cases hc : A + B < 0
      · exact hc
      · have := Int.mul_nonneg (show (0 : Int) ≤ A + B by omega) (Int.le_of_lt hp); omega
  refine ⟨_, _, rfl, ⟨(A + B).natAbs, b, rfl, ?_⟩, ?_, ?_⟩
  · by_cases h0 : A + B = 0
    · have h4 := hz.1 h0
      rw [h4, h0]; simp
    · simp only [if_neg h0, decide_eq_true_eq]
      rw [← h3]
      by_cases hc : A + B < 0
      · rw [if_pos hc]
        have : (((A + B).natAbs * 2 ^ b : Nat) : Int) = ((A + B).natAbs : Int) * ((2 ^ b : Nat) : Int) := by norm_cast
        rw [this, ← Int.neg_mul]; congr 1; omega
      · rw [if_neg hc]
        have : (((A + B).natAbs * 2 ^ b : Nat) : Int) = ((A + B).natAbs : Int) * ((2 ^ b : Nat) : Int) := by norm_cast
        rw [this]; congr 1; omega
  · intro h0
    have h4 : ¬ A + B = 0 := fun h => h0 (hz.1 h)
    simp only [if_neg h4]
    exact decide_eq_decide.2 hneg
  · intro h0
    have h4 := hz.2 h0
    rw [if_pos h4]

theorem rd_write {f : Format} {d : Datum} {s : Bool} {v : Int} (h : Num f d s v) : Rd f v.natAbs 1 (rg f (f.write d)) ∧ sg f (f.write d) = s := by
  obtain ⟨m, j, rfl, hv⟩ := h
  have h1 := rd_rnd f m (f.leastPlace + (j : Int)) j 0 (by omega)
  have e : v.natAbs = m * 2 ^ j := by
    rw [hv]; cases s
    · rw [if_neg (by simp)]; omega
    · rw [if_pos rfl]; omega
  simp only [Format.write]
  rw [nearest_eq, rg_word f s h1.inf, sg_word f s h1.inf, e]
  exact ⟨h1, rfl⟩

theorem add_fin (f : Format) (x y : Nat) (hx : fin f x) (hy : fin f y) : ∃ r, f.add x y = some r ∧ Rd f (sv f x + sv f y).natAbs 1 (rg f r) ∧
    (sv f x + sv f y ≠ 0 → sg f r = decide (sv f x + sv f y < 0)) ∧ (sv f x + sv f y = 0 → sg f r = (sg f x && sg f y)) := by
  obtain ⟨s', r, h1, h2, h3, h4⟩ := num_sum (num_read f x hx) (num_read f y hy)
  · have h5 := rd_write h2
    exact ⟨f.write r, by unfold Format.add; rw [h1]; rfl, h5.1, fun h => by rw [h5.2]; exact h3 h, fun h => by rw [h5.2]; exact h4 h⟩
theorem sub_fin (f : Format) (x y : Nat) (hx : fin f x) (hy : fin f y) : ∃ r, f.sub x y = some r ∧ Rd f (sv f x - sv f y).natAbs 1 (rg f r) ∧
    (sv f x - sv f y ≠ 0 → sg f r = decide (sv f x - sv f y < 0)) ∧ (sv f x - sv f y = 0 → sg f r = (sg f x && !sg f y)) := by
  obtain ⟨s', r, h1, h2, h3, h4⟩ := num_sum (num_read f x hx) (num_opposite (num_read f y hy))
  · have h5 := rd_write h2
    rw [← Int.sub_eq_add_neg] at h3 h4 h5
    exact ⟨f.write r, by unfold Format.sub; rw [h1]; rfl, h5.1, fun h => by rw [h5.2]; exact h3 h, fun h => by rw [h5.2]; exact h4 h⟩

theorem mul_fin (f : Format) (L : Nat) (hL : f.leastPlace = -(L : Int)) (x y : Nat) (hx : fin f x) (hy : fin f y) : ∃ r, f.mul x y = some r ∧
    Rd f (mg f (rg f x) * mg f (rg f y)) (2 ^ L) (rg f r) ∧ sg f r = (sg f x ^^ sg f y) := by
  obtain ⟨m, i, h1, h2⟩ := read_fin f x hx
  obtain ⟨n, j, h3, h4⟩ := read_fin f y hy
  refine ⟨f.write (.number (sg f x ^^ sg f y) (m * n) (f.leastPlace + (i : Int) + (f.leastPlace + (j : Int)))), by unfold Format.mul; rw [h1, h3]; rfl, ?_⟩
  have h5 := rd_rnd f (m * n) (f.leastPlace + (i : Int) + (f.leastPlace + (j : Int))) (i + j) L (by omega)
  have e : m * n * 2 ^ (i + j) = mg f (rg f x) * mg f (rg f y) := by
    rw [← h2, ← h4, Nat.pow_add]; simp only [Nat.mul_assoc, Nat.mul_left_comm]
  rw [e] at h5
  simp only [Format.write]
  rw [nearest_eq, rg_word f _ h5.inf, sg_word f _ h5.inf]
  exact ⟨h5, rfl⟩
end Go.Fl
