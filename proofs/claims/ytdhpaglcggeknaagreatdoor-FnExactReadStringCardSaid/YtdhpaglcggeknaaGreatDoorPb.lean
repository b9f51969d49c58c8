/- Texts of numbers in hexadecimal digits, and what reads them. Plain, no program. No condition. -/
import Derived.Test.YtdhpaglcggeknaaGreatDoorPa
import Derived.Test.YtdhpaglcggeknaaGreatDoorC2
namespace Go.Fl
theorem hexC_lt (d : Nat) (h : d < 16) : hexC d = if d < 10 then UInt8.ofNat (48 + d) else UInt8.ofNat (87 + d) := by
  have : ∀ d : Fin 16, hexC d.val = if d.val < 10 then UInt8.ofNat (48 + d.val) else UInt8.ofNat (87 + d.val) := by decide
  exact this ⟨d, h⟩
/-- The value of a small hexadecimal digit. -/
def hexV (c : UInt8) : Option Nat := if 48 ≤ c.toNat ∧ c.toNat ≤ 57 then some (c.toNat - 48) else if 97 ≤ c.toNat ∧ c.toNat ≤ 102 then some (c.toNat - 87) else none
theorem hexV_hexC (d : Nat) (h : d < 16) : hexV (hexC d) = some d := by
  have : ∀ d : Fin 16, hexV (hexC d.val) = some d.val := by decide
  exact this ⟨d, h⟩
theorem hexV_some {c : UInt8} {d : Nat} (h : hexV c = some d) : d < 16 ∧ c = hexC d := by
  unfold hexV at h
  split at h
  · rename_i h1
    have e : d = c.toNat - 48 := (Option.some.inj h).symm
    refine ⟨by omega, ?_⟩
    rw [hexC_lt d (by omega), if_pos (by omega)]
    rw [show 48 + d = c.toNat from by omega]; simp
  · split at h
    · rename_i h1
      have e : d = c.toNat - 87 := (Option.some.inj h).symm
      refine ⟨by omega, ?_⟩
      rw [hexC_lt d (by omega), if_neg (by omega)]
      rw [show 87 + d = c.toNat from by omega]; simp
    · cases h
/-- The number of small hexadecimal digits. -/
def hexP : Nat → List UInt8 → Option Nat
  | acc, [] => some acc
  | acc, c :: cs => match hexV c with
    | none => none
    | some d => hexP (acc * 16 + d) cs
theorem hexP_append : ∀ (xs ys : List UInt8) (acc : Nat), hexP acc (xs ++ ys) = (hexP acc xs).bind fun n => hexP n ys
  | [], ys, acc => rfl
  | c :: xs, ys, acc => by
    have e1 : ∀ zs : List UInt8, hexP acc (c :: zs) = (hexV c).bind fun d => hexP (acc * 16 + d) zs := fun zs => by
      rw [hexP]; cases hexV c <;> rfl
    show hexP acc (c :: (xs ++ ys)) = _
    rw [e1, e1]
    cases hexV c with
    | none => rfl
    | some d => exact hexP_append xs ys _
theorem hexP_hexL : ∀ (k n acc : Nat), n < 16 ^ k → hexP acc (hexL k n) = some (acc * 16 ^ k + n)
  | 0, n, acc, h => by
    have : n = 0 := by simpa using h
    subst this; simp [hexL, hexP]
  | k + 1, n, acc, h => by
    rw [show hexL (k + 1) n = hexL k (n / 16) ++ [hexC (n % 16)] from rfl, hexP_append]
    rw [hexP_hexL k (n / 16) acc (by rw [Nat.div_lt_iff_lt_mul (by decide)]; rw [Nat.pow_succ] at h; exact h)]
    show hexP (acc * 16 ^ k + n / 16) [hexC (n % 16)] = _
    unfold hexP
    rw [hexV_hexC _ (Nat.mod_lt _ (by decide))]
    show some ((acc * 16 ^ k + n / 16) * 16 + n % 16) = _
    rw [Nat.pow_succ]
    congr 1
    rw [Nat.add_mul, Nat.mul_assoc]; omega
theorem hexP_some : ∀ (cs : List UInt8) (acc n : Nat), hexP acc cs = some n → ∃ m, m < 16 ^ cs.length ∧ n = acc * 16 ^ cs.length + m ∧ cs = hexL cs.length m
  | [], acc, n, h => ⟨0, by simp, by simp [hexP] at h; simp [h], rfl⟩
  | c :: cs, acc, n, h => by
    unfold hexP at h
    cases hv : hexV c with
    | none => rw [hv] at h; cases h
    | some d =>
      rw [hv] at h
      obtain ⟨hd, hc⟩ := hexV_some hv
      obtain ⟨m, hm, hn, hl⟩ := hexP_some cs _ n h
      refine ⟨d * 16 ^ cs.length + m, ?_, ?_, ?_⟩
      · rw [List.length_cons, Nat.pow_succ]
        have : d * 16 ^ cs.length ≤ 15 * 16 ^ cs.length := Nat.mul_le_mul_right _ (by omega)
        omega
      · rw [hn, List.length_cons, Nat.pow_succ, Nat.add_mul, Nat.mul_assoc, Nat.mul_comm 16]; omega
      · rw [List.length_cons, hexL_cons]
        have hp : 0 < 16 ^ cs.length := Nat.pow_pos (by decide)
        rw [show (d * 16 ^ cs.length + m) / 16 ^ cs.length = d from by rw [Nat.mul_comm, Nat.mul_add_div hp, Nat.div_eq_of_lt hm, Nat.add_zero]]
        rw [Nat.mod_eq_of_lt hd, ← hc]
        congr 1
        rw [hl]
        have key : ∀ k a b, hexL k (a * 16 ^ k + b) = hexL k b := by
          intro k
          induction k with
          | zero => intro a b; rfl
          | succ k ih =>
            intro a b
            unfold hexL
            rw [Nat.pow_succ, ← Nat.mul_assoc]
            rw [show (a * 16 ^ k * 16 + b) / 16 = a * 16 ^ k + b / 16 from by omega, show (a * 16 ^ k * 16 + b) % 16 = b % 16 from by omega, ih]
        rw [key]
        simp [hexL_length]
theorem hexL_inj {k m n : Nat} (hm : m < 16 ^ k) (hn : n < 16 ^ k) (h : hexL k m = hexL k n) : m = n := by
  have h1 := hexP_hexL k m 0 hm
  have h2 := hexP_hexL k n 0 hn
  rw [h, h2] at h1
  simpa using h1.symm
end Go.Fl
namespace Go.Proofs.YtdhpaglcggeknaaGreatDoor
open Go.Fl
/-- The bits of a sample as a number. -/
def bitsN (x : Nat) : Nat := if nanB .f32 x = true then 2143289344 else x
theorem bitsN_int (x : Nat) : bitsI x = (bitsN x : Int) := by unfold bitsI bitsN; split <;> rfl
theorem bitsN_lt {x : Nat} (h : x < 4294967296) : bitsN x < 4294967296 := by unfold bitsN; split <;> omega
theorem bitsN_idem (x : Nat) : bitsN (bitsN x) = bitsN x := by
  unfold bitsN
  cases h : nanB .f32 x
  · simp [h]
  · simp
theorem bitsN_cv {x y : Nat} (h : cv .f32 x = cv .f32 y) : bitsN x = bitsN y := by
  have h1 := bits_same x y
  unfold sameB at h1
  rw [decide_eq_true h, bitsN_int, bitsN_int] at h1
  have := eq_of_beq h1
  omega
/-- The text of a sample. -/
def hexT8 (x : Nat) : List UInt8 := hexL 8 (bitsN x)
theorem hexT8_length (x : Nat) : (hexT8 x).length = 8 := hexL_length ..
/-- The sample with a text. -/
def rd (s : List UInt8) : Option Nat := if s.length = 8 then (match hexP 0 s with | some n => if bitsN n = n then some n else none | none => none) else none
theorem rd_some {s : List UInt8} {n : Nat} (h : rd s = some n) : n < 4294967296 ∧ bitsN n = n ∧ s = hexL 8 n := by
  unfold rd at h
  split at h
  · rename_i hl
    split at h
    · rename_i m hm
      split at h
      · rename_i hb
        have e0 : m = n := Option.some.inj h
        subst e0
        obtain ⟨q, hq, hn, he⟩ := hexP_some s 0 _ hm
        rw [hl] at hq hn he
        have : m = q := by omega
        subst this
        exact ⟨by have : (16 : Nat) ^ 8 = 4294967296 := by decide
                  omega, hb, he⟩
      · cases h
    · cases h
  · cases h
theorem rd_hex {n : Nat} (h : n < 4294967296) (hb : bitsN n = n) : rd (hexL 8 n) = some n := by
  unfold rd
  rw [if_pos (hexL_length ..), hexP_hexL 8 n 0 (by rw [show (16 : Nat) ^ 8 = 4294967296 from by decide]; exact h)]
  simp [hb]
theorem rd_hexT8 {x : Nat} (h : x < 4294967296) : rd (hexT8 x) = some (bitsN x) := rd_hex (bitsN_lt h) (bitsN_idem x)
theorem rd_text {s : List UInt8} {n : Nat} (h : rd s = some n) : hexT8 n = s := by
  obtain ⟨_, h2, h3⟩ := rd_some h
  unfold hexT8; rw [h2, h3]
/-- What reads a number of base 16, and of 32 bits. -/
def puV (c : UInt8) : Option Nat := if 48 ≤ c.toNat ∧ c.toNat ≤ 57 then some (c.toNat - 48) else if 97 ≤ (c ||| 32).toNat ∧ (c ||| 32).toNat ≤ 122 then (if (c ||| 32).toNat - 87 < 16 then some ((c ||| 32).toNat - 87) else none) else none
def puL : Nat → List UInt8 → Option Nat
  | acc, [] => some acc
  | acc, c :: cs => match puV c with
    | none => none
    | some d => if acc * 16 + d < 4294967296 then puL (acc * 16 + d) cs else none
theorem puV_of {c : UInt8} {d : Nat} (h : hexV c = some d) : puV c = some d := by
  obtain ⟨hd, hc⟩ := hexV_some h
  subst hc
  have : ∀ d : Fin 16, puV (hexC d.val) = some d.val := by decide
  exact this ⟨d, hd⟩
theorem puV_lt {c : UInt8} {d : Nat} (h : puV c = some d) : d < 16 := by
  unfold puV at h
  split at h
  · have e := (Option.some.inj h).symm; omega
  · split at h
    · split at h
      · have e := (Option.some.inj h).symm; omega
      · cases h
    · cases h
theorem hexP_ge : ∀ (cs : List UInt8) (acc n : Nat), hexP acc cs = some n → acc ≤ n := by
  intro cs acc n h
  obtain ⟨m, _, hn, _⟩ := hexP_some cs acc n h
  have : acc * 1 ≤ acc * 16 ^ cs.length := Nat.mul_le_mul_left _ (Nat.pow_pos (by decide))
  omega
theorem puL_of : ∀ (cs : List UInt8) (acc n : Nat), hexP acc cs = some n → n < 4294967296 → puL acc cs = some n
  | [], acc, n, h, _ => h
  | c :: cs, acc, n, h, hn => by
    unfold hexP at h
    cases hv : hexV c with
    | none => rw [hv] at h; cases h
    | some d =>
      rw [hv] at h
      have hg := hexP_ge cs _ _ h
      unfold puL
      rw [puV_of hv]
      show (if acc * 16 + d < 4294967296 then puL (acc * 16 + d) cs else none) = some n
      rw [if_pos (by omega)]
      exact puL_of cs _ n h hn
theorem puL_rd {s : List UInt8} {n : Nat} (h : rd s = some n) : puL 0 s = some n := by
  have h0 := h
  obtain ⟨h1, _, h3⟩ := rd_some h
  exact puL_of s 0 n (by
    rw [h3, hexP_hexL 8 n 0 (by rw [show (16 : Nat) ^ 8 = 4294967296 from by decide]; exact h1)]; simp) h1
theorem puL_lt : ∀ (cs : List UInt8) (acc n : Nat), acc < 4294967296 → puL acc cs = some n → n < 4294967296
  | [], acc, n, ha, h => by have : acc = n := Option.some.inj h; omega
  | c :: cs, acc, n, ha, h => by
    unfold puL at h
    cases hv : puV c with
    | none => rw [hv] at h; cases h
    | some d =>
      rw [hv] at h
      simp only at h
      split at h
      · rename_i hlt
        exact puL_lt cs _ n hlt h
      · cases h
/-- The program's reader says yes where the reference's does. -/
theorem rd_pu {s : List UInt8} {n : Nat} (h : puL 0 s = some n) : (rd s).isSome = decide (hexT8 n = s) := by
  cases hr : rd s with
  | some m =>
    have := puL_rd hr
    rw [h] at this
    cases this
    rw [decide_eq_true (rd_text hr)]; rfl
  | none =>
    by_cases e : hexT8 n = s
    · exfalso
      have hn := puL_lt s 0 n (by decide) h
      rw [← e, rd_hexT8 hn] at hr
      cases hr
    · rw [decide_eq_false e]; rfl
theorem rd_pu_none {s : List UInt8} (h : puL 0 s = none) : rd s = none := by
  cases hr : rd s with
  | some m => rw [puL_rd hr] at h; cases h
  | none => rfl
end Go.Proofs.YtdhpaglcggeknaaGreatDoor
