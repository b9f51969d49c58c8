/- Hexadecimal digits of a number. Plain, no program. No condition. -/
import Derived.Test.YtdhpaglcggeknaaGreatDoorFl
namespace Go.Fl
def hexT : List UInt8 := [48, 49, 50, 51, 52, 53, 54, 55, 56, 57, 97, 98, 99, 100, 101, 102]
def hexC (d : Nat) : UInt8 := hexT.getD d 0
/-- The last k digits of n. -/
def hexL : Nat → Nat → List UInt8
  | 0, _ => []
  | k + 1, n => hexL k (n / 16) ++ [hexC (n % 16)]
theorem hexL_length : ∀ k n, (hexL k n).length = k
  | 0, _ => rfl
  | k + 1, n => by unfold hexL; rw [List.length_append, hexL_length k]; rfl
theorem hexL_cons : ∀ k n, hexL (k + 1) n = hexC (n / 16 ^ k % 16) :: hexL k n
  | 0, n => by simp [hexL]
  | k + 1, n => by
    rw [show hexL (k + 1 + 1) n = hexL (k + 1) (n / 16) ++ [hexC (n % 16)] from rfl, hexL_cons k (n / 16)]
    rw [Nat.div_div_eq_div_mul, show 16 * 16 ^ k = 16 ^ (k + 1) from by rw [Nat.pow_succ, Nat.mul_comm]]
    rfl
theorem hexL_zero : ∀ k, hexL k 0 = List.replicate k 48
  | 0 => rfl
  | k + 1 => by
    unfold hexL
    rw [Nat.zero_div, hexL_zero k, List.replicate_succ']
    rfl
theorem hexL_pad : ∀ m k n, n < 16 ^ m → hexL (k + m) n = List.replicate k 48 ++ hexL m n
  | 0, k, n, h => by
    have : n = 0 := by simpa using h
    subst this
    rw [Nat.add_zero, hexL_zero]
    simp [hexL]
  | m + 1, k, n, h => by
    rw [show hexL (k + (m + 1)) n = hexL (k + m) (n / 16) ++ [hexC (n % 16)] from rfl]
    rw [hexL_pad m k (n / 16) (by rw [Nat.div_lt_iff_lt_mul (by decide)]; rw [Nat.pow_succ] at h; exact h)]
    rw [List.append_assoc]
    rfl
end Go.Fl
