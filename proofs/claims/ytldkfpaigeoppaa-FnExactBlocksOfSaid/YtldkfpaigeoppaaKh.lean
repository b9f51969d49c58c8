/- Samples cut into blocks, the last filled up with zeros: plain. No condition. -/
import Derived.Test.YtldkfpaigeoppaaKg
namespace Go.Fl
open Go.RowKit
/-- The blocks of the first i samples, as a flat list. -/
def padB (xs : List Nat) (i : Nat) : List Nat := xs.take i ++ List.replicate (16 * ((i + 15) / 16) - i) 0
theorem padB_length {xs : List Nat} {i : Nat} (h : i ≤ xs.length) : (padB xs i).length = 16 * ((i + 15) / 16) := by
  unfold padB
  rw [List.length_append, List.length_take, List.length_replicate]
  omega
theorem padB_zero (xs : List Nat) : padB xs 0 = [] := by simp [padB]
theorem take_one (xs : List Nat) {i : Nat} (h : i < xs.length) : xs.take (i + 1) = xs.take i ++ [nth xs i] := by
  rw [List.take_succ_eq_append_getElem h]
  congr 2
  simp [nth, h]
theorem set_fillB (xs : List Nat) {i m : Nat} (h : i < xs.length) : (xs.take i ++ List.replicate (m + 1) 0).set i (nth xs i) = xs.take (i + 1) ++ List.replicate m 0 := by
  have hl : (xs.take i).length = i := by rw [List.length_take]; omega
  rw [List.set_append_right _ _ (by omega), hl, Nat.sub_self, List.replicate_succ, List.set_cons_zero, take_one xs h, List.append_assoc]
  rfl
theorem padB_new {xs : List Nat} {i : Nat} (h : i < xs.length) (h0 : i % 16 = 0) : (padB xs i ++ List.replicate 16 0).set i (nth xs i) = padB xs (i + 1) := by
  have e1 : 16 * ((i + 15) / 16) - i = 0 := by omega
  have e2 : 16 * ((i + 1 + 15) / 16) - (i + 1) = 15 := by omega
  unfold padB
  rw [e1, e2, List.replicate_zero, List.append_nil, set_fillB xs h]
theorem padB_old {xs : List Nat} {i : Nat} (h : i < xs.length) (h0 : i % 16 ≠ 0) : (padB xs i).set i (nth xs i) = padB xs (i + 1) := by
  have e1 : 16 * ((i + 15) / 16) - i = (16 * ((i + 1 + 15) / 16) - (i + 1)) + 1 := by omega
  unfold padB
  rw [e1, set_fillB xs h]
/-- A part of at most 16 samples, filled up. -/
def partB (xs : List Nat) (p : Nat) : List Nat := (xs.drop (16 * p)).take 16
def fullB (xs : List Nat) (p : Nat) : List Nat := partB xs p ++ List.replicate (16 - (partB xs p).length) 0
theorem partB_length (xs : List Nat) (p : Nat) : (partB xs p).length = min 16 (xs.length - 16 * p) := by
  unfold partB
  rw [List.length_take, List.length_drop]
theorem fullB_length (xs : List Nat) (p : Nat) : (fullB xs p).length = 16 := by
  unfold fullB
  have := partB_length xs p
  rw [List.length_append, List.length_replicate]
  omega
theorem padB_chunk {xs : List Nat} {p : Nat} (h : 16 * p < xs.length) : padB xs (16 * p) ++ fullB xs p = padB xs (min (16 * (p + 1)) xs.length) := by
  have hp := partB_length xs p
  have e1 : 16 * ((16 * p + 15) / 16) - 16 * p = 0 := by omega
  unfold padB fullB
  rw [e1, List.replicate_zero, List.append_nil, ← List.append_assoc]
  congr 1
  · unfold partB
    rw [← List.take_add]
    rcases Nat.le_total (16 * (p + 1)) xs.length with h1 | h1
    · rw [Nat.min_eq_left h1]; rfl
    · rw [Nat.min_eq_right h1, List.take_of_length_le (by omega), List.take_of_length_le (Nat.le_refl _)]
  · congr 1
    omega
end Go.Fl
