/- Own rings marked: the length apart. No condition. -/
import Derived.Test.YtdhpaglcggeknaaDoorTd
namespace Go.Proofs.YtdhpaglcggeknaaDoor
open Go.RowKit Go.Fl
theorem ringOk_facts {n : Nat} {at0 : Int} (h : ringOk n at0 = true) : (n : Int) ≤ 1024 ∧ 1 ≤ (n : Int) ∧ 0 ≤ at0 ∧ at0 ≤ (n : Int) - 1 := by
  unfold ringOk at h
  rw [Bool.and_eq_true] at h
  obtain ⟨a, b⟩ := inB_true' h.1
  obtain ⟨c, d⟩ := inB_true' h.2
  exact ⟨b, a, c, d⟩
theorem turn_len (xs : List Nat) (j : Nat) (h : j < xs.length) : (xs.drop j ++ xs.take j).length = xs.length := by
  rw [List.length_append, List.length_drop, List.length_take]; omega
end Go.Proofs.YtdhpaglcggeknaaDoor
