/- Own rings marked: the length apart. No condition. -/
import Derived.Test.YtdhpaglcggeknaaGreatDoorTd
namespace Go.Proofs.YtdhpaglcggeknaaGreatDoor
open Go.RowKit Go.Fl
theorem c_markFloat32S_own_n (A : Option Addr) (c base n : Nat) (xs : List Nat) (m : Int) (w : World) (h : Own w base A c xs 25) (hn : xs.length = n) (hl : (n : Int) ≤ 4294967296) (h0 : 0 ≤ m) (h1 : m ≤ 4294967296) :
    Calls Tryz.prog 43 #[.slice A n c, .int .i64 m] w fun e w' => e = .returned (.int .i64 (m + n)) ∧ Own w' base A c (markL n m) 25 ∧ w.grownBy w' (ownBlk A) := by
  subst hn; exact c_markFloat32S_own A c base xs m w h hl h0 h1
theorem c_markRing_own_n (A : Option Addr) (c base n : Nat) (xs : List Nat) (at0 m : Int) (w : World) (h : Own w base A c xs 25) (hn : xs.length = n) (hl : (n : Int) ≤ 4294967296) (h0 : 0 ≤ m) (h1 : m ≤ 4294967296) :
    Calls Tryz.prog 24 #[.agg #[.slice A n c, .int .i64 at0], .int .i64 m] w fun e w' => e = .returned (.int .i64 (m + n)) ∧ Own w' base A c (markL n m) 25 ∧ w.grownBy w' (ownBlk A) := by
  subst hn; exact c_markRing_own A c base xs at0 m w h hl h0 h1
theorem ringOk_facts {n : Nat} {at0 : Int} (h : ringOk n at0 = true) : (n : Int) ≤ 1024 ∧ 1 ≤ (n : Int) ∧ 0 ≤ at0 ∧ at0 ≤ (n : Int) - 1 := by
  unfold ringOk at h
  rw [Bool.and_eq_true] at h
  obtain ⟨a, b⟩ := inB_true' h.1
  obtain ⟨c, d⟩ := inB_true' h.2
  exact ⟨b, a, c, d⟩
theorem turn_len (xs : List Nat) (j : Nat) (h : j < xs.length) : (xs.drop j ++ xs.take j).length = xs.length := by
  rw [List.length_append, List.length_drop, List.length_take]; omega
end Go.Proofs.YtdhpaglcggeknaaGreatDoor
