/- Rings told the same. No condition. -/
import Derived.Test.YtpchebclhjgcmaaSu
import Derived.Test.YtpchebclhjgcmaaSp
namespace Go.Proofs.Ytpchebclhjgcmaa
open Go.RowKit Go.Fl
set_option maxRecDepth 20000 in
theorem c_szRingL (A : Option Addr) (n c : Nat) (at0 l : Int) (w : World) (hl : l ≤ 1048576) (hn : (n : Int) ≤ l) : Calls Try.prog 41 #[.agg #[.slice A n c, .int .i64 at0], .int .i64 l] w fun e w' => e = .returned (.int .i64 (l - n)) ∧ Below w.heap.size w w' := by
  have h0 : (0 : Int) ≤ n := by omega
  have h1 : ¬ (l - (n : Int) < 0) := by omega
  go_enter Try.func41, Try.ntmps41
  go_wp2
  go_ret
  exact ⟨rfl, Go.Joins.below_alloc1 _ _⟩
set_option maxRecDepth 20000 in
theorem c_szRingL_big (A : Option Addr) (n c : Nat) (at0 l : Int) (w : World) (h0 : 0 ≤ l) (hl : l ≤ 1048576) (hn : l < (n : Int)) (hm : (n : Int) ≤ 9223372036854775807) : Calls Try.prog 41 #[.agg #[.slice A n c, .int .i64 at0], .int .i64 l] w fun e w' => e = .returned (.int .i64 (-1)) ∧ Below w.heap.size w w' := by
  have h1 : l - (n : Int) < 0 := by omega
  go_enter Try.func41, Try.ntmps41
  go_wp2
  go_ret
  exact ⟨rfl, Go.Joins.below_alloc1 _ _⟩
def srB (xs ys : List Nat) (a b : Int) : Bool := decide (a = b) && sameL xs ys
theorem srB_ne {xs ys : List Nat} {a b : Int} (h : a ≠ b) : false = srB xs ys a b := by unfold srB; rw [decide_eq_false h]; rfl
theorem srB_eq (xs ys : List Nat) (a : Int) : sameL xs ys = srB xs ys a a := by unfold srB; rw [decide_eq_true rfl, Bool.true_and]
theorem c_sSameRing (A B : Option Addr) (c d : Nat) (xs ys : List Nat) (a0 b0 : Int) (w : World) (hs : Sl w A xs) (ht : Sl w B ys) (hl : (xs.length : Int) ≤ 4294967296) :
    Calls Try.prog 42 #[.agg #[.slice A xs.length c, .int .i64 a0], .agg #[.slice B ys.length d, .int .i64 b0]] w fun e w' => e = .returned (.bool (srB xs ys a0 b0)) ∧ Below w.heap.size w w' := by
  have hb := Go.Joins.below_alloc2 w (.cells #[.slice A xs.length c, .int .i64 a0] 34) (.cells #[.slice B ys.length d, .int .i64 b0] 34)
  have HS := Lib.hid (hs.below hb); have HT := Lib.hid (ht.below hb); have HL := Lib.hid hl; clear hs ht hl
  by_cases hat : a0 = b0
  · subst hat
    have HR := Lib.hid (srB_eq xs ys a0)
    go_enter Try.func42, Try.ntmps42
    go_wp2_with (go_at_call 84; refine (c_sSameList _ _ _ _ _ _ _ HS.out HT.out HL.out).mono ?_; rintro e w1 ⟨rfl, b⟩)
    go_ret
    exact ⟨ret_boolx HR.out, seq_below hb b⟩
  · have HR := Lib.hid (srB_ne (xs := xs) (ys := ys) hat)
    have hne : (a0 == b0) = false := by simpa using hat
    clear hat
    go_enter Try.func42, Try.ntmps42
    go_wp2
    go_ret
    exact ⟨ret_boolx HR.out, hb⟩
theorem c_iSameRing (A B : Option Addr) (c d : Nat) (xs ys : List Nat) (a0 b0 : Int) (w : World) (hs : Sl w A xs) (ht : Sl w B ys) (hl : (xs.length : Int) ≤ 4294967296) :
    Calls Try.prog 47 #[.agg #[.slice A xs.length c, .int .i64 a0], .agg #[.slice B ys.length d, .int .i64 b0]] w fun e w' => e = .returned (.bool (srB xs ys a0 b0)) ∧ Below w.heap.size w w' := by
  have hb := Go.Joins.below_alloc2 w (.cells #[.slice A xs.length c, .int .i64 a0] 34) (.cells #[.slice B ys.length d, .int .i64 b0] 34)
  have q1 : Row ((w.alloc (.cells #[.slice A xs.length c, .int .i64 a0] 34)).alloc (.cells #[.slice B ys.length d, .int .i64 b0] 34)) w.heap.size #[.slice A xs.length c, .int .i64 a0] 34 := (Row.new _ _ _ _ rfl).alloc _
  have q2 : Row ((w.alloc (.cells #[.slice A xs.length c, .int .i64 a0] 34)).alloc (.cells #[.slice B ys.length d, .int .i64 b0] 34)) (w.heap.size + 1) #[.slice B ys.length d, .int .i64 b0] 34 := Row.new _ _ _ _ (by simp)
  have HS := Lib.hid (hs.below hb); have HT := Lib.hid (ht.below hb); have HL := Lib.hid hl; clear hs ht hl
  have HR := Lib.hid (show (sameL xs ys && decide (a0 = b0)) = srB xs ys a0 b0 from by unfold srB; rw [Bool.and_comm])
  cases hv : sameL xs ys
  · rw [hv] at HR
    go_enter Try.func47, Try.ntmps47
    go_wp2_with (go_at_call 83; refine (c_iSameList _ _ _ _ _ _ _ HS.out HT.out HL.out).mono ?_; rintro e w1 ⟨rfl, b⟩; rw [hv])
    go_ret
    exact ⟨ret_boolx HR.out, seq_below hb b⟩
  · rw [hv] at HR
    by_cases hat : a0 = b0
    · subst hat
      rw [decide_eq_true rfl] at HR
      go_enter Try.func47, Try.ntmps47
      go_wp2_with (go_at_call 83; refine (c_iSameList _ _ _ _ _ _ _ HS.out HT.out HL.out).mono ?_; rintro e w1 ⟨rfl, b⟩; rw [hv]; replace q1 := q1.below b q1.lt; replace q2 := q2.below b q2.lt; have k1 := q1.cell 1 _ rfl; have k2 := q2.cell 1 _ rfl)
      go_ret
      exact ⟨ret_boolx HR.out, seq_below hb b⟩
    · have hne : (a0 == b0) = false := by simpa using hat
      rw [decide_eq_false hat] at HR
      clear hat
      go_enter Try.func47, Try.ntmps47
      go_wp2_with (go_at_call 83; refine (c_iSameList _ _ _ _ _ _ _ HS.out HT.out HL.out).mono ?_; rintro e w1 ⟨rfl, b⟩; rw [hv]; replace q1 := q1.below b q1.lt; replace q2 := q2.below b q2.lt; have k1 := q1.cell 1 _ rfl; have k2 := q2.cell 1 _ rfl)
      go_ret
      exact ⟨ret_boolx HR.out, seq_below hb b⟩
end Go.Proofs.Ytpchebclhjgcmaa
