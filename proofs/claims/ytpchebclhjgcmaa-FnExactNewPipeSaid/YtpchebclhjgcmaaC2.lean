/- Contracts: when two samples are the same, in the program and in the reference. No condition. -/
import Derived.Test.YtpchebclhjgcmaaEx
namespace Go.Proofs.Ytpchebclhjgcmaa
open Go.RowKit Go.Fl

/-- Two samples are the same: the same bits, or both no numbers. -/
def sameB (a b : Nat) : Bool := decide (cv .f32 a = cv .f32 b)
/-- The bits of a sample, one pattern for all that are no numbers. -/
def bitsI (a : Nat) : Int := if nanB .f32 a = true then 2143289344 else a
theorem nan_pat : nanB .f32 2143289344 = true := by rw [nanB_f32]; decide
theorem bits_same (a b : Nat) : (bitsI a == bitsI b) = sameB a b := by
  have key : ∀ x : Nat, nanB .f32 x = false → ¬ (2143289344 : Int) = (x : Int) := by
    intro x hx h
    have e : x = 2143289344 := by omega
    rw [e, nan_pat] at hx
    cases hx
  unfold bitsI sameB cv
  cases ha : nanB .f32 a <;> cases hb : nanB .f32 b
  · simp only [Bool.false_eq_true, if_false]
    by_cases h : a = b
    · subst h; simp
    · have : ¬ (a : Int) = (b : Int) := by omega
      simp [h, this]
  · have h1 : ¬ (a : Int) = 2143289344 := fun h => key a ha h.symm
    simp [h1]
  · have h1 := key b hb
    simp [h1]
  · simp
theorem ne_self (a : Nat) (h : nanB .f32 a = false) : (ordC .f32 (cv .f32 a) (cv .f32 a) != some .eq) = false := by
  rw [← order_cv, ordC_self _ _ h]; rfl
theorem ne_nan (a : Nat) (h : nanB .f32 a = true) : (ordC .f32 (cv .f32 a) (cv .f32 a) != some .eq) = true := by
  rw [cv_nan h]; rfl

theorem c_bitsOf (a : Nat) (w : World) : Calls Try.prog 89 #[.float .f32 a] w fun e w' => e = .returned (.int .u32 (bitsI a)) ∧ w' = w := by
  cases hn : nanB .f32 a
  · have h1 := ne_self a hn
    have e : bitsI a = a := by unfold bitsI; rw [if_neg (by rw [hn]; exact Bool.false_ne_true)]
    rw [e]; clear e hn
    go_enter Try.func89, Try.ntmps89
    go_wp2
    all_goals (go_ret; exact ⟨rfl, rfl⟩)
  · have h1 := ne_nan a hn
    have e : bitsI a = 2143289344 := by unfold bitsI; rw [if_pos hn]
    rw [e]; clear e hn
    go_enter Try.func89, Try.ntmps89
    go_wp2
    all_goals (go_ret; exact ⟨rfl, rfl⟩)

theorem c_SameSample (a b : Nat) (w : World) : Calls Try.prog 49 #[.float .f32 a, .float .f32 b] w fun e w' => e = .returned (.bool (sameB a b)) ∧ w' = w := by
  go_enter Try.func49, Try.ntmps49
  go_wp2_with (go_at_call 89; refine (c_bitsOf _ _).mono ?_; rintro e w' ⟨rfl, rfl⟩)
  all_goals (go_ret; exact ⟨congrArg (fun x => Ending.returned (Value.bool x)) (bits_same a b), rfl⟩)

theorem c_l01Same (a b : Nat) (w : World) : Calls Try.prog 44 #[.float .f32 a, .float .f32 b] w fun e w' => e = .returned (.bool (sameB a b)) ∧ w' = w := by
  cases ha : nanB .f32 a <;> cases hb : nanB .f32 b
  · have h1 := ne_self a ha
    have h2 := ne_self b hb
    have e : sameB a b = ((a : Int) == (b : Int)) := by
      rw [← bits_same]; simp [bitsI, ha, hb]
    rw [e]; clear e ha hb
    go_enter Try.func44, Try.ntmps44
    go_wp2
    all_goals (go_ret; exact ⟨rfl, rfl⟩)
  all_goals
    first | have h1 := ne_self a ha | have h1 := ne_nan a ha
    first | have h2 := ne_self b hb | have h2 := ne_nan b hb
    first
      | have e : sameB a b = true := by simp [sameB, cv, ha, hb]
      | have e : sameB a b = false := by simp [sameB, cv, ha, hb]
    rw [e]; clear e ha hb
    go_enter Try.func44, Try.ntmps44
    go_wp2
    all_goals (go_ret; exact ⟨rfl, rfl⟩)
theorem c_l01Same_v (a b : Nat) (v : Bool) (w : World) (h : sameB a b = v) : Calls Try.prog 44 #[.float .f32 a, .float .f32 b] w fun e w' => e = .returned (.bool v) ∧ w' = w := by
  subst h; exact c_l01Same a b w
end Go.Proofs.Ytpchebclhjgcmaa
