/- Contracts: integers of samples, arrays of integers, noise, peaks, blocks told the same. No condition. -/
import Derived.Test.YtdhpaglcggeknaaDoorC6
import Derived.BigQuiet
import Derived.Deep.QuietTactic
namespace Go.Proofs.YtdhpaglcggeknaaDoor
open Go.RowKit Go.Fl

/-! ### ToShort -/
theorem kA : cv .f64 4674736138332667904 = cv .f64 k32767 := rfl
theorem kB : cv .f64 13898108450065350656 = cv .f64 kN32768 := rfl
def Src (C : CF) : Prop := ∃ y, nanB .f64 y = false ∧ intC .even (some y) = C ∨ C = none
theorem short_ret {x : Nat} {C : CF} (w : World) (hx : cv .f64 x = C) (h0 : (ordC .f64 C C != some .eq) = false) (h1 : (ordC .f64 C (cv .f64 4674736138332667904) == some .gt) = false) (h2 : (ordC .f64 C (cv .f64 13898108450065350656) == some .lt) = false) (hi : Src C) :
    f2i .f64 x .i16 w = shortI C := by
  rw [kA] at h1; rw [kB] at h2
  cases C with
  | none => cases h0
  | some z =>
    obtain ⟨_, rfl⟩ := cv_some hx
    obtain ⟨y, h | h⟩ := hi
    · obtain ⟨n, hn⟩ := short_in h.1 h.2 (by simpa using h1) (by simpa using h2)
      rw [f2i_of w hn]
      unfold shortI
      dsimp only
      rw [if_neg (by rw [h1]; exact Bool.false_ne_true), if_neg (by rw [h2]; exact Bool.false_ne_true), hn]; rfl
    · cases h
theorem intC_src {c : CF} (hc : ∀ y, c = some y → nanB .f64 y = false) : Src (intC .even c) := by
  cases c with
  | none => exact ⟨0, Or.inr rfl⟩
  | some y => exact ⟨y, Or.inl ⟨hc y rfl, rfl⟩⟩
theorem cop_notNaN {op : BinOp} {k : FloatKind} {a b : CF} {y : Nat} (h : cop op k a b = some y) : nanB k y = false := by
  unfold cop at h
  cases a with
  | none => cases h
  | some x => cases b with
    | none => cases h
    | some z => exact floatBits_notNaN h
theorem conC_notNaN {a : Nat} {y : Nat} (h : conC .f32 .f64 (cv .f32 a) = some y) : nanB .f64 y = false := by
  by_cases hn : nanB .f32 a = true
  · rw [cv_nan hn] at h; cases h
  · have hn' : nanB .f32 a = false := by simpa using hn
    rw [cv_of hn'] at h
    exact floatToFloatBits_notNaN hn' h
theorem conC_notNaN' {op : BinOp} {a b : CF} {y : Nat} (h : conC .f32 .f64 (cop op .f32 a b) = some y) : nanB .f64 y = false := by
  cases hc : cop op .f32 a b with
  | none => rw [hc] at h; cases h
  | some z => rw [hc] at h; exact floatToFloatBits_notNaN (cop_notNaN hc) h
/-- What ToShort gives of a sample. -/
def shC (a : Nat) : Int := shortI (intC .even (conC .f32 .f64 (cop .mul .f32 (cv .f32 a) (cv .f32 1191182336))))
theorem shortI_none {C : CF} (h : (ordC .f64 C C != some .eq) = true) (hi : Src C) : shortI C = 0 := by
  obtain ⟨y, h1 | h1⟩ := hi
  · exfalso
    have e : ordC .f64 C C = some .eq := by
      rw [← h1.2]
      exact ordC_self .f64 _ (write_notNaN Ieee.double (integral_notNaN .even h1.1))
    rw [e] at h; cases h
  · rw [h1]; rfl
theorem shortI_hi {C : CF} (h0 : (ordC .f64 C C != some .eq) = false) (h : (ordC .f64 C (cv .f64 4674736138332667904) == some .gt) = true) : shortI C = 32767 := by
  cases C with
  | none => cases h0
  | some z => rw [kA] at h; unfold shortI; dsimp only; rw [if_pos h]
theorem shortI_lo {C : CF} (h0 : (ordC .f64 C C != some .eq) = false) (h1 : (ordC .f64 C (cv .f64 4674736138332667904) == some .gt) = false) (h : (ordC .f64 C (cv .f64 13898108450065350656) == some .lt) = true) : shortI C = -32768 := by
  cases C with
  | none => cases h0
  | some z => rw [kA] at h1; rw [kB] at h; unfold shortI; dsimp only; rw [if_neg (by rw [h1]; exact Bool.false_ne_true), if_pos h]
end Go.Proofs.YtdhpaglcggeknaaDoor
