/- Floats that are whole numbers: rounding to a whole number, conversion to an integer. Plain arithmetic, no program. No condition. -/
import Derived.Test.YtpchebclhjgcmaaFc
namespace Go.Fl
open Ieee

/-- The least places. -/
def dlp : Nat := 1074
theorem d_lp' : double.leastPlace = -(dlp : Int) := by rw [d_lp]; rfl
def slp : Nat := 149
theorem s_lp' : single.leastPlace = -(slp : Int) := by rw [s_lp]; rfl

/-- Every number of few enough digits has a rung. -/
theorem rep (f : Format) (c d : Nat) (h : c ≤ 2 * f.binade) : ∃ R, mg f R = c * 2 ^ d := by
  have hb := binade_pos f
  rcases Nat.eq_zero_or_pos c with h0 | h0
  · subst h0; exact ⟨0, by rw [mg_small f 0 (Nat.zero_le _), Nat.zero_mul]⟩
  by_cases h1 : c = 2 * f.binade
  · exact ⟨d * f.binade + c, mg_form f d c (by omega) h⟩
  have hlo := Nat.log2_self_le (show c ≠ 0 by omega)
  have hhi : c < 2 ^ (c.log2 + 1) := Nat.lt_log2_self
  have hbin : f.binade = 2 ^ f.fractionBits := rfl
  have hl : c.log2 ≤ f.fractionBits := by
    have h2 : c < 2 ^ (f.fractionBits + 1) := by rw [Nat.pow_succ]; omega
    have := (Nat.log2_lt (show c ≠ 0 by omega)).2 h2
    omega
  generalize c.log2 = l at *
  by_cases hd : f.fractionBits - l ≤ d
  · refine ⟨(d - (f.fractionBits - l)) * f.binade + c * 2 ^ (f.fractionBits - l), ?_⟩
    rw [mg_form f _ _ ?_ ?_, Nat.mul_assoc, ← Nat.pow_add]
    · congr 2; omega
    · have : 2 ^ l * 2 ^ (f.fractionBits - l) ≤ c * 2 ^ (f.fractionBits - l) := Nat.mul_le_mul_right _ hlo
      rw [← Nat.pow_add, show l + (f.fractionBits - l) = f.fractionBits by omega] at this
      rw [hbin]; exact this
    · have : c * 2 ^ (f.fractionBits - l) ≤ 2 ^ (l + 1) * 2 ^ (f.fractionBits - l) := Nat.mul_le_mul_right _ (Nat.le_of_lt hhi)
      rw [← Nat.pow_add, show l + 1 + (f.fractionBits - l) = f.fractionBits + 1 by omega, Nat.pow_succ] at this
      rw [hbin]; omega
  · refine ⟨c * 2 ^ d, mg_small f _ ?_⟩
    have h2 : c * 2 ^ d ≤ 2 ^ (l + 1) * 2 ^ d := Nat.mul_le_mul_right _ (Nat.le_of_lt hhi)
    have h3 : 2 ^ (l + 1) * 2 ^ d ≤ 2 ^ f.fractionBits := by
      rw [← Nat.pow_add]; exact Nat.pow_le_pow_right (by omega) (by omega)
    rw [hbin]; omega

/-! ### The four ways to cut -/
theorem gap_small (n drop : Nat) (h : ¬ drop ≤ n.log2 + 2) : n < 2 ^ (n.log2 + 2) ∧ n < 2 ^ drop := by
  have h3 : n < 2 ^ (n.log2 + 1) := Nat.lt_log2_self
  have h4 : 2 ^ (n.log2 + 1) ≤ 2 ^ (n.log2 + 2) := Nat.pow_le_pow_right (by omega) (by omega)
  have h5 : 2 ^ (n.log2 + 1) ≤ 2 ^ drop := Nat.pow_le_pow_right (by omega) (by omega)
  omega
theorem gap_div (n drop : Nat) : n / 1 <<< min drop (n.log2 + 2) = n / 2 ^ drop := by
  by_cases h : drop ≤ n.log2 + 2
  · rw [Nat.min_eq_left h, Nat.one_shiftLeft]
  · have := gap_small n drop h
    rw [Nat.min_eq_right (by omega), Nat.one_shiftLeft, Nat.div_eq_of_lt this.1, Nat.div_eq_of_lt this.2]
theorem gap_mod (n drop : Nat) : n % 1 <<< min drop (n.log2 + 2) = n % 2 ^ drop := by
  by_cases h : drop ≤ n.log2 + 2
  · rw [Nat.min_eq_left h, Nat.one_shiftLeft]
  · have := gap_small n drop h
    rw [Nat.min_eq_right (by omega), Nat.one_shiftLeft, Nat.mod_eq_of_lt this.1, Nat.mod_eq_of_lt this.2]
theorem cut_zero (s : Bool) (n drop : Nat) : Toward.zero.cut s n drop = n / 2 ^ drop := by
  unfold Toward.cut
  dsimp only
  rw [gap_div]; simp
theorem cut_down (s : Bool) (n drop : Nat) : Toward.down.cut s n drop = n / 2 ^ drop + (s && n % 2 ^ drop != 0).toNat := by
  unfold Toward.cut
  dsimp only
  rw [gap_div, gap_mod]

/-! ### A finite number, made whole -/
/-- 'way' of a finite float64: the whole number 'M', of the number's sign. -/
theorem integral_fin (way : Toward) (f : Format) (L : Nat) (hL : f.leastPlace = -(L : Int)) (x : Nat) (h : fin f x) : ∃ n d : Nat, (f.read x).integral way = .number (sg f x) (way.cut (sg f x) n d) 0 ∧ n * 2 ^ L = mg f (rg f x) * 2 ^ d := by
  obtain ⟨m, j, h1, h2⟩ := read_fin f x h
  rw [h1]
  simp only [Datum.integral]
  refine ⟨_, _, rfl, ?_⟩
  rw [← h2, hL, Nat.shiftLeft_eq]
  rcases Nat.lt_or_ge j L with hj | hj
  · rw [show (-(L : Int) + j).toNat = 0 by omega, show (-(-(L : Int) + j)).toNat = L - j by omega, Nat.pow_zero, Nat.mul_one, Nat.mul_assoc, ← Nat.pow_add]
    congr 2; omega
  · rw [show (-(L : Int) + j).toNat = j - L by omega, show (-(-(L : Int) + j)).toNat = 0 by omega, Nat.pow_zero, Nat.mul_one, Nat.mul_assoc, ← Nat.pow_add]
    congr 2; omega

/-- The conversion to an integer cuts towards zero. -/
theorem toInt_fin (f : Format) (L : Nat) (hL : f.leastPlace = -(L : Int)) (x : Nat) (h : fin f x) : (f.read x).toInt .zero = some (if sg f x = true then -((mg f (rg f x) / 2 ^ L : Nat) : Int) else ((mg f (rg f x) / 2 ^ L : Nat) : Int)) := by
  obtain ⟨n, d, h1, h2⟩ := integral_fin .zero f L hL x h
  unfold Datum.toInt
  rw [h1]
  simp only [cut_zero]
  have e : n / 2 ^ d = mg f (rg f x) / 2 ^ L := by
    have e1 : n / 2 ^ d = (n * 2 ^ L) / (2 ^ d * 2 ^ L) := by rw [Nat.mul_div_mul_right _ _ (Nat.two_pow_pos L)]
    rw [e1, h2, Nat.mul_comm (2 ^ d), Nat.mul_div_mul_right _ _ (Nat.two_pow_pos d)]
  rw [e]
  unfold signed
  rw [Nat.shiftLeft_zero]

/-! ### The laws of the walk -/
def ival (way : Toward) (x : Nat) (w : World) : Nat :=
  match double.read x with
  | .nan s t => if double.quiet t = t then x else
      if Question.cut (.extern "math.Floor,Ceil,Trunc,RoundToEven.signallingNaN kept" 2) (w.tape w.drawn (.extern "math.Floor,Ceil,Trunc,RoundToEven.signallingNaN kept" 2)) == 1 then x else double.write (.nan s (double.quiet t))
  | d => double.write (d.integral way)
def icnt (x : Nat) : Nat :=
  match double.read x with
  | .nan _ t => if double.quiet t = t then 0 else 1
  | _ => 0
theorem integral_eq (name : String) (way : Toward) (x : Nat) : Extern.MathFloor.toIntegral name way #[.float .f64 x] = (match double.read x with
    | .nan s t =>
      if double.quiet t = t then pure (.float .f64 x) else do
      let kept ← choose (.extern "math.Floor,Ceil,Trunc,RoundToEven.signallingNaN kept" 2)
      pure (.float .f64 (if kept == 1 then x else double.write (.nan s (double.quiet t))))
    | d => pure (.float .f64 (double.write (d.integral way))) : Sem Value) := rfl
theorem run_integral {P : Program} (name : String) (way : Toward) (x : Nat) (w : World) : (Extern.MathFloor.toIntegral name way #[.float .f64 x]).run P w = .ok (.float .f64 (ival way x w)) (w.drewN (icnt x)) := by
  rw [integral_eq]
  unfold ival icnt
  cases hr : double.read x with
  | nan s t =>
    by_cases hq : double.quiet t = t
    · simp [hq, World.drewN_zero]
    · have hd : w.drewN 1 = { w with drawn := w.drawn + 1 } := rfl
      simp only [hq, if_false]
      rw [hd]
      simp [choose, Sem.run, Question.forced]
  | infinity s => simp [World.drewN_zero]
  | number s m e => simp [World.drewN_zero]

/-- Made whole, up to which NaN it is. -/
def intC (way : Toward) (a : CF) : CF := a.map fun x => double.write ((double.read x).integral way)
theorem quiet_nan (s : Bool) (t : Nat) : nanB .f64 (double.write (.nan s (double.quiet t))) = true := by
  have h1 : 0 < double.quiet t % double.binade ∧ double.quiet t % double.binade < double.binade := by
    have hb : double.binade = 2 ^ 52 := rfl
    refine ⟨?_, Nat.mod_lt _ (binade_pos _)⟩
    rw [hb]
    unfold Format.quiet
    rw [Nat.or_mod_two_pow, show (2 ^ (double.fractionBits - 1)) % 2 ^ 52 = 2 ^ 51 by decide]
    have h9 : 2 ^ 51 ≤ t % 2 ^ 52 ||| 2 ^ 51 := Nat.right_le_or
    have : 0 < 2 ^ 51 := by decide
    omega
  rw [nanB_rg64]
  refine decide_eq_true ?_
  show double.infRung < rg double (double.word s (double.infRung + double.quiet t % double.binade))
  have h2 := double.infRung_add_binade
  have e : rg double (double.word s (double.infRung + double.quiet t % double.binade)) = double.infRung + double.quiet t % double.binade := by
    unfold rg Format.word
    split
    · rw [Nat.add_mod_left, Nat.mod_eq_of_lt (by omega)]
    · exact Nat.mod_eq_of_lt (by omega)
  rw [e]; omega
theorem integral_notNaN (way : Toward) {d : Datum} (h : d.isNaN = false) : (d.integral way).isNaN = false := by
  cases d <;> simp_all [Datum.isNaN, Datum.integral]
@[go_sem] theorem cv_ival (way : Toward) (x : Nat) (w : World) : cv .f64 (ival way x w) = intC way (cv .f64 x) := by
  by_cases hn : nanB .f64 x = true
  · rw [cv_nan hn]
    show _ = none
    have hn2 : (double.read x).isNaN = true := hn
    unfold ival
    cases hr : double.read x with
    | nan s t =>
      dsimp only
      split
      · exact cv_nan hn
      · split
        · exact cv_nan hn
        · exact cv_nan (quiet_nan s t)
    | infinity s => rw [hr] at hn2; cases hn2
    | number s m e => rw [hr] at hn2; cases hn2
  · have hn' : nanB .f64 x = false := by simpa using hn
    rw [cv_of hn']
    have hn2 : (double.read x).isNaN = false := hn'
    have e : ival way x w = double.write ((double.read x).integral way) := by
      unfold ival
      cases hr : double.read x with
      | nan s t => rw [hr] at hn2; cases hn2
      | infinity s => rfl
      | number s m e => rfl
    rw [e]
    exact cv_of (write_notNaN double (integral_notNaN way hn2))

def f2i (s : FloatKind) (x : Nat) (k : IntKind) (w : World) : Int :=
  match floatToIntVal s x k with
  | some n => n
  | none => k.wrap (Question.cut (.floatToInt s x k) (w.tape w.drawn (.floatToInt s x k)))
def f2in (s : FloatKind) (x : Nat) (k : IntKind) : Nat := if (floatToIntVal s x k).isSome = true then 0 else 1
@[go_sem] theorem run_f2i {P : Program} (w : World) (src dst : TypeId) (s : FloatKind) (k : IntKind) (b : Nat) (hs : (P.underlying src).isSome = true) (hd : P.underlying dst = some (.int k)) :
    (convert src dst (.float s b)).run P w = .ok (.int k (f2i s b k w)) (w.drewN (f2in s b k)) := by
  cases h : floatToIntVal s b k with
  | some n =>
    rw [run_convert_float_int w src dst s k b n hs hd h]
    simp [f2i, f2in, h, World.drewN_zero]
  | none =>
    have hn : w.drewN (f2in s b k) = { w with drawn := w.drawn + 1 } := by simp [f2in, h, World.drewN]
    rw [hn]
    obtain ⟨u, hs'⟩ := Option.isSome_iff_exists.1 hs
    have h0 := h
    unfold floatToIntVal at h
    split at h
    · rename_i m he
      split at h
      · cases h
      · rename_i hb
        cases u <;> simp [convert, run_underlying hs', run_underlying hd, Conv.floatToInt, he, hb, f2i, h0, choose, Sem.run, Question.forced]
    · rename_i he
      cases u <;> simp [convert, run_underlying hs', run_underlying hd, Conv.floatToInt, he, f2i, h0, choose, Sem.run, Question.forced]
theorem f2i_of {s : FloatKind} {x : Nat} {k : IntKind} {n : Int} (w : World) (h : floatToIntVal s x k = some n) : f2i s x k w = n := by unfold f2i; rw [h]
end Go.Fl
