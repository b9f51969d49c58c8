/- The float laws of this claim: what the float operations of the walk give, up to which NaN it is ('cv': the bits, or none for a NaN). No condition. -/
import Derived.WalkKit
import Derived.Deep.Draws
import Derived.Laws.FloatArith
namespace Go.Fl
open Ieee

abbrev CF := Option Nat

def nanB (k : FloatKind) (x : Nat) : Bool := (k.format.read x).isNaN
def cv (k : FloatKind) (x : Nat) : CF := if nanB k x = true then none else some x
def ordC (k : FloatKind) (a b : CF) : Option Ordering := a.bind fun x => b.bind fun y => k.format.order x y
def cop (op : BinOp) (k : FloatKind) (a b : CF) : CF := a.bind fun x => b.bind fun y => floatBits op k x y

theorem order_nan_left {d e : Datum} (h : d.isNaN = true) : d.order e = none := by
  cases d <;> simp_all [Datum.isNaN, Datum.order]
theorem order_nan_right {d e : Datum} (h : e.isNaN = true) : d.order e = none := by
  cases e <;> simp_all [Datum.isNaN] <;> cases d <;> simp [Datum.order]

theorem order_cv (k : FloatKind) (x y : Nat) : k.format.order x y = ordC k (cv k x) (cv k y) := by
  unfold ordC cv
  by_cases hx : nanB k x = true
  · rw [if_pos hx]; simp only [Option.bind_none]; exact order_nan_left hx
  · rw [if_neg hx]
    by_cases hy : nanB k y = true
    · rw [if_pos hy]; simp only [Option.bind_some, Option.bind_none]; exact order_nan_right hy
    · rw [if_neg hy]; rfl

theorem sum_nan_left {d e : Datum} (h : d.isNaN = true) : d.sum e = none := by
  cases d <;> simp_all [Datum.isNaN, Datum.sum]
theorem sum_nan_right {d e : Datum} (h : e.isNaN = true) : d.sum e = none := by
  cases e <;> simp_all [Datum.isNaN] <;> cases d <;> simp [Datum.sum]
theorem product_nan_left {d e : Datum} (h : d.isNaN = true) : d.product e = none := by
  cases d <;> simp_all [Datum.isNaN, Datum.product]
theorem product_nan_right {d e : Datum} (h : e.isNaN = true) : d.product e = none := by
  cases e <;> simp_all [Datum.isNaN] <;> cases d <;> simp [Datum.product]
theorem quotient_nan_left {n : Nat} {d e : Datum} (h : d.isNaN = true) : d.quotient n e = none := by
  cases d <;> simp_all [Datum.isNaN, Datum.quotient]
theorem quotient_nan_right {n : Nat} {d e : Datum} (h : e.isNaN = true) : d.quotient n e = none := by
  cases e <;> simp_all [Datum.isNaN] <;> cases d <;> simp [Datum.quotient]
theorem opposite_nan {d : Datum} (h : d.isNaN = true) : d.opposite.isNaN = true := by
  cases d <;> simp_all [Datum.isNaN, Datum.opposite]

theorem floatBits_nan_left (op : BinOp) (k : FloatKind) (x y : Nat) (h : nanB k x = true) : floatBits op k x y = none := by
  unfold floatBits
  cases op <;> simp only []
  · simp [Format.add, sum_nan_left h]
  · simp [Format.sub, sum_nan_left h]
  · simp [Format.mul, product_nan_left h]
  · simp [Format.div, quotient_nan_left h]
theorem floatBits_nan_right (op : BinOp) (k : FloatKind) (x y : Nat) (h : nanB k y = true) : floatBits op k x y = none := by
  unfold floatBits
  cases op <;> simp only []
  · simp [Format.add, sum_nan_right h]
  · simp [Format.sub, sum_nan_right (opposite_nan h)]
  · simp [Format.mul, product_nan_right h]
  · simp [Format.div, quotient_nan_right h]

theorem floatBits_cv (op : BinOp) (k : FloatKind) (x y : Nat) : floatBits op k x y = cop op k (cv k x) (cv k y) := by
  unfold cop cv
  by_cases hx : nanB k x = true
  · rw [if_pos hx, floatBits_nan_left op k x y hx]; rfl
  · rw [if_neg hx]
    by_cases hy : nanB k y = true
    · rw [if_pos hy, floatBits_nan_right op k x y hy]; rfl
    · rw [if_neg hy]; rfl

/-! ### What is written is no NaN -/
theorem read_word_notNaN (f : Format) (neg : Bool) {rung : Nat} (h : rung ≤ f.infRung) : (f.read (f.word neg rung)).isNaN = false := by
  have hlt := f.infRung_lt
  have hs : 0 < f.signWeight := Nat.two_pow_pos _
  have hr : f.word neg rung % f.signWeight = rung := by
    unfold Format.word
    split
    · rw [Nat.add_mod_left, Nat.mod_eq_of_lt (by omega)]
    · exact Nat.mod_eq_of_lt (by omega)
  unfold Format.read
  simp only [hr]
  split
  · rfl
  · split
    · rfl
    · split
      · rfl
      · omega

theorem nearest_notNaN (f : Format) (neg : Bool) (mag : Nat) (place : Int) : (f.read (f.nearest neg mag place)).isNaN = false := by
  unfold Format.nearest
  dsimp only
  split
  · exact read_word_notNaN f _ (Nat.zero_le _)
  · exact read_word_notNaN f _ (Nat.min_le_right ..)

theorem write_notNaN (f : Format) {d : Datum} (h : d.isNaN = false) : (f.read (f.write d)).isNaN = false := by
  cases d with
  | number neg mag place => exact nearest_notNaN f neg mag place
  | infinity neg => exact read_word_notNaN f neg (Nat.le_refl _)
  | nan neg fr => simp [Datum.isNaN] at h

theorem sum_notNaN {d e r : Datum} (h : d.sum e = some r) : r.isNaN = false := by
  cases d <;> cases e <;> simp only [Datum.sum] at h <;> first | (cases h; done) | (cases h; rfl) | (split at h <;> first | (cases h; done) | (cases h; rfl))
theorem product_notNaN {d e r : Datum} (h : d.product e = some r) : r.isNaN = false := by
  cases d <;> cases e <;> simp only [Datum.product] at h <;> first | (cases h; done) | (cases h; rfl) | (split at h <;> first | (cases h; done) | (cases h; rfl))
theorem quotient_notNaN {n : Nat} {d e r : Datum} (h : d.quotient n e = some r) : r.isNaN = false := by
  cases d <;> cases e <;> simp only [Datum.quotient] at h <;> first | (cases h; done) | (cases h; rfl) | (split at h <;> first | (cases h; done) | (cases h; rfl) | (split at h <;> first | (cases h; done) | (cases h; rfl)))

theorem map_write_notNaN (f : Format) {d : Option Datum} {r : Nat} (hd : ∀ e, d = some e → e.isNaN = false) (h : d.map f.write = some r) : (f.read r).isNaN = false := by
  cases d with
  | none => cases h
  | some e => cases h; exact write_notNaN f (hd e rfl)

theorem floatBits_notNaN {op : BinOp} {k : FloatKind} {x y r : Nat} (h : floatBits op k x y = some r) : nanB k r = false := by
  unfold nanB
  unfold floatBits at h
  cases op <;> simp only at h <;> first | (cases h; done) | skip
  · exact map_write_notNaN _ (fun e he => sum_notNaN he) h
  · exact map_write_notNaN _ (fun e he => sum_notNaN he) h
  · exact map_write_notNaN _ (fun e he => product_notNaN he) h
  · exact map_write_notNaN _ (fun e he => quotient_notNaN he) h

/-! ### The NaN that the tape gives -/
theorem nan_word_f32 (t : Nat) : nanB .f32 ((t % 2) * 2 ^ 31 + 0x7f800000 + 1 + (t / 2) % (2 ^ 23 - 1)) = true := by
  unfold nanB FloatKind.format Format.read
  have e1 : single.signWeight = 2147483648 := by decide
  have e2 : single.binade = 8388608 := by decide
  have e3 : single.infRung = 2139095040 := by decide
  simp only [e1, e2, e3]
  have h2 : (t / 2) % (2 ^ 23 - 1) < 8388607 := Nat.mod_lt _ (by decide)
  have h3 : t % 2 < 2 := Nat.mod_lt _ (by decide)
  generalize (t / 2) % (2 ^ 23 - 1) = m at *
  generalize t % 2 = s at *
  rw [if_neg (by omega), if_neg (by omega), if_neg (by omega)]
  rfl
theorem nan_word_f64 (t : Nat) : nanB .f64 ((t % 2) * 2 ^ 63 + 0x7ff0000000000000 + 1 + (t / 2) % (2 ^ 52 - 1)) = true := by
  unfold nanB FloatKind.format Format.read
  have e1 : double.signWeight = 9223372036854775808 := by decide
  have e2 : double.binade = 4503599627370496 := by decide
  have e3 : double.infRung = 9218868437227405312 := by decide
  simp only [e1, e2, e3]
  have h2 : (t / 2) % (2 ^ 52 - 1) < 4503599627370495 := Nat.mod_lt _ (by decide)
  have h3 : t % 2 < 2 := Nat.mod_lt _ (by decide)
  generalize (t / 2) % (2 ^ 52 - 1) = m at *
  generalize t % 2 = s at *
  rw [if_neg (by omega), if_neg (by omega), if_neg (by omega)]
  rfl

theorem nan_cut_bits (k : FloatKind) (x y t : Nat) : nanB k (Question.cut (.nanBits k x y) t) = true := by
  cases k
  · exact nan_word_f32 t
  · exact nan_word_f64 t
theorem nan_cut_conv (k : FloatKind) (x t : Nat) : nanB k (Question.cut (.nanConv k x) t) = true := by
  cases k
  · exact nan_word_f32 t
  · exact nan_word_f64 t

/-! ### The four operations in the walk -/
def fval (op : BinOp) (k : FloatKind) (x y : Nat) (w : World) : Nat :=
  match floatBits op k x y with
  | some r => r
  | none => Question.cut (.nanBits k x y) (w.tape w.drawn (.nanBits k x y))
def fcnt (op : BinOp) (k : FloatKind) (x y : Nat) : Nat := if (floatBits op k x y).isSome = true then 0 else 1

theorem cv_fval (op : BinOp) (k : FloatKind) (x y : Nat) (w : World) : cv k (fval op k x y w) = cop op k (cv k x) (cv k y) := by
  rw [← floatBits_cv]
  unfold fval
  cases h : floatBits op k x y with
  | none => simp only [cv]; rw [if_pos (nan_cut_bits k x y _)]
  | some r => simp only [cv]; rw [if_neg (by rw [floatBits_notNaN h]; exact Bool.false_ne_true)]

section
variable {P : Program} (w : World)
theorem run_fop (op : BinOp) (t : TypeId) (k : FloatKind) (x y : Nat) (ho : op = .add ∨ op = .sub ∨ op = .mul ∨ op = .quo) :
    (binOp op t (.float k x) (.float k y)).run P w = .ok (.float k (fval op k x y w)) (w.drewN (fcnt op k x y)) := by
  cases h : floatBits op k x y with
  | some r =>
    rw [run_float_arith w op t k x y r h]
    simp [fval, fcnt, h, World.drewN_zero]
  | none =>
    have hd : w.drewN (fcnt op k x y) = { w with drawn := w.drawn + 1 } := by simp [fcnt, h, World.drewN]
    rw [hd]
    unfold floatBits at h
    rcases ho with rfl | rfl | rfl | rfl <;> simp only at h <;>
      simp [binOp, Op.floatArith, h, fval, floatBits, choose, Sem.run, Question.forced, Result.andThen]
@[go_sem] theorem run_fadd (t : TypeId) (k : FloatKind) (x y : Nat) : (binOp .add t (.float k x) (.float k y)).run P w = .ok (.float k (fval .add k x y w)) (w.drewN (fcnt .add k x y)) := run_fop w _ t k x y (by simp)
@[go_sem] theorem run_fsub (t : TypeId) (k : FloatKind) (x y : Nat) : (binOp .sub t (.float k x) (.float k y)).run P w = .ok (.float k (fval .sub k x y w)) (w.drewN (fcnt .sub k x y)) := run_fop w _ t k x y (by simp)
@[go_sem] theorem run_fmul (t : TypeId) (k : FloatKind) (x y : Nat) : (binOp .mul t (.float k x) (.float k y)).run P w = .ok (.float k (fval .mul k x y w)) (w.drewN (fcnt .mul k x y)) := run_fop w _ t k x y (by simp)
@[go_sem] theorem run_fquo (t : TypeId) (k : FloatKind) (x y : Nat) : (binOp .quo t (.float k x) (.float k y)).run P w = .ok (.float k (fval .quo k x y w)) (w.drewN (fcnt .quo k x y)) := run_fop w _ t k x y (by simp)
end

/-! ### Minus -/
theorem rung_neg (k : FloatKind) (b : Nat) : Op.negFloat k b % k.format.signWeight = b % k.format.signWeight := by
  unfold Op.negFloat Format.signWeight
  rw [Nat.xor_mod_two_pow, Nat.mod_self, Nat.xor_zero]
theorem nanB_f32 (x : Nat) : nanB .f32 x = decide (2139095040 < x % 2147483648) := by
  unfold nanB FloatKind.format Format.read
  have e1 : single.signWeight = 2147483648 := by decide
  have e2 : single.binade = 8388608 := by decide
  have e3 : single.infRung = 2139095040 := by decide
  simp only [e1, e2, e3]
  generalize x % 2147483648 = m
  by_cases h1 : m < 8388608
  · rw [if_pos h1]; symm; simp [Datum.isNaN]; omega
  · rw [if_neg h1]
    by_cases h2 : m < 2139095040
    · rw [if_pos h2]; symm; simp [Datum.isNaN]; omega
    · rw [if_neg h2]
      by_cases h3 : m = 2139095040
      · rw [if_pos h3]; symm; simp [Datum.isNaN]; omega
      · rw [if_neg h3]; symm; simp [Datum.isNaN]; omega
theorem nanB_f64 (x : Nat) : nanB .f64 x = decide (9218868437227405312 < x % 9223372036854775808) := by
  unfold nanB FloatKind.format Format.read
  have e1 : double.signWeight = 9223372036854775808 := by decide
  have e2 : double.binade = 4503599627370496 := by decide
  have e3 : double.infRung = 9218868437227405312 := by decide
  simp only [e1, e2, e3]
  generalize x % 9223372036854775808 = m
  by_cases h1 : m < 4503599627370496
  · rw [if_pos h1]; symm; simp [Datum.isNaN]; omega
  · rw [if_neg h1]
    by_cases h2 : m < 9218868437227405312
    · rw [if_pos h2]; symm; simp [Datum.isNaN]; omega
    · rw [if_neg h2]
      by_cases h3 : m = 9218868437227405312
      · rw [if_pos h3]; symm; simp [Datum.isNaN]; omega
      · rw [if_neg h3]; symm; simp [Datum.isNaN]; omega
theorem nanB_neg (k : FloatKind) (b : Nat) : nanB k (Op.negFloat k b) = nanB k b := by
  have h := rung_neg k b
  cases k
  · have e1 : FloatKind.f32.format.signWeight = 2147483648 := by decide
    rw [e1] at h
    rw [nanB_f32, nanB_f32, h]
  · have e1 : FloatKind.f64.format.signWeight = 9223372036854775808 := by decide
    rw [e1] at h
    rw [nanB_f64, nanB_f64, h]
def negC (k : FloatKind) (a : CF) : CF := a.map (Op.negFloat k)
theorem cv_neg (k : FloatKind) (b : Nat) : cv k (Op.negFloat k b) = negC k (cv k b) := by
  unfold cv negC
  rw [nanB_neg]
  cases nanB k b <;> rfl
theorem unary_neg_float (k : FloatKind) (b : Nat) : Op.unary .neg (.float k b) = pure (.float k (Op.negFloat k b)) := rfl

/-! ### From one kind to the other -/
def conv (s d : FloatKind) (x : Nat) (w : World) : Nat :=
  match floatToFloatBits s x d with
  | some r => r
  | none => match s.decode x with
    | .nan _ _ => Question.cut (.nanConv d x) (w.tape w.drawn (.nanConv d x))
    | _ => Question.cut (.floatToFloat x) (w.tape w.drawn (.floatToFloat x))
def convn (s d : FloatKind) (x : Nat) : Nat := if (floatToFloatBits s x d).isSome = true then 0 else 1
section
variable {P : Program} (w : World)
@[go_sem] theorem run_conv (src dst : TypeId) (s d : FloatKind) (x : Nat) (hs : (P.underlying src).isSome = true) (hd : P.underlying dst = some (.float d)) :
    (convert src dst (.float s x)).run P w = .ok (.float d (conv s d x w)) (w.drewN (convn s d x)) := by
  cases h : floatToFloatBits s x d with
  | some r =>
    rw [run_convert_float_float w src dst s d x r hs hd h]
    simp [conv, convn, h, World.drewN_zero]
  | none =>
    have hn : w.drewN (convn s d x) = { w with drawn := w.drawn + 1 } := by simp [convn, h, World.drewN]
    rw [hn]
    obtain ⟨u, hs'⟩ := Option.isSome_iff_exists.1 hs
    have h0 := h
    unfold floatToFloatBits at h
    split at h
    · cases h
    · rename_i ne
      split at h
      · rename_i sg m he
        cases u <;> simp [convert, run_underlying hs', run_underlying hd, Conv.floatToFloat, ne, he, conv, h0, choose, Sem.run, Question.forced]
      · cases h
      · rename_i sg m e he
        split at h
        · rename_i ho
          cases u <;> simp [convert, run_underlying hs', run_underlying hd, Conv.floatToFloat, ne, he, ho, conv, h0, choose, Sem.run, Question.forced]
        · cases h
end
def conC (s d : FloatKind) (a : CF) : CF := a.bind fun x => floatToFloatBits s x d
/-- Not too great for the kind. -/
def Fits (s d : FloatKind) (a : CF) : Prop := ∀ x, a = some x → (floatToFloatBits s x d).isSome = true
theorem floatToFloatBits_notNaN {s d : FloatKind} {x r : Nat} (hx : nanB s x = false) (h : floatToFloatBits s x d = some r) : nanB d r = false := by
  unfold floatToFloatBits at h
  split at h
  · rename_i e; cases h; subst e; exact hx
  · split at h
    · cases h
    · cases h; exact write_notNaN _ rfl
    · split at h
      · cases h
      · cases h; exact write_notNaN _ rfl
theorem cv_conv (s d : FloatKind) (hsd : s ≠ d) (x : Nat) (w : World) (hf : Fits s d (cv s x)) : cv d (conv s d x w) = conC s d (cv s x) := by
  by_cases hn : nanB s x = true
  · have h0 : cv s x = none := by unfold cv; rw [if_pos hn]
    rw [h0]
    have hd : ∃ sg m, s.decode x = .nan sg m := by
      unfold nanB at hn
      unfold FloatKind.decode
      cases hr : s.format.read x with
      | nan a b => exact ⟨a, b, rfl⟩
      | number a b c => rw [hr] at hn; simp [Datum.isNaN] at hn
      | infinity a => rw [hr] at hn; simp [Datum.isNaN] at hn
    obtain ⟨sg, m, hd⟩ := hd
    have h1 : floatToFloatBits s x d = none := by unfold floatToFloatBits; rw [if_neg hsd]; simp [hd]
    unfold conv cv
    simp only [h1, hd]
    rw [if_pos (nan_cut_conv d x _)]; rfl
  · have h0 : cv s x = some x := by unfold cv; rw [if_neg hn]
    obtain ⟨r, hr⟩ := Option.isSome_iff_exists.1 (hf x h0)
    rw [h0]
    unfold conv conC cv
    simp only [hr, Option.bind_some]
    rw [if_neg (by rw [floatToFloatBits_notNaN (by simpa using hn) hr]; exact Bool.false_ne_true)]

@[go_sem] theorem run_store_float {P : Program} (w : World) (a : Addr) (m : Mode) (k : FloatKind) (b : Nat) : (store a (.float k b) m).run P w = stored P w a (.float k b) m := run_store P w a _ m rfl

attribute [go_sem] order_cv cv_fval cv_neg unary_neg_float
end Go.Fl
