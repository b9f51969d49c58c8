/- New strings. No condition. -/
import Derived.Test.YtpchebclhjgcmaaHj
import Derived.Test.YtpchebclhjgcmaaHk
import Derived.Test.YtpchebclhjgcmaaFg
import Derived.Test.YtpchebclhjgcmaaEx
namespace Go.Proofs.Ytpchebclhjgcmaa
open Go.RowKit Go.Fl
theorem c_inside (a lo hi : Nat) (v : Bool) (w : World) (h : inR a lo hi = v) : Calls Try.prog 58 #[.float .f32 a, .float .f32 lo, .float .f32 hi] w fun e w' => e = .returned (.bool v) ∧ w = w' := by
  have HV := Lib.hid h
  have HR := Lib.hid (show ((ordC .f32 (cv .f32 a) (cv .f32 lo) == some .gt || ordC .f32 (cv .f32 a) (cv .f32 lo) == some .eq) && (ordC .f32 (cv .f32 a) (cv .f32 hi) == some .lt || ordC .f32 (cv .f32 a) (cv .f32 hi) == some .eq)) = inR a lo hi from rfl)
  clear h
  cases h1 : (ordC .f32 (cv .f32 a) (cv .f32 lo) == some .gt || ordC .f32 (cv .f32 a) (cv .f32 lo) == some .eq)
  · rw [h1, Bool.false_and] at HR
    go_enter Try.func58, Try.ntmps58
    go_wp2
    go_ret
    exact ⟨ret_boolx (HR.out.trans HV.out), rfl⟩
  · rw [h1, Bool.true_and] at HR
    cases h2 : (ordC .f32 (cv .f32 a) (cv .f32 hi) == some .lt || ordC .f32 (cv .f32 a) (cv .f32 hi) == some .eq)
    all_goals
      rw [h2] at HR
      go_enter Try.func58, Try.ntmps58
      go_wp2
      go_ret
      exact ⟨ret_boolx (HR.out.trans HV.out), rfl⟩
theorem c_mFloor (x : Nat) (w : World) : Calls Try.prog 59 #[.float .f64 x] w fun e w' => e = .returned (.float .f64 (ival .down x w)) ∧ ∃ n, w' = w.drewN n := by
  go_enter Try.func59, Try.ntmps59
  go_wp2
  go_ret
  exact ⟨rfl, _, rfl⟩
def newX (p m : Nat) : CF := cop .sub .f32 (cv .f32 p) (cv .f32 m)
def newK (p m : Nat) : Int := ((newX p m).bind fun x => floatToIntVal .f32 x .i64).getD 0
def newT (p m : Nat) : Bool := ordC .f32 (cop .sub .f32 (newX p m) (cv .f32 (floatOfInt .f32 (newK p m)))) (cv .f32 1048576000) == some .lt
def newN (p m : Nat) : Nat := (if newT p m = true then newK p m - 1 else newK p m).toNat
def newY (p m : Nat) : CF := cop .sub .f32 (newX p m) (cv .f32 (floatOfInt .f32 (newN p m : Int)))
def newOk (p m l : Nat) : Bool := inR p 1077936128 1149239296 && (inR m 0 1056964608 && inR l 0 1065353216)
def NewRel (p m l n : Nat) (F G : Fil) (l' : Nat) (q : Int) : Prop :=
  (newOk p m l = true ∧ n = newN p m ∧ (∃ qq, AllRel (newY p m) F.k (cv .f32 F.c0) qq) ∧ F.c1 = 0 ∧ F.c2 = 0 ∧ F.s0 = 0 ∧ F.s1 = 0 ∧ G.k = 2 ∧ cv .f32 G.c0 = cop .sub .f32 (cv .f32 1065353216) (cv .f32 m) ∧ G.c1 = m ∧ G.c2 = 0 ∧ G.s0 = 0 ∧ G.s1 = 0 ∧ l' = l ∧ q = 0) ∨
  (newOk p m l = false ∧ n = 0 ∧ F = filZ ∧ G = filZ ∧ l' = 0 ∧ q = 2)
theorem NewRel.same {p m l n n' : Nat} {F G F' G' : Fil} {l1 l2 : Nat} {q q' : Int} (h : NewRel p m l n F G l1 q) (h' : NewRel p m l n' F' G' l2 q') : n = n' ∧ FilEq F F' ∧ FilEq G G' ∧ l1 = l2 ∧ q = q' := by
  rcases h with ⟨h0, rfl, ⟨q1, hA⟩, a1, a2, a3, a4, b0, b1, b2, b3, b4, b5, rfl, rfl⟩ | ⟨h0, rfl, rfl, rfl, rfl, rfl⟩ <;> rcases h' with ⟨g0, rfl, ⟨q2, gA⟩, c1, c2, c3, c4, d0, d1, d2, d3, d4, d5, rfl, rfl⟩ | ⟨g0, rfl, rfl, rfl, rfl, rfl⟩
  · obtain ⟨e1, e2, _⟩ := hA.same gA
    exact ⟨rfl, ⟨e1, e2, by rw [a1, c1], by rw [a2, c2], by rw [a3, c3], by rw [a4, c4]⟩, ⟨by rw [b0, d0], by rw [b1, d1], by rw [b2, d2], by rw [b3, d3], by rw [b4, d4], by rw [b5, d5]⟩, rfl, rfl⟩
  · rw [h0] at g0; cases g0
  · rw [h0] at g0; cases g0
  · exact ⟨rfl, FilEq.refl _, FilEq.refl _, rfl, rfl⟩
theorem NewRel.le {p m l n : Nat} {F G : Fil} {l1 : Nat} {q : Int} (h : NewRel p m l n F G l1 q) : (n : Int) ≤ 4294967296 := by
  rcases h with ⟨h0, rfl, _⟩ | ⟨h0, rfl, _⟩
  · unfold newOk at h0
    rw [Bool.and_eq_true, Bool.and_eq_true] at h0
    obtain ⟨x, k, hx, hc, hi, fx, k1, k2, _⟩ := new_len p m h0.1 h0.2.1
    have e : newK p m = k := by unfold newK newX; rw [hc]; simp only [Option.bind_some, hi, Option.getD_some]
    unfold newN
    rw [e]
    split <;> omega
  · decide
def NewPost (p m l : Nat) (w : World) (e : Ending) (w' : World) : Prop := ∃ A c n F G l' q, e = .returned (.tuple #[.agg (strC A n c 0 F G l').toArray, .int .i64 q]) ∧ Own w' w.heap.size A c (List.replicate n 0) 25 ∧ NewRel p m l n F G l' q ∧ Below w.heap.size w w'
theorem new_no {p m l : Nat} (h : newOk p m l = false) : NewRel p m l 0 filZ filZ 0 2 := .inr ⟨h, rfl, rfl, rfl, rfl, rfl⟩
/-- What the walks need of the length. -/
theorem new_walk (p m : Nat) (h1 : inR p 1077936128 1149239296 = true) (h2 : inR m 0 1056964608 = true) : ∃ x k : Nat, (∀ w, fval .sub .f32 p m w = x) ∧ 2 ≤ k ∧ k ≤ 1024 ∧ (∀ w, f2i .f32 x .i64 w = (k : Int)) ∧ (∀ w w', ival .down (conv .f32 .f64 x w) w' = floatOfInt .f64 (k : Int)) ∧
    cv .f32 x = newX p m ∧ newK p m = k ∧ (∃ y0, (∀ w, fval .sub .f32 x (floatOfInt .f32 (k : Int)) w = y0) ∧ newT p m = (ordC .f32 (cv .f32 y0) (cv .f32 1048576000) == some .lt)) ∧ (∃ y, (∀ w, fval .sub .f32 x (floatOfInt .f32 (newN p m : Int)) w = y) ∧ cv .f32 y = newY p m) := by
  obtain ⟨x, k, hx, hc, hi, fx, k1, k2, hf, hd⟩ := new_len p m h1 h2
  have e : newK p m = k := by unfold newK newX; rw [hc]; simp only [Option.bind_some, hi, Option.getD_some]
  have ex : cv .f32 x = newX p m := by
    have := cv_fval (op := .sub) (k := .f32) (x := p) (y := m) (w := default)
    rw [hx] at this; exact this
  have hn : newN p m < 1025 := by unfold newN; rw [e]; split <;> omega
  obtain ⟨y0, h3, h4, _⟩ := sub_some fx (small_facts (show k < 1025 by omega)).2.2.1
  obtain ⟨y, h5, h6, _⟩ := sub_some fx (small_facts hn).2.2.1
  refine ⟨x, k, hx, k1, k2, hf, hd, ex, e, ⟨y0, h3, ?_⟩, ⟨y, h5, ?_⟩⟩
  · unfold newT
    rw [← ex, e]
    have := cv_fval (op := .sub) (k := .f32) (x := x) (y := floatOfInt .f32 (k : Int)) (w := default)
    rw [h3] at this
    rw [this]
  · unfold newY
    rw [← ex]
    have := cv_fval (op := .sub) (k := .f32) (x := x) (y := floatOfInt .f32 (newN p m : Int)) (w := default)
    rw [h5] at this
    exact this
end Go.Proofs.Ytpchebclhjgcmaa
