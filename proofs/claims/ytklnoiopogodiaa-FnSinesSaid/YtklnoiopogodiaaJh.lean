/- Sines: what a law about them needs. No condition. -/
import Derived.Test.YtklnoiopogodiaaJfa
import Derived.Test.YtklnoiopogodiaaJfb
import Derived.Test.YtklnoiopogodiaaJfc
import Derived.Test.YtklnoiopogodiaaJfd
import Derived.Test.YtklnoiopogodiaaJg
import Derived.Test.YtklnoiopogodiaaJn
import Derived.Test.YtklnoiopogodiaaCa
import Derived.Test.YtklnoiopogodiaaSf
import Derived.Test.YtklnoiopogodiaaSh
namespace Go.Proofs.Ytklnoiopogodiaa
open Go.RowKit Go.Fl Ieee
theorem rowBelowD {w w' : World} {g m : Nat} {cs : Array Value} {t : TypeId} (h : Row w g cs t) (hb : Below (w.drewN m).heap.size (w.drewN m) w') : Row w' g cs t := Row.below (w := w.drewN m) h hb h.lt
theorem seqBelowD {w0 w w' : World} {m : Nat} (hb : Below w0.heap.size w0 w) (b : Below (w.drewN m).heap.size (w.drewN m) w') : Below w0.heap.size w0 w' := seq_below (below_drewN hb m) b
theorem all_at {m : Nat} {f : Nat → Bool} (h : (List.range m).all f = true) {n : Nat} (hn : n < m) : f n = true := by
  rw [List.all_eq_true] at h
  exact h n (by simpa using hn)
theorem fval_fix {op : BinOp} {x y : Nat} {c : CF} (h : cop op .f32 (cv .f32 x) (cv .f32 y) = c) (ht : c ≠ none) : ∃ r, (∀ w, fval op .f32 x y w = r) ∧ cv .f32 r = c := by
  cases c with
  | none => exact absurd rfl ht
  | some r =>
    have e : ∀ w, cv .f32 (fval op .f32 x y w) = some r := fun w => by rw [cv_fval, h]
    refine ⟨r, fun w => (cv_some (e w)).2.symm, ?_⟩
    have h1 := e default
    rw [← (cv_some h1).2] at h1
    exact h1
theorem at_some {a : CF} {m : Nat} (h : snAt a m = true) : a ≠ none := by
  intro e; subst e
  unfold snAt at h
  rw [Bool.and_eq_true] at h
  exact absurd h.1 (by decide)
theorem sn_hv (m : Nat) (h : m < 256) : snH (snU m) = some (snV m) := eq_of_beq (all_at sn_c h)
theorem sn_num (m : Nat) (h : m < 256) : cv .f32 (snV m) = some (snV m) := by
  have := all_at sn_d h
  unfold snAllD at this
  simp only [Bool.and_eq_true] at this
  have h3 := this.2.2.1
  unfold eqB at h3
  cases hc : nanB .f32 (snV m)
  · exact cv_of hc
  · rw [cv_nan hc] at h3; exact absurd h3 (by decide)
theorem noise_range (s : Int) : (ordC .f32 (noiseC s) (cv .f32 3212836864) == some .lt) = false ∧ (ordC .f32 (noiseC s) (cv .f32 1065353216) == some .gt || ordC .f32 (noiseC s) (cv .f32 1065353216) == some .eq) = false ∧ ∃ r, noiseC s = some r := by
  obtain ⟨r, e, _, h1, h2⟩ := noise_unit ((1974033781 * s + 907633385) % 4294967296 / 256 - 8388608) (by omega) (by omega)
  unfold noiseC
  rw [e]
  refine ⟨?_, ?_, r, rfl⟩
  · exact beq_eq_false_iff_ne.2 h1
  · rw [h2]; decide
theorem noise_at {s : Int} {r : Nat} (h : cv .f32 r = noiseC s) : (ordC .f32 (cv .f32 r) (cv .f32 3212836864) == some .lt) = false ∧ ordC .f32 (cv .f32 r) (cv .f32 1065353216) = some .lt := by
  obtain ⟨q, e, _, h1, h2⟩ := noise_unit ((1974033781 * s + 907633385) % 4294967296 / 256 - 8388608) (by omega) (by omega)
  rw [h]
  unfold noiseC
  rw [e]
  exact ⟨beq_eq_false_iff_ne.2 h1, h2⟩
theorem seed_range (s : Int) (h : 0 ≤ s ∧ s < 4294967296) : ∀ k, 0 ≤ seedAt s k ∧ seedAt s k < 4294967296
  | 0 => h
  | k + 1 => by
    show 0 ≤ nextS (seedAt s k) ∧ nextS (seedAt s k) < 4294967296
    unfold nextS
    generalize seedAt s k = z
    omega
/-- What a law about sines computes with. -/
structure SnF (n : Nat) (kk : Int) (x p y z a c d : Nat) : Prop where
  hx : ∀ w, fval .quo .f32 (floatOfInt .f32 (n : Int)) 1132462080 w = x
  hp : ∀ w, fval .add .f32 x (floatOfInt .f32 kk) w = p
  hy : ∀ w, fval .sub .f32 1065353216 x w = y
  hz : ∀ w, fval .add .f32 x 1048576000 w = z
  sx : sineC (cv .f32 x) = some a
  sp : sineC (cv .f32 p) = some a
  sy : sineC (cv .f32 y) = some c
  sz : sineC (cv .f32 z) = some d
  t1 : (ordC .f32 (cv .f32 a) (cv .f32 1065353216) == some .gt) = false
  t2 : (ordC .f32 (cv .f32 a) (cv .f32 3212836864) == some .lt) = false
  t3 : (ordC .f32 (cv .f32 a) (cv .f32 a) == some .eq) = true
  t4 : (ordC .f32 (cv .f32 c) (negC .f32 (cv .f32 a)) == some .eq) = true
  t5 : (ordC .f32 (cop .sub .f32 (cop .add .f32 (cop .mul .f32 (cv .f32 a) (cv .f32 a)) (cop .mul .f32 (cv .f32 d) (cv .f32 d))) (cv .f32 1065353216)) (cv .f32 897988541) == some .gt) = false
  t6 : (ordC .f32 (cop .sub .f32 (cop .add .f32 (cop .mul .f32 (cv .f32 a) (cv .f32 a)) (cop .mul .f32 (cv .f32 d) (cv .f32 d))) (cv .f32 1065353216)) (cv .f32 3045472189) == some .lt) = false
  tq : tabQ (cv .f32 x) = 0
  tt : ∀ rs, TabTo tabC 257 rs → nth rs n = a ∧ (ordC .f32 (tabAt rs (cv .f32 x)) (cv .f32 a) == some .eq) = true
theorem sines_facts (n k : Nat) (hn : n < 256) (hk : k < 9) : ∃ x p y z a c d, SnF n ((k : Int) - 4) x p y z a c d := by
  have hA : snAt (snP n k) n = true := by
    have := all_at sn_a hn
    unfold snAllA at this
    exact all_at this hk
  have hB := all_at sn_b hn
  unfold snAllB at hB
  simp only [Bool.and_eq_true] at hB
  obtain ⟨hX, hC, hD⟩ := hB
  have hT := all_at sn_d hn
  unfold snAllD at hT
  simp only [Bool.and_eq_true, Bool.not_eq_true'] at hT
  obtain ⟨u1, u2, u3, u4, u5, u6⟩ := hT
  have hE := all_at sn_e hn
  unfold snAllE at hE
  simp only [Bool.and_eq_true] at hE
  obtain ⟨e1, e2, e3⟩ := hE
  obtain ⟨x, hx, cx⟩ := fval_fix (op := .quo) (x := floatOfInt .f32 (n : Int)) (y := 1132462080) (c := snX n) rfl (at_some hX)
  obtain ⟨p, hp, cp⟩ := fval_fix (op := .add) (x := x) (y := floatOfInt .f32 ((k : Int) - 4)) (c := snP n k) (by rw [cx]; rfl) (at_some hA)
  obtain ⟨y, hy, cy⟩ := fval_fix (op := .sub) (x := 1065353216) (y := x) (c := snC n) (by rw [cx]; rfl) (at_some hC)
  obtain ⟨z, hz, cz⟩ := fval_fix (op := .add) (x := x) (y := 1048576000) (c := snD n) (by rw [cx]; rfl) (at_some hD)
  have m1 : (256 - n) % 256 < 256 := Nat.mod_lt _ (by decide)
  have m2 : (n + 64) % 256 < 256 := Nat.mod_lt _ (by decide)
  have htab : ∀ j, j < 257 → tabC j = some (snV (j % 256)) := fun j hj => by
    by_cases h6 : j < 256
    · have hb := all_at sn_b h6
      unfold snAllB at hb
      simp only [Bool.and_eq_true] at hb
      rw [Nat.mod_eq_of_lt h6]
      exact snAt_sine hb.1 (sn_hv j h6)
    · have : j = 256 := by omega
      subst this
      exact snAt_sine sn_256 (sn_hv 0 (by decide))
  refine ⟨x, p, y, z, snV n, snV ((256 - n) % 256), snV ((n + 64) % 256), hx, hp, hy, hz, ?_, ?_, ?_, ?_, u1, u2, u3, u4, u5, u6, ?_, ?_⟩
  · rw [cx]; exact snAt_sine hX (sn_hv n hn)
  · rw [cp]; exact snAt_sine hA (sn_hv n hn)
  · rw [cy]; exact snAt_sine hC (sn_hv _ m1)
  · rw [cz]; exact snAt_sine hD (sn_hv _ m2)
  · rw [cx]; unfold tabQ; rw [if_pos (show UnitB (snX n) = true from e1)]
  · intro rs hrs
    have hc : ∀ j, j < 257 → cv .f32 (nth rs j) = cv .f32 (snV (j % 256)) := fun j hj => by
      rw [hrs.2 j hj, htab j hj, sn_num _ (Nat.mod_lt _ (by decide))]
    refine ⟨?_, ?_⟩
    · have h1 := hrs.2 n (by omega)
      rw [htab n (by omega), Nat.mod_eq_of_lt hn] at h1
      exact (cv_some h1).2.symm
    · rw [cx]
      unfold tabAt
      rw [if_pos (show UnitB (snX n) = true from e1)]
      unfold tabV
      have hk : tabK (snX n) = n := eq_of_beq e2
      rw [hk, if_neg (by omega), hc n (by omega), hc (n + 1) (by omega), Nat.mod_eq_of_lt hn]
      exact e3
theorem c_SineV (x a : Nat) (w : World) (h : sineC (cv .f32 x) = some a) : Calls Try.prog 10 #[.float .f32 x] w fun e w' => e = .returned (.float .f32 a) ∧ Below w.heap.size w w' :=
  (c_SineOf x w).mono fun _ _ ⟨r, he, hr, hb⟩ => ⟨by rw [he, (cv_some (hr.trans h)).2], hb⟩
theorem c_sSineV (x a : Nat) (w : World) (h : sineC (cv .f32 x) = some a) : Calls Try.prog 9 #[.float .f32 x] w fun e w' => e = .returned (.float .f32 a) ∧ Below w.heap.size w w' := by
  have H := Lib.hid h; clear h
  go_enter Try.func9, Try.ntmps9
  go_wp2_with fail
  refine (c_l01Sine _ _).mono ?_; rintro e w1 ⟨r, rfl, hr, b⟩
  obtain rfl := (cv_some (hr.trans H.out)).2
  go_wp2_with fail
  go_ret
  exact ⟨rfl, b⟩
end Go.Proofs.Ytklnoiopogodiaa
