/- The values of a table. Written by gensh.py. No condition. -/
import Derived.Test.YtklnoiopogodiaaC1
import Derived.Test.YtklnoiopogodiaaEx
import Derived.Test.YtklnoiopogodiaaSg
namespace Go.Proofs.Ytklnoiopogodiaa
open Go.RowKit Go.Fl
def UnitB (a : CF) : Bool := (ordC .f32 a (cv .f32 0) == some .gt || ordC .f32 a (cv .f32 0) == some .eq) && (ordC .f32 a (cv .f32 1065353216) == some .lt || ordC .f32 a (cv .f32 1065353216) == some .eq)
def tabK (a : CF) : Nat := (((cop .mul .f32 a (cv .f32 1132462080)).bind fun x => floatToIntVal .f32 x .i64).getD 0).toNat
def tabV (xs : List Nat) (a : CF) : CF := if tabK a = 256 then cv .f32 (nth xs 256) else cop .add .f32 (cv .f32 (nth xs (tabK a))) (cop .mul .f32 (cop .sub .f32 (cop .mul .f32 a (cv .f32 1132462080)) (cv .f32 (floatOfInt .f32 (tabK a : Int)))) (cop .sub .f32 (cv .f32 (nth xs (tabK a + 1))) (cv .f32 (nth xs (tabK a)))))
def tabAt (xs : List Nat) (a : CF) : CF := if UnitB a = true then tabV xs a else cv .f32 0
def tabQ (a : CF) : Int := if UnitB a = true then 0 else 2
def TabPost (xs : List Nat) (a : Nat) (w : World) (e : Ending) (w' : World) : Prop := ∃ r, e = .returned (.tuple #[.float .f32 r, .int .i64 (tabQ (cv .f32 a))]) ∧ cv .f32 r = tabAt xs (cv .f32 a) ∧ Below w.heap.size w w'
theorem unit_no {a : CF} (h : UnitB a = false) (xs : List Nat) : (2 = tabQ a) ∧ cv .f32 0 = tabAt xs a := by
  unfold tabQ tabAt; rw [h]; exact ⟨rfl, rfl⟩
theorem unit_yes {a : CF} (h : UnitB a = true) (xs : List Nat) : (0 = tabQ a) ∧ tabV xs a = tabAt xs a := by
  unfold tabQ tabAt; rw [h]; exact ⟨rfl, rfl⟩
theorem ret_tab {r : Nat} {q q' : Int} (h : q = q') : Ending.returned (.tuple #[.float .f32 r, .int .i64 q]) = .returned (.tuple #[.float .f32 r, .int .i64 q']) := by rw [h]
theorem unit_index (a : Nat) (h1 : (ordC .f32 (cv .f32 a) (cv .f32 0) == some .gt || ordC .f32 (cv .f32 a) (cv .f32 0) == some .eq) = true) (h2 : (ordC .f32 (cv .f32 a) (cv .f32 1065353216) == some .lt || ordC .f32 (cv .f32 a) (cv .f32 1065353216) == some .eq) = true) :
    ∃ k : Nat, k = tabK (cv .f32 a) ∧ k ≤ 256 ∧ (∀ w w', f2i .f32 (fval .mul .f32 a 1132462080 w) .i64 w' = (k : Int)) ∧ (∀ w w1 w2 w3, f2i .f64 (ival .down (conv .f32 .f64 (fval .mul .f32 a 1132462080 w) w1) w2) .i64 w3 = (k : Int)) := by
  obtain ⟨x, k, hx, hk, hi, y, hy, hj⟩ := tab_index a (by simpa using h1) (by simpa using h2)
  refine ⟨k, ?_, hk, ?_, ?_⟩
  · unfold tabK; rw [hx]; simp only [Option.bind_some, hi, Option.getD_some]; rfl
  · intro w w'
    have e := cv_fval (op := .mul) (k := .f32) (x := a) (y := 1132462080) (w := w)
    rw [hx] at e
    rw [(cv_some e).2.symm]
    exact f2i_of w' hi
  · intro w w1 w2 w3
    have e := cv_fval (op := .mul) (k := .f32) (x := a) (y := 1132462080) (w := w)
    rw [hx] at e
    have e2 : cv .f64 (ival .down (conv .f32 .f64 (fval .mul .f32 a 1132462080 w) w1) w2) = some y := by rw [cv_ival, cv_wid, e]; exact hy
    rw [(cv_some e2).2.symm]
    exact f2i_of w3 hj
set_option maxRecDepth 20000 in
set_option maxHeartbeats 4000000 in
theorem c_sTableAt (xs : List Nat) (a : Nat) (w : World) (hx : xs.length = 257) : Calls Try.prog 18 #[.agg (fl xs), .float .f32 a] w (TabPost xs a w) := by
  have h1 : Blk (w.alloc (.cells (fl xs) 28)) w.heap.size xs 28 := Blk.new _ _ _ _ rfl
  have hb := Go.Joins.below_alloc1 w (.cells (fl xs) 28)
  have HX := Lib.hid hx; clear hx
  cases hlo : (ordC .f32 (cv .f32 a) (cv .f32 0) == some .gt || ordC .f32 (cv .f32 a) (cv .f32 0) == some .eq)
  · have HU := Lib.hid (unit_no (show UnitB (cv .f32 a) = false from by unfold UnitB; rw [hlo]; rfl) xs)
    clear h1
    go_enter Try.func18, Try.ntmps18
    go_wp2
    go_ret2
    exact ⟨_, ret_tab HU.out.1, HU.out.2, hb⟩
  cases hhi : (ordC .f32 (cv .f32 a) (cv .f32 1065353216) == some .lt || ordC .f32 (cv .f32 a) (cv .f32 1065353216) == some .eq)
  · have HU := Lib.hid (unit_no (show UnitB (cv .f32 a) = false from by unfold UnitB; rw [hlo, hhi]; rfl) xs)
    clear h1
    go_enter Try.func18, Try.ntmps18
    go_wp2
    go_ret2
    exact ⟨_, ret_tab HU.out.1, HU.out.2, hb⟩
  have HU := Lib.hid (unit_yes (show UnitB (cv .f32 a) = true from by unfold UnitB; rw [hlo, hhi]; rfl) xs)
  obtain ⟨k, hk, hle, hf, hd⟩ := unit_index a hlo hhi
  have HK := Lib.hid hk; clear hk
  by_cases h256 : k = 256
  · subst h256
    have HE := Lib.hid (show cv .f32 (nth xs 256) = tabAt xs (cv .f32 a) from by rw [← HU.out.2]; unfold tabV; rw [← HK.out, if_pos rfl])
    have c1 := h1.cell 256 (by rw [HX.out]; decide)
    have hf' : ∀ w w', f2i .f32 (fval .mul .f32 a 1132462080 w) .i64 w' = 256 := hf
    have hd' : ∀ w w1 w2 w3, f2i .f64 (ival .down (conv .f32 .f64 (fval .mul .f32 a 1132462080 w) w1) w2) .i64 w3 = 256 := hd
    clear hf hd HK
    go_enter Try.func18, Try.ntmps18
    go_wp2
    go_ret2
    exact ⟨_, ret_tab HU.out.1, HE.out, by first | exact hb | exact below_drewN hb _⟩
  · have hlt : k < 256 := by omega
    have HE := Lib.hid (show cop .add .f32 (cv .f32 (nth xs k)) (cop .mul .f32 (cop .sub .f32 (cop .mul .f32 (cv .f32 a) (cv .f32 1132462080)) (cv .f32 (floatOfInt .f32 (k : Int)))) (cop .sub .f32 (cv .f32 (nth xs (k + 1))) (cv .f32 (nth xs k)))) = tabAt xs (cv .f32 a) from by rw [← HU.out.2]; unfold tabV; rw [← HK.out, if_neg h256])
    have c1 := h1.cell k (by rw [HX.out]; omega)
    have c2 := h1.cell (k + 1) (by rw [HX.out]; omega)
    have hne : ((k : Int) == 256) = false := by simp; omega
    have i0 : (0 : Int) ≤ k := by omega
    have i1 : (k : Int) < 256 := by omega
    have i2 : (k : Int) < 257 := by omega
    have i3 : (k : Int) + 1 < 257 := by omega
    clear HK h256
    go_enter Try.func18, Try.ntmps18
    go_wp2
    go_region
    go_wp2
    go_ret2
    exact ⟨_, ret_tab HU.out.1, (by simp only [cv_fval]; exact HE.out), by first | exact hb | exact below_drewN hb _⟩
set_option maxRecDepth 20000 in
set_option maxHeartbeats 4000000 in
theorem c_iTableAt (xs : List Nat) (a : Nat) (w : World) (hx : xs.length = 257) : Calls Try.prog 20 #[.agg (fl xs), .float .f32 a] w (TabPost xs a w) := by
  have h1 : Blk (w.alloc (.cells (fl xs) 28)) w.heap.size xs 28 := Blk.new _ _ _ _ rfl
  have hb := Go.Joins.below_alloc1 w (.cells (fl xs) 28)
  have HX := Lib.hid hx; clear hx
  cases hlo : (ordC .f32 (cv .f32 a) (cv .f32 0) == some .gt || ordC .f32 (cv .f32 a) (cv .f32 0) == some .eq)
  · have HU := Lib.hid (unit_no (show UnitB (cv .f32 a) = false from by unfold UnitB; rw [hlo]; rfl) xs)
    clear h1
    go_enter Try.func20, Try.ntmps20
    go_wp2
    go_ret2
    exact ⟨_, ret_tab HU.out.1, HU.out.2, hb⟩
  cases hhi : (ordC .f32 (cv .f32 a) (cv .f32 1065353216) == some .lt || ordC .f32 (cv .f32 a) (cv .f32 1065353216) == some .eq)
  · have HU := Lib.hid (unit_no (show UnitB (cv .f32 a) = false from by unfold UnitB; rw [hlo, hhi]; rfl) xs)
    clear h1
    go_enter Try.func20, Try.ntmps20
    go_wp2
    go_ret2
    exact ⟨_, ret_tab HU.out.1, HU.out.2, hb⟩
  have HU := Lib.hid (unit_yes (show UnitB (cv .f32 a) = true from by unfold UnitB; rw [hlo, hhi]; rfl) xs)
  obtain ⟨k, hk, hle, hf, hd⟩ := unit_index a hlo hhi
  have HK := Lib.hid hk; clear hk
  by_cases h256 : k = 256
  · subst h256
    have HE := Lib.hid (show cv .f32 (nth xs 256) = tabAt xs (cv .f32 a) from by rw [← HU.out.2]; unfold tabV; rw [← HK.out, if_pos rfl])
    have c1 := h1.cell 256 (by rw [HX.out]; decide)
    have hf' : ∀ w w', f2i .f32 (fval .mul .f32 a 1132462080 w) .i64 w' = 256 := hf
    have hd' : ∀ w w1 w2 w3, f2i .f64 (ival .down (conv .f32 .f64 (fval .mul .f32 a 1132462080 w) w1) w2) .i64 w3 = 256 := hd
    clear hf hd HK
    go_enter Try.func20, Try.ntmps20
    go_wp2
    go_ret2
    exact ⟨_, ret_tab HU.out.1, HE.out, by first | exact hb | exact below_drewN hb _⟩
  · have hlt : k < 256 := by omega
    have HE := Lib.hid (show cop .add .f32 (cv .f32 (nth xs k)) (cop .mul .f32 (cop .sub .f32 (cop .mul .f32 (cv .f32 a) (cv .f32 1132462080)) (cv .f32 (floatOfInt .f32 (k : Int)))) (cop .sub .f32 (cv .f32 (nth xs (k + 1))) (cv .f32 (nth xs k)))) = tabAt xs (cv .f32 a) from by rw [← HU.out.2]; unfold tabV; rw [← HK.out, if_neg h256])
    have c1 := h1.cell k (by rw [HX.out]; omega)
    have c2 := h1.cell (k + 1) (by rw [HX.out]; omega)
    have hne : ((k : Int) == 256) = false := by simp; omega
    have i0 : (0 : Int) ≤ k := by omega
    have i1 : (k : Int) < 256 := by omega
    have i2 : (k : Int) < 257 := by omega
    have i3 : (k : Int) + 1 < 257 := by omega
    clear HK h256
    go_enter Try.func20, Try.ntmps20
    go_wp2
    go_region
    go_wp2
    go_ret2
    exact ⟨_, ret_tab HU.out.1, (by simp only [cv_fval]; exact HE.out), by first | exact hb | exact below_drewN hb _⟩
end Go.Proofs.Ytklnoiopogodiaa
