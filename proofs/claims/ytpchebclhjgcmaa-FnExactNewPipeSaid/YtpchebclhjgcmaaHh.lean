/- The period of a string. No condition. -/
import Derived.Test.YtpchebclhjgcmaaHg
namespace Go.Proofs.Ytpchebclhjgcmaa
open Go.RowKit Go.Fl
def perC (n : Nat) (c d : Nat) : CF := cop .add .f32 (cop .add .f32 (cv .f32 (floatOfInt .f32 (n : Int))) (cop .quo .f32 (cop .sub .f32 (cv .f32 1065353216) (cv .f32 c)) (cop .add .f32 (cv .f32 1065353216) (cv .f32 c)))) (cv .f32 d)
def perV (v : Bool) (n c d : Nat) : CF := if v = true then perC n c d else cv .f32 0
def perQ (v : Bool) : Int := if v = true then 0 else 1
def PerPost (v : Bool) (n c d : Nat) (w : World) (e : Ending) (w' : World) : Prop := ∃ r, e = .returned (.tuple #[.float .f32 r, .int .i64 (perQ v)]) ∧ cv .f32 r = perV v n c d ∧ Below w.heap.size w w'
set_option maxRecDepth 20000 in
set_option maxHeartbeats 2000000 in
theorem c_iPeriodOf (A : Option Addr) (n c : Nat) (a0 : Int) (F G : Fil) (l : Nat) (w : World) (hn : (n : Int) ≤ 4294967296) :
    Calls Try.prog 22 #[.agg (strC A n c a0 F G l).toArray] w (PerPost (vsB n a0 F G l) n F.c0 G.c1 w) := by
  have q1 : Row (w.alloc (.cells (strC A n c a0 F G l).toArray 37)) w.heap.size (strC A n c a0 F G l).toArray 37 := Row.new _ _ _ _ rfl
  have hb := Go.Joins.below_alloc1 w (.cells (strC A n c a0 F G l).toArray 37)
  have PK : Hid (∀ W, Row W w.heap.size (strC A n c a0 F G l).toArray 37 → W.cell? ⟨w.heap.size, 0, none⟩ = some (.slice A n c) ∧ W.cell? ⟨w.heap.size, 3, none⟩ = some (.float .f32 F.c0) ∧ W.cell? ⟨w.heap.size, 10, none⟩ = some (.float .f32 G.c1)) := fun W h => ⟨h.cell 0 _ rfl, h.cell 3 _ rfl, h.cell 10 _ rfl⟩
  have CV := Lib.hid (fun W => c_iValidString A n c a0 F G l W hn)
  have I1 : Hid ((Try.prog.info? 37).map (·.size) = some (strC A n c a0 F G l).toArray.size) := info_str
  generalize vsB n a0 F G l = v at *
  generalize strC A n c a0 F G l = T1 at *
  generalize F.c0 = p at *
  generalize G.c1 = q at *
  cases v
  all_goals
    go_enter Try.func22, Try.ntmps22
    go_wp2_with (refine wpList_load_cells rfl 37 _ rfl _ rfl q1 Try.underlying37 rfl I1.out ?_)
    refine (CV.out _).mono ?_; rintro e w1 ⟨rfl, b⟩
    obtain ⟨k0, k3, k10⟩ := PK.out _ (q1.below b q1.lt)
    replace hb := seq_below hb b
    clear q1 b
    go_wp2_with fail
    go_ret2
    exact ⟨_, rfl, by first | rfl | (simp only [cv_fval]; rfl), by first | exact hb | exact below_drewN hb _⟩
set_option maxRecDepth 20000 in
set_option maxHeartbeats 2000000 in
theorem c_sPeriodOf (A : Option Addr) (n c : Nat) (a0 : Int) (F G : Fil) (l : Nat) (w : World) (hn : (n : Int) ≤ 4294967296) :
    Calls Try.prog 21 #[.agg (strC A n c a0 F G l).toArray] w (PerPost (vsB n a0 F G l) n F.c0 G.c1 w) := by
  have q1 : Row (w.alloc (.cells (strC A n c a0 F G l).toArray 37)) w.heap.size (strC A n c a0 F G l).toArray 37 := Row.new _ _ _ _ rfl
  have hb := Go.Joins.below_alloc1 w (.cells (strC A n c a0 F G l).toArray 37)
  have PK : Hid (∀ W, Row W w.heap.size (strC A n c a0 F G l).toArray 37 → W.cell? ⟨w.heap.size, 0, none⟩ = some (.slice A n c) ∧ W.cell? ⟨w.heap.size, 3, none⟩ = some (.float .f32 F.c0) ∧ W.cell? ⟨w.heap.size, 10, none⟩ = some (.float .f32 G.c1)) := fun W h => ⟨h.cell 0 _ rfl, h.cell 3 _ rfl, h.cell 10 _ rfl⟩
  have CV := Lib.hid (c_sL03Ok _ A n c a0 F G l _ hn q1)
  generalize vsB n a0 F G l = v at *
  generalize strC A n c a0 F G l = T1 at *
  generalize F.c0 = p at *
  generalize G.c1 = q at *
  cases v
  all_goals
    go_enter Try.func21, Try.ntmps21
    go_wp2_with fail
    refine CV.out.mono ?_; rintro e w1 ⟨rfl, nq, rfl⟩
    obtain ⟨k0, k3, k10⟩ := PK.out _ q1
    clear q1
    go_wp2_with fail
    go_ret2
    exact ⟨_, rfl, by first | rfl | (simp only [cv_fval]; rfl), by first | exact below_drewN hb _ | exact below_drewN (below_drewN hb _) _⟩
theorem c_same32b (a b : Nat) (w1 w2 w : World) (h : cv .f32 a = cv .f32 b) :
    Calls Try.prog 23 #[.float .f64 (conv .f32 .f64 a w1), .float .f64 (conv .f32 .f64 b w2)] w fun e w' => e = .returned (.bool true) ∧ Below w.heap.size w w' :=
  (c_same32 a b w1 w2 w h).mono fun _ _ ⟨he, n, hw⟩ => ⟨he, by rw [hw]; exact below_drewN (Below.refl _ _) _⟩
end Go.Proofs.Ytpchebclhjgcmaa
