/- Contracts: the sum of the products. No condition. -/
import Derived.Test.YtbjaihboagompaaC3
namespace Go.Proofs.Ytbjaihboagompaa
open Go.RowKit Go.Fl

/-- The sum over the indices below k. -/
def dotC (xs ys : List Nat) : Nat → CF
  | 0 => none
  | 1 => cop .mul .f32 (cv .f32 (nth xs 0)) (cv .f32 (nth ys 0))
  | k + 1 => cop .add .f32 (dotC xs ys k) (cop .mul .f32 (cv .f32 (nth xs k)) (cv .f32 (nth ys k)))
theorem dotC_succ (xs ys : List Nat) (k : Nat) (h : 1 ≤ k) : dotC xs ys (k + 1) = cop .add .f32 (dotC xs ys k) (cop .mul .f32 (cv .f32 (nth xs k)) (cv .f32 (nth ys k))) := by
  cases k with
  | zero => omega
  | succ k => rfl
def FloatPost (c : CF) (w : World) (e : Ending) (w' : World) : Prop := ∃ r, e = .returned (.float .f32 r) ∧ cv .f32 r = c ∧ Below w.heap.size w w'
theorem c_l01Dot (xs ys : List Nat) (w : World) (hx : xs.length = 16) (hy : ys.length = 16) : Calls Try.prog 48 #[.agg (fl xs), .agg (fl ys)] w (FloatPost (dotC xs ys 16) w) := by
  have h1 : Blk ((w.alloc (.cells (fl xs) 33)).alloc (.cells (fl ys) 33)) w.heap.size xs 33 := (Blk.new _ _ _ _ rfl).alloc _
  have h2 : Blk ((w.alloc (.cells (fl xs) 33)).alloc (.cells (fl ys) 33)) (w.heap.size + 1) ys 33 := Blk.new _ _ _ _ (by simp)
  have hb : Below w.heap.size w ((w.alloc (.cells (fl xs) 33)).alloc (.cells (fl ys) 33)) := Go.Joins.below_alloc2 _ _ _
  have c1 := h1.cell 0 (by omega)
  have c2 := h2.cell 0 (by omega)
  have HX := Lib.hid hx; have HY := Lib.hid hy; clear hx hy
  go_enter Try.func48, Try.ntmps48
  go_wp2
  generalize hW : (w.alloc (.cells (fl xs) 33)).alloc (.cells (fl ys) 33) = W at *
  clear hW c1 c2
  go_loopw [5, 6] (fun s i wr => ∃ k r : Nat, 1 ≤ k ∧ k ≤ 16 ∧ i = .int .i64 k ∧ s = .float .f32 r ∧ Hid (cv .f32 r = dotC xs ys k) ∧ Below w.heap.size w wr ∧ Blk wr w.heap.size xs 33 ∧ Blk wr (w.heap.size + 1) ys 33) (fun _ i _ => 16 - (intOf i).toNat)
  case atStart => exact ⟨1, _, by omega, by omega, rfl, rfl, cv_fval .., below_drewN hb _, h1.drewN _, h2.drewN _⟩
  case round =>
    obtain ⟨k, r, hk1, hk, rfl, rfl, HC, hb, h1, h2⟩ := hrel
    by_cases hlt : k < 16
    · have c1 := h1.cell k (by rw [HX.out]; exact hlt)
      have c2 := h2.cell k (by rw [HY.out]; exact hlt)
      have hi : (0 : Int) ≤ k := by omega
      have hi2 : (k : Int) < 16 := by omega
      go_wp2
      go_region
      go_wp2
      go_roundw
      case rel =>
        refine ⟨k + 1, _, by omega, by omega, by go_num, rfl, ?_, below_drewN hb _, h1.drewN _, h2.drewN _⟩
        show _ = _
        rw [cv_fval, cv_fval, HC.out, dotC_succ _ _ _ hk1]
      case measure => simp [intOf]; omega
    · have e : k = 16 := by omega
      subst e
      go_wp2
      go_ret
      exact ⟨r, rfl, HC.out, hb⟩
theorem c_DotOf (xs ys : List Nat) (w : World) (hx : xs.length = 16) (hy : ys.length = 16) : Calls Try.prog 32 #[.agg (fl xs), .agg (fl ys)] w (FloatPost (dotC xs ys 16) w) := by
  have h1 : Blk ((w.alloc (.cells (fl xs) 33)).alloc (.cells (fl ys) 33)) w.heap.size xs 33 := (Blk.new _ _ _ _ rfl).alloc _
  have h2 : Blk ((w.alloc (.cells (fl xs) 33)).alloc (.cells (fl ys) 33)) (w.heap.size + 1) ys 33 := Blk.new _ _ _ _ (by simp)
  have hb : Below w.heap.size w ((w.alloc (.cells (fl xs) 33)).alloc (.cells (fl ys) 33)) := Go.Joins.below_alloc2 _ _ _
  have c1 := h1.cell 0 (by omega)
  have c2 := h2.cell 0 (by omega)
  have HX := Lib.hid hx; have HY := Lib.hid hy; clear hx hy
  go_enter Try.func32, Try.ntmps32
  go_wp2
  generalize hW : (w.alloc (.cells (fl xs) 33)).alloc (.cells (fl ys) 33) = W at *
  clear hW c1 c2
  go_loopw [5, 6] (fun s i wr => ∃ k r : Nat, 1 ≤ k ∧ k ≤ 16 ∧ i = .int .i64 k ∧ s = .float .f32 r ∧ Hid (cv .f32 r = dotC xs ys k) ∧ Below w.heap.size w wr ∧ Blk wr w.heap.size xs 33 ∧ Blk wr (w.heap.size + 1) ys 33) (fun _ i _ => 16 - (intOf i).toNat)
  case atStart => exact ⟨1, _, by omega, by omega, rfl, rfl, cv_fval .., below_drewN hb _, h1.drewN _, h2.drewN _⟩
  case round =>
    obtain ⟨k, r, hk1, hk, rfl, rfl, HC, hb, h1, h2⟩ := hrel
    by_cases hlt : k < 16
    · have c1 := h1.cell k (by rw [HX.out]; exact hlt)
      have c2 := h2.cell k (by rw [HY.out]; exact hlt)
      have hi : (0 : Int) ≤ k := by omega
      have hi2 : (k : Int) < 16 := by omega
      go_wp2
      go_region
      go_wp2
      go_roundw
      case rel =>
        refine ⟨k + 1, _, by omega, by omega, by go_num, rfl, ?_, below_drewN hb _, h1.drewN _, h2.drewN _⟩
        show _ = _
        rw [cv_fval, cv_fval, HC.out, dotC_succ _ _ _ hk1]
      case measure => simp [intOf]; omega
    · have e : k = 16 := by omega
      subst e
      go_wp2
      go_ret
      exact ⟨r, rfl, HC.out, hb⟩
theorem c_sDotOf (xs ys : List Nat) (w : World) (hx : xs.length = 16) (hy : ys.length = 16) : Calls Try.prog 31 #[.agg (fl xs), .agg (fl ys)] w (FloatPost (dotC xs ys 16) w) := by
  have h1 : Blk ((w.alloc (.cells (fl xs) 33)).alloc (.cells (fl ys) 33)) w.heap.size xs 33 := (Blk.new _ _ _ _ rfl).alloc _
  have h2 : Blk ((w.alloc (.cells (fl xs) 33)).alloc (.cells (fl ys) 33)) (w.heap.size + 1) ys 33 := Blk.new _ _ _ _ (by simp)
  have hb := Go.Joins.below_alloc2 w (.cells (fl xs) 33) (.cells (fl ys) 33)
  have HX := Lib.hid hx; have HY := Lib.hid hy; clear hx hy
  go_enter Try.func31, Try.ntmps31
  go_wp2_with (first | (refine wpList_load_blk rfl 33 _ rfl _ rfl h1 Try.underlying33 info_blk HX.out ?_) | (refine wpList_load_blk rfl 33 _ rfl _ rfl h2 Try.underlying33 info_blk HY.out ?_) | (go_at_call 48; refine (c_l01Dot _ _ _ HX.out HY.out).mono ?_; rintro e w' ⟨r, rfl, HR, b⟩; replace HR := Lib.hid HR))
  go_ret
  exact ⟨_, rfl, HR.out, seq_below hb b⟩
theorem c_sEnergyOf (xs : List Nat) (w : World) (hx : xs.length = 16) : Calls Try.prog 33 #[.agg (fl xs)] w (FloatPost (dotC xs xs 16) w) := by
  have h1 : Blk (w.alloc (.cells (fl xs) 33)) w.heap.size xs 33 := Blk.new _ _ _ _ rfl
  have hb := Go.Joins.below_alloc1 w (.cells (fl xs) 33)
  have HX := Lib.hid hx; clear hx
  go_enter Try.func33, Try.ntmps33
  go_wp2_with (first | (refine wpList_load_blk rfl 33 _ rfl _ rfl h1 Try.underlying33 info_blk HX.out ?_) | (go_at_call 48; refine (c_l01Dot _ _ _ HX.out HX.out).mono ?_; rintro e w' ⟨r, rfl, HR, b⟩; replace HR := Lib.hid HR))
  go_ret
  exact ⟨_, rfl, HR.out, seq_below hb b⟩
theorem c_iEnergyOf (xs : List Nat) (w : World) (hx : xs.length = 16) : Calls Try.prog 34 #[.agg (fl xs)] w (FloatPost (dotC xs xs 16) w) := by
  have h1 : Blk (w.alloc (.cells (fl xs) 33)) w.heap.size xs 33 := Blk.new _ _ _ _ rfl
  have hb := Go.Joins.below_alloc1 w (.cells (fl xs) 33)
  have HX := Lib.hid hx; clear hx
  go_enter Try.func34, Try.ntmps34
  go_wp2_with (first | (refine wpList_load_blk rfl 33 _ rfl _ rfl h1 Try.underlying33 info_blk HX.out ?_) | (go_at_call 32; refine (c_DotOf _ _ _ HX.out HX.out).mono ?_; rintro e w' ⟨r, rfl, HR, b⟩; replace HR := Lib.hid HR))
  go_ret
  exact ⟨_, rfl, HR.out, seq_below hb b⟩
end Go.Proofs.Ytbjaihboagompaa
