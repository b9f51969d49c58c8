/- Contracts: peaks; the reference's SameBlock. No condition. -/
import Derived.Test.YtjkffooohpfbdaaCa
namespace Go.Proofs.Ytjkffooohpfbdaa
open Go.RowKit Go.Fl

def peakStep (m a : CF) : CF := if (ordC .f32 a m == some .gt) = true then a else m
def peakC (xs : List Nat) : Nat → CF
  | 0 => cv .f32 0
  | k + 1 => peakStep (peakC xs k) (absC32 (cv .f32 (nth xs k)))
def PeakPost (c : CF) (w : World) (e : Ending) (w' : World) : Prop := ∃ r, e = .returned (.float .f32 r) ∧ cv .f32 r = c ∧ Below w.heap.size w w'
theorem peak_up {xs : List Nat} {k r : Nat} (h : cv .f32 r = peakC xs k) {x : Nat} (hx : cv .f32 x = absC32 (cv .f32 (nth xs k))) (hg : (ordC .f32 (absC32 (cv .f32 (nth xs k))) (cv .f32 r) == some .gt) = true) : cv .f32 x = peakC xs (k + 1) := by
  rw [hx]; unfold peakC peakStep; rw [← h, if_pos hg]
theorem peak_no {xs : List Nat} {k r : Nat} (h : cv .f32 r = peakC xs k) (hg : (ordC .f32 (absC32 (cv .f32 (nth xs k))) (cv .f32 r) == some .gt) = false) : cv .f32 r = peakC xs (k + 1) := by
  show _ = peakStep _ _
  unfold peakStep; rw [← h, if_neg (by rw [hg]; exact Bool.false_ne_true)]
theorem c_sPeakOf (xs : List Nat) (w : World) (l0 : xs.length = 16) : Calls Try.prog 30 #[.agg (fl xs)] w (PeakPost (peakC xs 16) w) := by
  have L0 := Lib.hid l0; clear l0
  go_enter Try.func30, Try.ntmps30
  go_wp2
  go_loopw [3, 4] (fun s i wr => ∃ k r : Nat, k ≤ 16 ∧ i = .int .i64 k ∧ s = .float .f32 r ∧ Hid (cv .f32 r = peakC xs k) ∧ Below w.heap.size w wr ∧ Blk wr w.heap.size xs 24) (fun _ i _ => 16 - (intOf i).toNat)
  case atStart => exact ⟨0, 0, by omega, rfl, rfl, rfl, below_allocs1 .., Blk.new _ _ _ _ rfl⟩
  case round =>
    obtain ⟨k, r, hk, rfl, rfl, HC, hb, h1⟩ := hrel
    by_cases hlt : k < 16
    · have c1 := h1.cell k (by rw [L0.out]; exact hlt)
      have hi : (0 : Int) ≤ k := by omega
      have hi2 : (k : Int) < 16 := by omega
      cases hg : (ordC .f32 (absC32 (cv .f32 (nth xs k))) (cv .f32 r) == some .gt)
      · have HG := Lib.hid hg
        go_wp2_with (go_at_call 56; refine (c_l01Abs _ _).mono ?_; rintro e w1 ⟨rfl, rfl⟩)
        go_roundw
        case rel => exact ⟨k + 1, r, by omega, by go_num, rfl, peak_no HC.out HG.out, hb, h1⟩
        case measure => simp [intOf]; omega
      · have HG := Lib.hid hg
        go_wp2_with (go_at_call 56; refine (c_l01Abs _ _).mono ?_; rintro e w1 ⟨rfl, rfl⟩)
        go_roundw
        case rel => exact ⟨k + 1, _, by omega, by go_num, rfl, peak_up HC.out (absC32_cv _) HG.out, hb, h1⟩
        case measure => simp [intOf]; omega
    · have e : k = 16 := by omega
      subst e
      go_wp2
      go_ret
      exact ⟨r, rfl, HC.out, hb⟩
theorem c_iPeakOf (xs : List Nat) (w : World) (l0 : xs.length = 16) : Calls Try.prog 31 #[.agg (fl xs)] w (PeakPost (peakC xs 16) w) := by
  have L0 := Lib.hid l0; clear l0
  have h1 : Blk (w.alloc (.cells (fl xs) 24)) w.heap.size xs 24 := Blk.new _ _ _ _ rfl
  go_enter Try.func31, Try.ntmps31
  go_wp2_with (refine wpList_load_blk rfl 24 _ rfl _ rfl h1 Try.underlying24 info_blk L0.out ?_)
  clear h1
  go_loopw [3, 8] (fun s i wr => ∃ k r : Nat, k ≤ 16 ∧ i = .int .i64 k ∧ s = .float .f32 r ∧ Hid (cv .f32 r = peakC xs k) ∧ Below w.heap.size w wr) (fun _ i _ => 16 - (intOf i).toNat)
  case atStart => exact ⟨0, 0, by omega, rfl, rfl, rfl, below_allocs1 ..⟩
  case round =>
    obtain ⟨k, r, hk, rfl, rfl, HC, hb⟩ := hrel
    by_cases hlt : k < 16
    · have hix := fun W => run_index_fl (P := Try.prog) (w := W) 24 22 16 xs k Try.underlying24 Try.underlying22 info_f32 (by rw [L0.out]; exact hlt) hlt
      have hi : (0 : Int) ≤ k := by omega
      have hi2 : (k : Int) < 16 := by omega
      go_wp2_with fail
      refine (c_absolute _ _).mono ?_; rintro e w1 ⟨y, n, rfl, HY, rfl⟩
      clear hix
      cases hg : (ordC .f32 (absC32 (cv .f32 (nth xs k))) (cv .f32 r) == some .gt)
      · have HG := Lib.hid hg
        go_wp2
        go_roundw
        case rel => exact ⟨k + 1, r, by omega, by go_num, rfl, peak_no HC.out HG.out, below_drewN hb _⟩
        case measure => simp [intOf]; omega
      · have HG := Lib.hid hg
        have HZ := Lib.hid HY
        go_wp2
        go_roundw
        case rel => exact ⟨k + 1, y, by omega, by go_num, rfl, peak_up HC.out HZ.out HG.out, below_drewN hb _⟩
        case measure => simp [intOf]; omega
    · have e : k = 16 := by omega
      subst e
      go_wp2
      go_ret
      exact ⟨r, rfl, HC.out, hb⟩
theorem c_sSameBlock (xs ys : List Nat) (w : World) (hx : xs.length = 16) (hy : ys.length = 16) :
    Calls Try.prog 21 #[.agg (fl xs), .agg (fl ys)] w fun e w' => e = .returned (.bool (sameUpTo xs ys 16)) ∧ Below w.heap.size w w' := by
  have h1 : Blk ((w.alloc (.cells (fl xs) 24)).alloc (.cells (fl ys) 24)) w.heap.size xs 24 := (Blk.new _ _ _ _ rfl).alloc _
  have h2 : Blk ((w.alloc (.cells (fl xs) 24)).alloc (.cells (fl ys) 24)) (w.heap.size + 1) ys 24 := Blk.new _ _ _ _ (by simp)
  have hb := Go.Joins.below_alloc2 w (.cells (fl xs) 24) (.cells (fl ys) 24)
  have HX := Lib.hid hx; have HY := Lib.hid hy; clear hx hy
  go_enter Try.func21, Try.ntmps21
  go_wp2_with (first | (refine wpList_load_blk rfl 24 _ rfl _ rfl h1 Try.underlying24 info_blk HX.out ?_) | (refine wpList_load_blk rfl 24 _ rfl _ rfl h2 Try.underlying24 info_blk HY.out ?_) | (go_at_call 48; refine (c_l01SameBlock _ _ _ HX.out HY.out).mono ?_; rintro e w1 ⟨rfl, b1⟩))
  go_ret
  exact ⟨rfl, seq_below hb b1⟩
end Go.Proofs.Ytjkffooohpfbdaa
