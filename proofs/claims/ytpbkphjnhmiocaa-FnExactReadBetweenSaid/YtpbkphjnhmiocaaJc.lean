/- A ring's sample between two: the walks. No condition. -/
import Derived.Test.YtpbkphjnhmiocaaJb
import Derived.Test.YtpbkphjnhmiocaaSt
import Derived.Test.YtpbkphjnhmiocaaSv
namespace Go.Proofs.Ytpbkphjnhmiocaa
open Go.RowKit Go.Fl
theorem rowBelowD {w w' : World} {g m : Nat} {cs : Array Value} {t : TypeId} (h : Row w g cs t) (hb : Below (w.drewN m).heap.size (w.drewN m) w') : Row w' g cs t := Row.below (w := w.drewN m) h hb h.lt
theorem seqBelowD {w0 w w' : World} {m : Nat} (hb : Below w0.heap.size w0 w) (b : Below (w.drewN m).heap.size (w.drewN m) w') : Below w0.heap.size w0 w' := seq_below (below_drewN hb m) b
set_option maxRecDepth 20000 in
set_option maxHeartbeats 1000000 in
theorem c_iBetween (A : Option Addr) (c : Nat) (xs : List Nat) (at0 : Int) (d k y : Nat) (w : World) (hs : Sl w A xs) (hn : (xs.length : Int) ≤ 1024) (h1 : 1 ≤ (xs.length : Int)) (h2 : 0 ≤ at0) (h3 : at0 ≤ (xs.length : Int) - 1) (k1 : 1 ≤ (k : Int)) (k2 : (k : Int) ≤ (xs.length : Int))
    (hf : ∀ w w' w'', f2i .f64 (ival .down (conv .f32 .f64 d w) w') .i64 w'' = (k : Int)) (hy : ∀ w, fval .sub .f32 d (floatOfInt .f32 (k : Int)) w = y) (hz : (k : Int) = (xs.length : Int) → ordC .f32 (cv .f32 y) (cv .f32 0) = some .eq) :
    Calls Try.prog 25 #[.agg #[.slice A xs.length c, .int .i64 at0], .float .f32 d] w fun e w' => ∃ r, e = .returned (.float .f32 r) ∧ cv .f32 r = btC xs at0 k y ∧ Below w.heap.size w w' := by
  have q : Row (w.alloc (.cells #[.slice A xs.length c, .int .i64 at0] 29)) w.heap.size #[.slice A xs.length c, .int .i64 at0] 29 := Row.new _ _ _ _ rfl
  have hb := Go.Joins.below_alloc1 w (.cells #[.slice A xs.length c, .int .i64 at0] 29)
  have HS := Lib.hid (hs.below hb); clear hs
  have HF := Lib.hid (show (xs.length : Int) ≤ 1024 ∧ 1 ≤ (xs.length : Int) ∧ 0 ≤ at0 ∧ at0 ≤ (xs.length : Int) - 1 ∧ 1 ≤ (k : Int) ∧ (k : Int) ≤ (xs.length : Int) from ⟨hn, h1, h2, h3, k1, k2⟩)
  cases hv : (ordC .f32 (cv .f32 y) (cv .f32 0) == some .eq)
  · have H0 := Lib.hid (btC_no (xs := xs) (at0 := at0) (k := k) hv)
    have K2 := Lib.hid (show 1 ≤ (k : Int) + 1 ∧ (k : Int) + 1 ≤ (xs.length : Int) from by
      have : (k : Int) ≠ (xs.length : Int) := fun e => by rw [hz e] at hv; simp at hv
      omega)
    clear hz
    go_enter Try.func25, Try.ntmps25
    go_wp2_with fail
    refine (c_mFloorJ _ _).mono ?_; rintro e w1 ⟨rfl, n1, rfl⟩
    go_wp2_with (refine wpList_load_cells rfl 29 _ rfl _ rfl q.drewN Try.underlying29 rfl info_ring ?_)
    refine (c_iBack _ _ _ _ _ _ (Sl.drewN HS.out _) HF.out.1 HF.out.2.1 HF.out.2.2.1 HF.out.2.2.2.1 HF.out.2.2.2.2.1 HF.out.2.2.2.2.2).mono ?_; rintro e w2 ⟨rfl, b⟩
    have q2 := rowBelowD q b; have hb2 := seqBelowD hb b; have HS2 := Lib.hid (Sl.below (w := World.drewN _ _) (Sl.drewN HS.out _) b)
    generalize nth xs (backJ xs.length at0 k) = v1 at *
    go_wp2_with (refine wpList_load_cells rfl 29 _ rfl _ rfl q2 Try.underlying29 rfl info_ring ?_)
    refine (c_iBack _ _ _ _ _ _ HS2.out HF.out.1 HF.out.2.1 HF.out.2.2.1 HF.out.2.2.2.1 K2.out.1 K2.out.2).mono ?_; rintro e w3 ⟨rfl, b3⟩
    have hb3 := seq_below hb2 b3
    go_wp2_with fail
    go_ret
    refine ⟨_, rfl, ?_, below_drewN hb3 _⟩
    rw [← H0.out]
    simp only [cv_fval]
  · have H0 := Lib.hid (btC_yes (xs := xs) (at0 := at0) (k := k) hv)
    clear hz
    go_enter Try.func25, Try.ntmps25
    go_wp2_with fail
    refine (c_mFloorJ _ _).mono ?_; rintro e w1 ⟨rfl, n1, rfl⟩
    go_wp2_with (refine wpList_load_cells rfl 29 _ rfl _ rfl q.drewN Try.underlying29 rfl info_ring ?_)
    refine (c_iBack _ _ _ _ _ _ (Sl.drewN HS.out _) HF.out.1 HF.out.2.1 HF.out.2.2.1 HF.out.2.2.2.1 HF.out.2.2.2.2.1 HF.out.2.2.2.2.2).mono ?_; rintro e w2 ⟨rfl, b⟩
    have hb2 := seqBelowD hb b
    go_wp2_with fail
    go_ret
    exact ⟨_, rfl, H0.out, hb2⟩
theorem rbf {n : Nat} {at0 : Int} (h : ringOk n at0 = true) : (n : Int) ≤ 1024 ∧ 1 ≤ (n : Int) ∧ 0 ≤ at0 ∧ at0 ≤ (n : Int) - 1 := by
  unfold ringOk at h
  rw [Bool.and_eq_true] at h
  obtain ⟨a, b⟩ := inB_true h.1
  obtain ⟨c, d⟩ := inB_true h.2
  exact ⟨b, a, c, d⟩
set_option maxRecDepth 20000 in
set_option maxHeartbeats 1000000 in
theorem c_iReadBetween (A : Option Addr) (c : Nat) (xs : List Nat) (at0 : Int) (d : Nat) (w : World) (hs : Sl w A xs) (hn : (xs.length : Int) ≤ 4294967296) :
    Calls Try.prog 8 #[.agg #[.slice A xs.length c, .int .i64 at0], .float .f32 d] w (BtPost xs at0 d w) := by
  have q : Row (w.alloc (.cells #[.slice A xs.length c, .int .i64 at0] 29)) w.heap.size #[.slice A xs.length c, .int .i64 at0] 29 := Row.new _ _ _ _ rfl
  have hb := Go.Joins.below_alloc1 w (.cells #[.slice A xs.length c, .int .i64 at0] 29)
  unfold BtPost
  have HS := Lib.hid (hs.below hb); have HN := Lib.hid hn; clear hs hn
  cases hr : ringOk xs.length at0
  · have HR := Lib.hid (bt_ring (d := d) hr)
    go_enter Try.func8, Try.ntmps8
    go_wp2_with (refine wpList_load_cells rfl 29 _ rfl _ rfl q Try.underlying29 rfl info_ring ?_)
    refine (c_iValidRing _ _ _ _ _ HN.out).mono ?_; rintro e w1 ⟨rfl, b⟩; rw [hr]
    go_wp2_with fail
    go_ret2
    exact ⟨_, ret_bt HR.out.1, HR.out.2, seq_below hb b⟩
  have HI := Lib.hid (show ((ordC .f32 (cv .f32 d) (cv .f32 1065353216) == some .gt || ordC .f32 (cv .f32 d) (cv .f32 1065353216) == some .eq) && (ordC .f32 (cv .f32 d) (cv .f32 (floatOfInt .f32 (xs.length : Int))) == some .lt || ordC .f32 (cv .f32 d) (cv .f32 (floatOfInt .f32 (xs.length : Int))) == some .eq)) = inR d 1065353216 (floatOfInt .f32 (xs.length : Int)) from rfl)
  cases h1 : (ordC .f32 (cv .f32 d) (cv .f32 1065353216) == some .gt || ordC .f32 (cv .f32 d) (cv .f32 1065353216) == some .eq)
  · rw [h1, Bool.false_and] at HI
    have HR := Lib.hid (bt_far hr HI.out.symm)
    go_enter Try.func8, Try.ntmps8
    go_wp2_with (refine wpList_load_cells rfl 29 _ rfl _ rfl q Try.underlying29 rfl info_ring ?_)
    refine (c_iValidRing _ _ _ _ _ HN.out).mono ?_; rintro e w1 ⟨rfl, b⟩; rw [hr]; replace q := q.below b q.lt; replace hb := seq_below hb b; replace HS := Lib.hid (HS.out.below b); have k0 := q.cell 0 _ rfl; clear b
    go_wp2_with fail
    go_ret2
    exact ⟨_, ret_bt HR.out.1, HR.out.2, by first | exact hb | exact hb.drew | exact below_drewN hb _⟩
  rw [h1, Bool.true_and] at HI
  cases h2 : (ordC .f32 (cv .f32 d) (cv .f32 (floatOfInt .f32 (xs.length : Int))) == some .lt || ordC .f32 (cv .f32 d) (cv .f32 (floatOfInt .f32 (xs.length : Int))) == some .eq)
  · rw [h2] at HI
    have HR := Lib.hid (bt_far hr HI.out.symm)
    go_enter Try.func8, Try.ntmps8
    go_wp2_with (refine wpList_load_cells rfl 29 _ rfl _ rfl q Try.underlying29 rfl info_ring ?_)
    refine (c_iValidRing _ _ _ _ _ HN.out).mono ?_; rintro e w1 ⟨rfl, b⟩; rw [hr]; replace q := q.below b q.lt; replace hb := seq_below hb b; replace HS := Lib.hid (HS.out.below b); have k0 := q.cell 0 _ rfl; clear b
    go_wp2_with fail
    go_ret2
    exact ⟨_, ret_bt HR.out.1, HR.out.2, by first | exact hb | exact hb.drew | exact below_drewN hb _⟩
  · rw [h2] at HI
    have HF := Lib.hid (rbf hr)
    obtain ⟨k, y, k1, k2, hk, hf, hf2, hy, hc, hz⟩ := between_facts xs.length d (by have := HF.out; omega) HI.out.symm
    have HR := Lib.hid (bt_ok hr HI.out.symm hk hc)
    have K := Lib.hid (show 1 ≤ (k : Int) ∧ (k : Int) ≤ (xs.length : Int) from by omega)
    have HZ := Lib.hid (show (k : Int) = (xs.length : Int) → ordC .f32 (cv .f32 y) (cv .f32 0) = some .eq from fun e => hz (by omega))
    have HF2 := Lib.hid hf2; have HY := Lib.hid hy
    clear hk hc hz hf2 k1 k2 hf hy
    go_enter Try.func8, Try.ntmps8
    go_wp2_with (refine wpList_load_cells rfl 29 _ rfl _ rfl q Try.underlying29 rfl info_ring ?_)
    refine (c_iValidRing _ _ _ _ _ HN.out).mono ?_; rintro e w1 ⟨rfl, b⟩; rw [hr]; replace q := q.below b q.lt; replace hb := seq_below hb b; replace HS := Lib.hid (HS.out.below b); have k0 := q.cell 0 _ rfl; clear b
    go_wp2_with (refine wpList_load_cells rfl 29 _ rfl _ rfl q Try.underlying29 rfl info_ring ?_)
    refine (c_iBetween _ _ _ _ _ _ _ _ (by first | exact HS.out | exact Sl.drewN HS.out _ | exact Sl.drewN HS.out 1) HF.out.1 HF.out.2.1 HF.out.2.2.1 HF.out.2.2.2 K.out.1 K.out.2 HF2.out HY.out HZ.out).mono ?_; rintro e w2 ⟨r, rfl, hr2, b⟩
    go_wp2_with fail
    go_ret2
    exact ⟨_, ret_bt HR.out.1, hr2.trans HR.out.2, by first | exact seq_below hb b | exact seqBelowD hb b | exact seq_below hb.drew b⟩
set_option maxRecDepth 20000 in
set_option maxHeartbeats 400000 in
theorem c_sReadBetween (A : Option Addr) (c : Nat) (xs : List Nat) (at0 : Int) (d : Nat) (w : World) (hs : Sl w A xs) (hn : (xs.length : Int) ≤ 4294967296) :
    Calls Try.prog 6 #[.agg #[.slice A xs.length c, .int .i64 at0], .float .f32 d] w (BtPost xs at0 d w) := by
  have q : Row (w.alloc (.cells #[.slice A xs.length c, .int .i64 at0] 29)) w.heap.size #[.slice A xs.length c, .int .i64 at0] 29 := Row.new _ _ _ _ rfl
  have hb := Go.Joins.below_alloc1 w (.cells #[.slice A xs.length c, .int .i64 at0] 29)
  unfold BtPost
  have k0 := q.cell 0 _ rfl
  have HS := Lib.hid (hs.below hb); have HN := Lib.hid hn; clear hs hn
  cases hr : ringOk xs.length at0
  · have HR := Lib.hid (bt_ring (d := d) hr)
    go_enter Try.func6, Try.ntmps6
    go_wp2_with fail
    refine (c_sL02Ring _ _ _ _ _ _ HN.out q).mono ?_; rintro e w1 ⟨rfl, rfl⟩; rw [hr]
    go_wp2_with fail
    go_ret2
    exact ⟨_, ret_bt HR.out.1, HR.out.2, hb⟩
  have HI := Lib.hid (show ((ordC .f32 (cv .f32 d) (cv .f32 1065353216) == some .gt || ordC .f32 (cv .f32 d) (cv .f32 1065353216) == some .eq) && (ordC .f32 (cv .f32 d) (cv .f32 (floatOfInt .f32 (xs.length : Int))) == some .lt || ordC .f32 (cv .f32 d) (cv .f32 (floatOfInt .f32 (xs.length : Int))) == some .eq)) = inR d 1065353216 (floatOfInt .f32 (xs.length : Int)) from rfl)
  cases h1 : (ordC .f32 (cv .f32 d) (cv .f32 1065353216) == some .gt || ordC .f32 (cv .f32 d) (cv .f32 1065353216) == some .eq)
  · rw [h1, Bool.false_and] at HI
    have HR := Lib.hid (bt_far hr HI.out.symm)
    go_enter Try.func6, Try.ntmps6
    go_wp2_with fail
    refine (c_sL02Ring _ _ _ _ _ _ HN.out q).mono ?_; rintro e w1 ⟨rfl, rfl⟩; rw [hr]
    go_wp2_with fail
    go_ret2
    exact ⟨_, ret_bt HR.out.1, HR.out.2, by first | exact hb | exact hb.drew | exact below_drewN hb _⟩
  rw [h1, Bool.true_and] at HI
  cases h2 : (ordC .f32 (cv .f32 d) (cv .f32 (floatOfInt .f32 (xs.length : Int))) == some .lt || ordC .f32 (cv .f32 d) (cv .f32 (floatOfInt .f32 (xs.length : Int))) == some .eq)
  · rw [h2] at HI
    have HR := Lib.hid (bt_far hr HI.out.symm)
    go_enter Try.func6, Try.ntmps6
    go_wp2_with fail
    refine (c_sL02Ring _ _ _ _ _ _ HN.out q).mono ?_; rintro e w1 ⟨rfl, rfl⟩; rw [hr]
    go_wp2_with fail
    go_ret2
    exact ⟨_, ret_bt HR.out.1, HR.out.2, by first | exact hb | exact hb.drew | exact below_drewN hb _⟩
  · rw [h2] at HI
    have HF := Lib.hid (rbf hr)
    obtain ⟨k, y, k1, k2, hk, hf, hf2, hy, hc, hz⟩ := between_facts xs.length d (by have := HF.out; omega) HI.out.symm
    have HR := Lib.hid (bt_ok hr HI.out.symm hk hc)
    have K := Lib.hid (show 1 ≤ (k : Int) ∧ (k : Int) ≤ (xs.length : Int) from by omega)
    have HZ := Lib.hid (show (k : Int) = (xs.length : Int) → ordC .f32 (cv .f32 y) (cv .f32 0) = some .eq from fun e => hz (by omega))
    have K2 := Lib.hid (show (ordC .f32 (cv .f32 y) (cv .f32 0) == some .eq) = false → 1 ≤ (k : Int) + 1 ∧ (k : Int) + 1 ≤ (xs.length : Int) from fun hv => by
      have : (k : Int) ≠ (xs.length : Int) := fun e => by rw [HZ.out e] at hv; simp at hv
      omega)
    clear hk hc hz hf2 k1 k2
    have k1 := K.out.1; have k2 : (k : Int) ≤ 1024 := by have := K.out.2; have := HF.out; omega
    cases hv : (ordC .f32 (cv .f32 y) (cv .f32 0) == some .eq)
    · have H0 := Lib.hid (btC_no (xs := xs) (at0 := at0) (k := k) hv)
      replace K2 := Lib.hid (K2.out hv)
      go_enter Try.func6, Try.ntmps6
      go_wp2_with fail
      refine (c_sL02Ring _ _ _ _ _ _ HN.out q).mono ?_; rintro e w1 ⟨rfl, rfl⟩; rw [hr]
      go_wp2_with fail
      refine (c_sBack A c _ xs at0 _ _ (by first | exact q | exact q.drew | exact q.drewN) (by first | exact HS.out | exact Sl.drewN HS.out _ | exact Sl.drewN HS.out 1) HF.out.1 HF.out.2.1 HF.out.2.2.1 HF.out.2.2.2 K.out.1 K.out.2).mono ?_; rintro e w2 ⟨rfl, b⟩
      have q2 := rowBelowD q b; have hb2 := seqBelowD hb b; have HS2 := Lib.hid (Sl.below (w := World.drewN _ _) (Sl.drewN HS.out _) b)
      generalize nth xs (backJ xs.length at0 k) = v1 at *
      go_wp2_with fail
      refine (c_sBack A c _ xs at0 _ _ q2 HS2.out HF.out.1 HF.out.2.1 HF.out.2.2.1 HF.out.2.2.2 K2.out.1 K2.out.2).mono ?_; rintro e w3 ⟨rfl, b3⟩
      have hb3 := seq_below hb2 b3
      go_wp2_with fail
      go_ret2
      refine ⟨_, ret_bt HR.out.1, ?_, below_drewN hb3 _⟩
      rw [← HR.out.2, ← H0.out]
      simp only [cv_fval]
    · have H0 := Lib.hid (btC_yes (xs := xs) (at0 := at0) (k := k) hv)
      clear K2
      go_enter Try.func6, Try.ntmps6
      go_wp2_with fail
      refine (c_sL02Ring _ _ _ _ _ _ HN.out q).mono ?_; rintro e w1 ⟨rfl, rfl⟩; rw [hr]
      go_wp2_with fail
      refine (c_sBack A c _ xs at0 _ _ (by first | exact q | exact q.drew | exact q.drewN) (by first | exact HS.out | exact Sl.drewN HS.out _ | exact Sl.drewN HS.out 1) HF.out.1 HF.out.2.1 HF.out.2.2.1 HF.out.2.2.2 K.out.1 K.out.2).mono ?_; rintro e w2 ⟨rfl, b⟩
      have hb2 := seqBelowD hb b
      go_wp2_with fail
      go_ret2
      exact ⟨_, ret_bt HR.out.1, H0.out.trans HR.out.2, hb2⟩
end Go.Proofs.Ytpbkphjnhmiocaa
