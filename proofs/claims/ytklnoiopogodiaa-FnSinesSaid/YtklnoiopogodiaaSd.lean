/- The walks of the two sines. Written by gensine.py. No condition. -/
import Derived.Test.YtklnoiopogodiaaC1
import Derived.Test.YtklnoiopogodiaaEx
import Derived.Test.YtklnoiopogodiaaSc
namespace Go.Proofs.Ytklnoiopogodiaa
open Go.RowKit Go.Fl
def SinePost (c : CF) (w : World) (e : Ending) (w' : World) : Prop := ∃ r, e = .returned (.float .f32 r) ∧ cv .f32 r = c ∧ Below w.heap.size w w'
theorem sine_nan (a : Nat) (h : (ordC .f32 (cop .sub .f32 (cv .f32 a) (cv .f32 a)) (cv .f32 0) == some .eq) = false) : none = sineC (cv .f32 a) := by
  unfold sineC; rw [h]; rfl
theorem wrap_div (j : Nat) (h : j < 8) : wrap64 (2 * ((8 - j : Nat) : Int) * (2 * ((8 - j : Nat) : Int) + 1)) = 2 * ((8 - j : Nat) : Int) * (2 * ((8 - j : Nat) : Int) + 1) := by
  rcases (by omega : j = 0 ∨ j = 1 ∨ j = 2 ∨ j = 3 ∨ j = 4 ∨ j = 5 ∨ j = 6 ∨ j = 7) with rfl | rfl | rfl | rfl | rfl | rfl | rfl | rfl <;> decide +kernel
theorem sine_end (a x : Nat) (w : World) (h : (ordC .f32 (cop .sub .f32 (cv .f32 a) (cv .f32 a)) (cv .f32 0) == some .eq) = true) (hx : cv .f64 x = sR (cv .f32 a)) : cv .f32 (conv .f64 .f32 x w) = sineC (cv .f32 a) := by
  rw [cv_conv .f64 .f32 (by decide) x w (by rw [hx]; exact sine_fits a h), hx]
  unfold sineC; rw [if_pos h]

set_option maxHeartbeats 2000000 in
theorem c_l01Sine (a : Nat) (w : World) : Calls Try.prog 31 #[.float .f32 a] w (SinePost (sineC (cv .f32 a)) w) := by
  cases hfin : (ordC .f32 (cop .sub .f32 (cv .f32 a) (cv .f32 a)) (cv .f32 0) == some .eq)
  · have HN := Lib.hid (sine_nan a hfin)
    go_enter Try.func31, Try.ntmps31
    go_wp2_with go_in
    go_ret
    refine ⟨_, rfl, ?_, by first | exact Below.refl _ _ | exact below_drewN (Below.refl _ _) _⟩
    rw [← HN.out]
    first | rfl | (rw [cv_conv .f64 .f32 (by decide) _ _ (fun x hx => by cases hx)]; rfl)
  have HF := Lib.hid hfin
  cases hg : (ordC .f64 (sF0 (cv .f32 a)) (cv .f64 sHalf) == some .gt)
  rotate_left
  · have hn : sNeg (cv .f32 a) = true := by unfold sNeg; rw [hg]; rfl
    have h1 : sF1 (cv .f32 a) = cop .sub .f64 (sF0 (cv .f32 a)) (cv .f64 sHalf) := by unfold sF1; rw [hn]; rfl
    have HE := Lib.hid hn
    cases hq : (ordC .f64 (sF1 (cv .f32 a)) (cv .f64 sQuart) == some .gt)
    · have h2 : sF2 (cv .f32 a) = sF1 (cv .f32 a) := by unfold sF2; rw [hq]; rfl
      have HX := Lib.hid (show cop .mul .f64 (cv .f64 4618760256179416344) (cop .sub .f64 (cop .sub .f64 (conC .f32 .f64 (cv .f32 a)) (intC .down (conC .f32 .f64 (cv .f32 a)))) (cv .f64 4602678819172646912)) = sX (cv .f32 a) from by unfold sX; rw [h2, h1]; rfl)
      rw [h1] at hq; unfold sF0 sQuart at hq; (try unfold sHalf at hq); unfold sF0 sHalf at hg; clear h1 h2 hn
      go_enter Try.func31, Try.ntmps31
      go_wp2_with go_in
      go_loopw [7, 8] (fun s7 s8 wr => ∃ (j t : Nat), j ≤ 8 ∧ s7 = .float .f64 t ∧ s8 = .int .i64 ((8 - j : Nat) : Int) ∧ Hid (cv .f64 t = sinT (sY (cv .f32 a)) j) ∧ Below w.heap.size w wr) (fun _ i _ => (intOf i).toNat)
      case atStart => exact ⟨0, _, by omega, rfl, rfl, rfl, by first | exact Below.refl _ _ | exact below_drewN (Below.refl _ _) _⟩
      case round =>
        obtain ⟨j, t, hj, rfl, rfl, ht, hb⟩ := hrel
        by_cases hlt : j < 8
        · have hi : (1 : Int) ≤ ((8 - j : Nat) : Int) := by omega
          have hi2 : ((8 - j : Nat) : Int) ≤ 8 := by omega
          go_wp2
          go_roundw
          case rel =>
            refine ⟨j + 1, _, by omega, rfl, ?_, ?_, by first | exact hb | exact below_drewN hb _⟩
            · rw [show ((8 - (j + 1) : Nat) : Int) = ((8 - j : Nat) : Int) - 1 by omega]; try go_num
            · refine Lib.hid ?_
              rw [wrap_div j hlt]; simp only [cv_fval, cv_ival, cv_wid]; rw [ht.out, HX.out]; rfl
          case measure => simp [intOf]; omega
        · have e : j = 8 := by omega
          subst e
          go_wp2
          go_ret
          refine ⟨_, rfl, sine_end a _ _ HF.out ?_, by first | exact hb | exact below_drewN hb _⟩
          unfold sR sS; rw [HE.out, if_pos rfl, cv_neg, cv_fval, ht.out]; simp only [cv_fval, cv_ival, cv_wid]; rw [HX.out]
    · have h2 : sF2 (cv .f32 a) = cop .sub .f64 (cv .f64 sHalf) (sF1 (cv .f32 a)) := by unfold sF2; rw [hq]; rfl
      have HX := Lib.hid (show cop .mul .f64 (cv .f64 4618760256179416344) (cop .sub .f64 (cv .f64 4602678819172646912) (cop .sub .f64 (cop .sub .f64 (conC .f32 .f64 (cv .f32 a)) (intC .down (conC .f32 .f64 (cv .f32 a)))) (cv .f64 4602678819172646912))) = sX (cv .f32 a) from by unfold sX; rw [h2, h1]; rfl)
      rw [h1] at hq; unfold sF0 sQuart at hq; (try unfold sHalf at hq); unfold sF0 sHalf at hg; clear h1 h2 hn
      go_enter Try.func31, Try.ntmps31
      go_wp2_with go_in
      go_loopw [7, 8] (fun s7 s8 wr => ∃ (j t : Nat), j ≤ 8 ∧ s7 = .float .f64 t ∧ s8 = .int .i64 ((8 - j : Nat) : Int) ∧ Hid (cv .f64 t = sinT (sY (cv .f32 a)) j) ∧ Below w.heap.size w wr) (fun _ i _ => (intOf i).toNat)
      case atStart => exact ⟨0, _, by omega, rfl, rfl, rfl, by first | exact Below.refl _ _ | exact below_drewN (Below.refl _ _) _⟩
      case round =>
        obtain ⟨j, t, hj, rfl, rfl, ht, hb⟩ := hrel
        by_cases hlt : j < 8
        · have hi : (1 : Int) ≤ ((8 - j : Nat) : Int) := by omega
          have hi2 : ((8 - j : Nat) : Int) ≤ 8 := by omega
          go_wp2
          go_roundw
          case rel =>
            refine ⟨j + 1, _, by omega, rfl, ?_, ?_, by first | exact hb | exact below_drewN hb _⟩
            · rw [show ((8 - (j + 1) : Nat) : Int) = ((8 - j : Nat) : Int) - 1 by omega]; try go_num
            · refine Lib.hid ?_
              rw [wrap_div j hlt]; simp only [cv_fval, cv_ival, cv_wid]; rw [ht.out, HX.out]; rfl
          case measure => simp [intOf]; omega
        · have e : j = 8 := by omega
          subst e
          go_wp2
          go_ret
          refine ⟨_, rfl, sine_end a _ _ HF.out ?_, by first | exact hb | exact below_drewN hb _⟩
          unfold sR sS; rw [HE.out, if_pos rfl, cv_neg, cv_fval, ht.out]; simp only [cv_fval, cv_ival, cv_wid]; rw [HX.out]
  cases he : (ordC .f64 (sF0 (cv .f32 a)) (cv .f64 sHalf) == some .eq)
  rotate_left
  · have hn : sNeg (cv .f32 a) = true := by unfold sNeg; rw [hg, he]; rfl
    have h1 : sF1 (cv .f32 a) = cop .sub .f64 (sF0 (cv .f32 a)) (cv .f64 sHalf) := by unfold sF1; rw [hn]; rfl
    have HE := Lib.hid hn
    cases hq : (ordC .f64 (sF1 (cv .f32 a)) (cv .f64 sQuart) == some .gt)
    · have h2 : sF2 (cv .f32 a) = sF1 (cv .f32 a) := by unfold sF2; rw [hq]; rfl
      have HX := Lib.hid (show cop .mul .f64 (cv .f64 4618760256179416344) (cop .sub .f64 (cop .sub .f64 (conC .f32 .f64 (cv .f32 a)) (intC .down (conC .f32 .f64 (cv .f32 a)))) (cv .f64 4602678819172646912)) = sX (cv .f32 a) from by unfold sX; rw [h2, h1]; rfl)
      rw [h1] at hq; unfold sF0 sQuart at hq; (try unfold sHalf at hq); unfold sF0 sHalf at hg he; clear h1 h2 hn
      go_enter Try.func31, Try.ntmps31
      go_wp2_with go_in
      go_loopw [7, 8] (fun s7 s8 wr => ∃ (j t : Nat), j ≤ 8 ∧ s7 = .float .f64 t ∧ s8 = .int .i64 ((8 - j : Nat) : Int) ∧ Hid (cv .f64 t = sinT (sY (cv .f32 a)) j) ∧ Below w.heap.size w wr) (fun _ i _ => (intOf i).toNat)
      case atStart => exact ⟨0, _, by omega, rfl, rfl, rfl, by first | exact Below.refl _ _ | exact below_drewN (Below.refl _ _) _⟩
      case round =>
        obtain ⟨j, t, hj, rfl, rfl, ht, hb⟩ := hrel
        by_cases hlt : j < 8
        · have hi : (1 : Int) ≤ ((8 - j : Nat) : Int) := by omega
          have hi2 : ((8 - j : Nat) : Int) ≤ 8 := by omega
          go_wp2
          go_roundw
          case rel =>
            refine ⟨j + 1, _, by omega, rfl, ?_, ?_, by first | exact hb | exact below_drewN hb _⟩
            · rw [show ((8 - (j + 1) : Nat) : Int) = ((8 - j : Nat) : Int) - 1 by omega]; try go_num
            · refine Lib.hid ?_
              rw [wrap_div j hlt]; simp only [cv_fval, cv_ival, cv_wid]; rw [ht.out, HX.out]; rfl
          case measure => simp [intOf]; omega
        · have e : j = 8 := by omega
          subst e
          go_wp2
          go_ret
          refine ⟨_, rfl, sine_end a _ _ HF.out ?_, by first | exact hb | exact below_drewN hb _⟩
          unfold sR sS; rw [HE.out, if_pos rfl, cv_neg, cv_fval, ht.out]; simp only [cv_fval, cv_ival, cv_wid]; rw [HX.out]
    · have h2 : sF2 (cv .f32 a) = cop .sub .f64 (cv .f64 sHalf) (sF1 (cv .f32 a)) := by unfold sF2; rw [hq]; rfl
      have HX := Lib.hid (show cop .mul .f64 (cv .f64 4618760256179416344) (cop .sub .f64 (cv .f64 4602678819172646912) (cop .sub .f64 (cop .sub .f64 (conC .f32 .f64 (cv .f32 a)) (intC .down (conC .f32 .f64 (cv .f32 a)))) (cv .f64 4602678819172646912))) = sX (cv .f32 a) from by unfold sX; rw [h2, h1]; rfl)
      rw [h1] at hq; unfold sF0 sQuart at hq; (try unfold sHalf at hq); unfold sF0 sHalf at hg he; clear h1 h2 hn
      go_enter Try.func31, Try.ntmps31
      go_wp2_with go_in
      go_loopw [7, 8] (fun s7 s8 wr => ∃ (j t : Nat), j ≤ 8 ∧ s7 = .float .f64 t ∧ s8 = .int .i64 ((8 - j : Nat) : Int) ∧ Hid (cv .f64 t = sinT (sY (cv .f32 a)) j) ∧ Below w.heap.size w wr) (fun _ i _ => (intOf i).toNat)
      case atStart => exact ⟨0, _, by omega, rfl, rfl, rfl, by first | exact Below.refl _ _ | exact below_drewN (Below.refl _ _) _⟩
      case round =>
        obtain ⟨j, t, hj, rfl, rfl, ht, hb⟩ := hrel
        by_cases hlt : j < 8
        · have hi : (1 : Int) ≤ ((8 - j : Nat) : Int) := by omega
          have hi2 : ((8 - j : Nat) : Int) ≤ 8 := by omega
          go_wp2
          go_roundw
          case rel =>
            refine ⟨j + 1, _, by omega, rfl, ?_, ?_, by first | exact hb | exact below_drewN hb _⟩
            · rw [show ((8 - (j + 1) : Nat) : Int) = ((8 - j : Nat) : Int) - 1 by omega]; try go_num
            · refine Lib.hid ?_
              rw [wrap_div j hlt]; simp only [cv_fval, cv_ival, cv_wid]; rw [ht.out, HX.out]; rfl
          case measure => simp [intOf]; omega
        · have e : j = 8 := by omega
          subst e
          go_wp2
          go_ret
          refine ⟨_, rfl, sine_end a _ _ HF.out ?_, by first | exact hb | exact below_drewN hb _⟩
          unfold sR sS; rw [HE.out, if_pos rfl, cv_neg, cv_fval, ht.out]; simp only [cv_fval, cv_ival, cv_wid]; rw [HX.out]
  have hn : sNeg (cv .f32 a) = false := by unfold sNeg; rw [hg, he]; rfl
  have h1 : sF1 (cv .f32 a) = sF0 (cv .f32 a) := by unfold sF1; rw [hn]; rfl
  have HE := Lib.hid hn
  cases hq : (ordC .f64 (sF1 (cv .f32 a)) (cv .f64 sQuart) == some .gt)
  · have h2 : sF2 (cv .f32 a) = sF1 (cv .f32 a) := by unfold sF2; rw [hq]; rfl
    have HX := Lib.hid (show cop .mul .f64 (cv .f64 4618760256179416344) (cop .sub .f64 (conC .f32 .f64 (cv .f32 a)) (intC .down (conC .f32 .f64 (cv .f32 a)))) = sX (cv .f32 a) from by unfold sX; rw [h2, h1]; rfl)
    rw [h1] at hq; unfold sF0 sQuart at hq; (try unfold sHalf at hq); unfold sF0 sHalf at hg he; clear h1 h2 hn
    go_enter Try.func31, Try.ntmps31
    go_wp2_with go_in
    go_loopw [7, 8] (fun s7 s8 wr => ∃ (j t : Nat), j ≤ 8 ∧ s7 = .float .f64 t ∧ s8 = .int .i64 ((8 - j : Nat) : Int) ∧ Hid (cv .f64 t = sinT (sY (cv .f32 a)) j) ∧ Below w.heap.size w wr) (fun _ i _ => (intOf i).toNat)
    case atStart => exact ⟨0, _, by omega, rfl, rfl, rfl, by first | exact Below.refl _ _ | exact below_drewN (Below.refl _ _) _⟩
    case round =>
      obtain ⟨j, t, hj, rfl, rfl, ht, hb⟩ := hrel
      by_cases hlt : j < 8
      · have hi : (1 : Int) ≤ ((8 - j : Nat) : Int) := by omega
        have hi2 : ((8 - j : Nat) : Int) ≤ 8 := by omega
        go_wp2
        go_roundw
        case rel =>
          refine ⟨j + 1, _, by omega, rfl, ?_, ?_, by first | exact hb | exact below_drewN hb _⟩
          · rw [show ((8 - (j + 1) : Nat) : Int) = ((8 - j : Nat) : Int) - 1 by omega]; try go_num
          · refine Lib.hid ?_
            rw [wrap_div j hlt]; simp only [cv_fval, cv_ival, cv_wid]; rw [ht.out, HX.out]; rfl
        case measure => simp [intOf]; omega
      · have e : j = 8 := by omega
        subst e
        go_wp2
        go_ret
        refine ⟨_, rfl, sine_end a _ _ HF.out ?_, by first | exact hb | exact below_drewN hb _⟩
        unfold sR sS; rw [HE.out, if_neg Bool.false_ne_true, cv_fval, ht.out]; simp only [cv_fval, cv_ival, cv_wid]; rw [HX.out]
  · have h2 : sF2 (cv .f32 a) = cop .sub .f64 (cv .f64 sHalf) (sF1 (cv .f32 a)) := by unfold sF2; rw [hq]; rfl
    have HX := Lib.hid (show cop .mul .f64 (cv .f64 4618760256179416344) (cop .sub .f64 (cv .f64 4602678819172646912) (cop .sub .f64 (conC .f32 .f64 (cv .f32 a)) (intC .down (conC .f32 .f64 (cv .f32 a))))) = sX (cv .f32 a) from by unfold sX; rw [h2, h1]; rfl)
    rw [h1] at hq; unfold sF0 sQuart at hq; (try unfold sHalf at hq); unfold sF0 sHalf at hg he; clear h1 h2 hn
    go_enter Try.func31, Try.ntmps31
    go_wp2_with go_in
    go_loopw [7, 8] (fun s7 s8 wr => ∃ (j t : Nat), j ≤ 8 ∧ s7 = .float .f64 t ∧ s8 = .int .i64 ((8 - j : Nat) : Int) ∧ Hid (cv .f64 t = sinT (sY (cv .f32 a)) j) ∧ Below w.heap.size w wr) (fun _ i _ => (intOf i).toNat)
    case atStart => exact ⟨0, _, by omega, rfl, rfl, rfl, by first | exact Below.refl _ _ | exact below_drewN (Below.refl _ _) _⟩
    case round =>
      obtain ⟨j, t, hj, rfl, rfl, ht, hb⟩ := hrel
      by_cases hlt : j < 8
      · have hi : (1 : Int) ≤ ((8 - j : Nat) : Int) := by omega
        have hi2 : ((8 - j : Nat) : Int) ≤ 8 := by omega
        go_wp2
        go_roundw
        case rel =>
          refine ⟨j + 1, _, by omega, rfl, ?_, ?_, by first | exact hb | exact below_drewN hb _⟩
          · rw [show ((8 - (j + 1) : Nat) : Int) = ((8 - j : Nat) : Int) - 1 by omega]; try go_num
          · refine Lib.hid ?_
            rw [wrap_div j hlt]; simp only [cv_fval, cv_ival, cv_wid]; rw [ht.out, HX.out]; rfl
        case measure => simp [intOf]; omega
      · have e : j = 8 := by omega
        subst e
        go_wp2
        go_ret
        refine ⟨_, rfl, sine_end a _ _ HF.out ?_, by first | exact hb | exact below_drewN hb _⟩
        unfold sR sS; rw [HE.out, if_neg Bool.false_ne_true, cv_fval, ht.out]; simp only [cv_fval, cv_ival, cv_wid]; rw [HX.out]
set_option maxHeartbeats 2000000 in
theorem c_SineOf (a : Nat) (w : World) : Calls Try.prog 10 #[.float .f32 a] w (SinePost (sineC (cv .f32 a)) w) := by
  cases hfin : (ordC .f32 (cop .sub .f32 (cv .f32 a) (cv .f32 a)) (cv .f32 0) == some .eq)
  · have HN := Lib.hid (sine_nan a hfin)
    go_enter Try.func10, Try.ntmps10
    go_wp2_with go_in
    go_ret
    refine ⟨_, rfl, ?_, by first | exact Below.refl _ _ | exact below_drewN (Below.refl _ _) _⟩
    rw [← HN.out]
    first | rfl | (rw [cv_conv .f64 .f32 (by decide) _ _ (fun x hx => by cases hx)]; rfl)
  have HF := Lib.hid hfin
  cases hg : (ordC .f64 (sF0 (cv .f32 a)) (cv .f64 sHalf) == some .gt)
  rotate_left
  · have hn : sNeg (cv .f32 a) = true := by unfold sNeg; rw [hg]; rfl
    have h1 : sF1 (cv .f32 a) = cop .sub .f64 (sF0 (cv .f32 a)) (cv .f64 sHalf) := by unfold sF1; rw [hn]; rfl
    have HE := Lib.hid hn
    cases hq : (ordC .f64 (sF1 (cv .f32 a)) (cv .f64 sQuart) == some .gt)
    · have h2 : sF2 (cv .f32 a) = sF1 (cv .f32 a) := by unfold sF2; rw [hq]; rfl
      have HX := Lib.hid (show cop .mul .f64 (cv .f64 4618760256179416344) (cop .sub .f64 (cop .sub .f64 (conC .f32 .f64 (cv .f32 a)) (intC .down (conC .f32 .f64 (cv .f32 a)))) (cv .f64 4602678819172646912)) = sX (cv .f32 a) from by unfold sX; rw [h2, h1]; rfl)
      rw [h1] at hq; unfold sF0 sQuart at hq; (try unfold sHalf at hq); unfold sF0 sHalf at hg; clear h1 h2 hn
      go_enter Try.func10, Try.ntmps10
      go_wp2_with go_in
      go_loopw [7, 8] (fun s7 s8 wr => ∃ (j t : Nat), j ≤ 8 ∧ s7 = .float .f64 t ∧ s8 = .int .i64 ((8 - j : Nat) : Int) ∧ Hid (cv .f64 t = sinT (sY (cv .f32 a)) j) ∧ Below w.heap.size w wr) (fun _ i _ => (intOf i).toNat)
      case atStart => exact ⟨0, _, by omega, rfl, rfl, rfl, by first | exact Below.refl _ _ | exact below_drewN (Below.refl _ _) _⟩
      case round =>
        obtain ⟨j, t, hj, rfl, rfl, ht, hb⟩ := hrel
        by_cases hlt : j < 8
        · have hi : (1 : Int) ≤ ((8 - j : Nat) : Int) := by omega
          have hi2 : ((8 - j : Nat) : Int) ≤ 8 := by omega
          go_wp2
          go_roundw
          case rel =>
            refine ⟨j + 1, _, by omega, rfl, ?_, ?_, by first | exact hb | exact below_drewN hb _⟩
            · rw [show ((8 - (j + 1) : Nat) : Int) = ((8 - j : Nat) : Int) - 1 by omega]; try go_num
            · refine Lib.hid ?_
              rw [wrap_div j hlt]; simp only [cv_fval, cv_ival, cv_wid]; rw [ht.out, HX.out]; rfl
          case measure => simp [intOf]; omega
        · have e : j = 8 := by omega
          subst e
          go_wp2
          go_ret
          refine ⟨_, rfl, sine_end a _ _ HF.out ?_, by first | exact hb | exact below_drewN hb _⟩
          unfold sR sS; rw [HE.out, if_pos rfl, cv_neg, cv_fval, ht.out]; simp only [cv_fval, cv_ival, cv_wid]; rw [HX.out]
    · have h2 : sF2 (cv .f32 a) = cop .sub .f64 (cv .f64 sHalf) (sF1 (cv .f32 a)) := by unfold sF2; rw [hq]; rfl
      have HX := Lib.hid (show cop .mul .f64 (cv .f64 4618760256179416344) (cop .sub .f64 (cv .f64 4602678819172646912) (cop .sub .f64 (cop .sub .f64 (conC .f32 .f64 (cv .f32 a)) (intC .down (conC .f32 .f64 (cv .f32 a)))) (cv .f64 4602678819172646912))) = sX (cv .f32 a) from by unfold sX; rw [h2, h1]; rfl)
      rw [h1] at hq; unfold sF0 sQuart at hq; (try unfold sHalf at hq); unfold sF0 sHalf at hg; clear h1 h2 hn
      go_enter Try.func10, Try.ntmps10
      go_wp2_with go_in
      go_loopw [7, 8] (fun s7 s8 wr => ∃ (j t : Nat), j ≤ 8 ∧ s7 = .float .f64 t ∧ s8 = .int .i64 ((8 - j : Nat) : Int) ∧ Hid (cv .f64 t = sinT (sY (cv .f32 a)) j) ∧ Below w.heap.size w wr) (fun _ i _ => (intOf i).toNat)
      case atStart => exact ⟨0, _, by omega, rfl, rfl, rfl, by first | exact Below.refl _ _ | exact below_drewN (Below.refl _ _) _⟩
      case round =>
        obtain ⟨j, t, hj, rfl, rfl, ht, hb⟩ := hrel
        by_cases hlt : j < 8
        · have hi : (1 : Int) ≤ ((8 - j : Nat) : Int) := by omega
          have hi2 : ((8 - j : Nat) : Int) ≤ 8 := by omega
          go_wp2
          go_roundw
          case rel =>
            refine ⟨j + 1, _, by omega, rfl, ?_, ?_, by first | exact hb | exact below_drewN hb _⟩
            · rw [show ((8 - (j + 1) : Nat) : Int) = ((8 - j : Nat) : Int) - 1 by omega]; try go_num
            · refine Lib.hid ?_
              rw [wrap_div j hlt]; simp only [cv_fval, cv_ival, cv_wid]; rw [ht.out, HX.out]; rfl
          case measure => simp [intOf]; omega
        · have e : j = 8 := by omega
          subst e
          go_wp2
          go_ret
          refine ⟨_, rfl, sine_end a _ _ HF.out ?_, by first | exact hb | exact below_drewN hb _⟩
          unfold sR sS; rw [HE.out, if_pos rfl, cv_neg, cv_fval, ht.out]; simp only [cv_fval, cv_ival, cv_wid]; rw [HX.out]
  cases he : (ordC .f64 (sF0 (cv .f32 a)) (cv .f64 sHalf) == some .eq)
  rotate_left
  · have hn : sNeg (cv .f32 a) = true := by unfold sNeg; rw [hg, he]; rfl
    have h1 : sF1 (cv .f32 a) = cop .sub .f64 (sF0 (cv .f32 a)) (cv .f64 sHalf) := by unfold sF1; rw [hn]; rfl
    have HE := Lib.hid hn
    cases hq : (ordC .f64 (sF1 (cv .f32 a)) (cv .f64 sQuart) == some .gt)
    · have h2 : sF2 (cv .f32 a) = sF1 (cv .f32 a) := by unfold sF2; rw [hq]; rfl
      have HX := Lib.hid (show cop .mul .f64 (cv .f64 4618760256179416344) (cop .sub .f64 (cop .sub .f64 (conC .f32 .f64 (cv .f32 a)) (intC .down (conC .f32 .f64 (cv .f32 a)))) (cv .f64 4602678819172646912)) = sX (cv .f32 a) from by unfold sX; rw [h2, h1]; rfl)
      rw [h1] at hq; unfold sF0 sQuart at hq; (try unfold sHalf at hq); unfold sF0 sHalf at hg he; clear h1 h2 hn
      go_enter Try.func10, Try.ntmps10
      go_wp2_with go_in
      go_loopw [7, 8] (fun s7 s8 wr => ∃ (j t : Nat), j ≤ 8 ∧ s7 = .float .f64 t ∧ s8 = .int .i64 ((8 - j : Nat) : Int) ∧ Hid (cv .f64 t = sinT (sY (cv .f32 a)) j) ∧ Below w.heap.size w wr) (fun _ i _ => (intOf i).toNat)
      case atStart => exact ⟨0, _, by omega, rfl, rfl, rfl, by first | exact Below.refl _ _ | exact below_drewN (Below.refl _ _) _⟩
      case round =>
        obtain ⟨j, t, hj, rfl, rfl, ht, hb⟩ := hrel
        by_cases hlt : j < 8
        · have hi : (1 : Int) ≤ ((8 - j : Nat) : Int) := by omega
          have hi2 : ((8 - j : Nat) : Int) ≤ 8 := by omega
          go_wp2
          go_roundw
          case rel =>
            refine ⟨j + 1, _, by omega, rfl, ?_, ?_, by first | exact hb | exact below_drewN hb _⟩
            · rw [show ((8 - (j + 1) : Nat) : Int) = ((8 - j : Nat) : Int) - 1 by omega]; try go_num
            · refine Lib.hid ?_
              rw [wrap_div j hlt]; simp only [cv_fval, cv_ival, cv_wid]; rw [ht.out, HX.out]; rfl
          case measure => simp [intOf]; omega
        · have e : j = 8 := by omega
          subst e
          go_wp2
          go_ret
          refine ⟨_, rfl, sine_end a _ _ HF.out ?_, by first | exact hb | exact below_drewN hb _⟩
          unfold sR sS; rw [HE.out, if_pos rfl, cv_neg, cv_fval, ht.out]; simp only [cv_fval, cv_ival, cv_wid]; rw [HX.out]
    · have h2 : sF2 (cv .f32 a) = cop .sub .f64 (cv .f64 sHalf) (sF1 (cv .f32 a)) := by unfold sF2; rw [hq]; rfl
      have HX := Lib.hid (show cop .mul .f64 (cv .f64 4618760256179416344) (cop .sub .f64 (cv .f64 4602678819172646912) (cop .sub .f64 (cop .sub .f64 (conC .f32 .f64 (cv .f32 a)) (intC .down (conC .f32 .f64 (cv .f32 a)))) (cv .f64 4602678819172646912))) = sX (cv .f32 a) from by unfold sX; rw [h2, h1]; rfl)
      rw [h1] at hq; unfold sF0 sQuart at hq; (try unfold sHalf at hq); unfold sF0 sHalf at hg he; clear h1 h2 hn
      go_enter Try.func10, Try.ntmps10
      go_wp2_with go_in
      go_loopw [7, 8] (fun s7 s8 wr => ∃ (j t : Nat), j ≤ 8 ∧ s7 = .float .f64 t ∧ s8 = .int .i64 ((8 - j : Nat) : Int) ∧ Hid (cv .f64 t = sinT (sY (cv .f32 a)) j) ∧ Below w.heap.size w wr) (fun _ i _ => (intOf i).toNat)
      case atStart => exact ⟨0, _, by omega, rfl, rfl, rfl, by first | exact Below.refl _ _ | exact below_drewN (Below.refl _ _) _⟩
      case round =>
        obtain ⟨j, t, hj, rfl, rfl, ht, hb⟩ := hrel
        by_cases hlt : j < 8
        · have hi : (1 : Int) ≤ ((8 - j : Nat) : Int) := by omega
          have hi2 : ((8 - j : Nat) : Int) ≤ 8 := by omega
          go_wp2
          go_roundw
          case rel =>
            refine ⟨j + 1, _, by omega, rfl, ?_, ?_, by first | exact hb | exact below_drewN hb _⟩
            · rw [show ((8 - (j + 1) : Nat) : Int) = ((8 - j : Nat) : Int) - 1 by omega]; try go_num
            · refine Lib.hid ?_
              rw [wrap_div j hlt]; simp only [cv_fval, cv_ival, cv_wid]; rw [ht.out, HX.out]; rfl
          case measure => simp [intOf]; omega
        · have e : j = 8 := by omega
          subst e
          go_wp2
          go_ret
          refine ⟨_, rfl, sine_end a _ _ HF.out ?_, by first | exact hb | exact below_drewN hb _⟩
          unfold sR sS; rw [HE.out, if_pos rfl, cv_neg, cv_fval, ht.out]; simp only [cv_fval, cv_ival, cv_wid]; rw [HX.out]
  have hn : sNeg (cv .f32 a) = false := by unfold sNeg; rw [hg, he]; rfl
  have h1 : sF1 (cv .f32 a) = sF0 (cv .f32 a) := by unfold sF1; rw [hn]; rfl
  have HE := Lib.hid hn
  cases hq : (ordC .f64 (sF1 (cv .f32 a)) (cv .f64 sQuart) == some .gt)
  · have h2 : sF2 (cv .f32 a) = sF1 (cv .f32 a) := by unfold sF2; rw [hq]; rfl
    have HX := Lib.hid (show cop .mul .f64 (cv .f64 4618760256179416344) (cop .sub .f64 (conC .f32 .f64 (cv .f32 a)) (intC .down (conC .f32 .f64 (cv .f32 a)))) = sX (cv .f32 a) from by unfold sX; rw [h2, h1]; rfl)
    rw [h1] at hq; unfold sF0 sQuart at hq; (try unfold sHalf at hq); unfold sF0 sHalf at hg he; clear h1 h2 hn
    go_enter Try.func10, Try.ntmps10
    go_wp2_with go_in
    go_loopw [7, 8] (fun s7 s8 wr => ∃ (j t : Nat), j ≤ 8 ∧ s7 = .float .f64 t ∧ s8 = .int .i64 ((8 - j : Nat) : Int) ∧ Hid (cv .f64 t = sinT (sY (cv .f32 a)) j) ∧ Below w.heap.size w wr) (fun _ i _ => (intOf i).toNat)
    case atStart => exact ⟨0, _, by omega, rfl, rfl, rfl, by first | exact Below.refl _ _ | exact below_drewN (Below.refl _ _) _⟩
    case round =>
      obtain ⟨j, t, hj, rfl, rfl, ht, hb⟩ := hrel
      by_cases hlt : j < 8
      · have hi : (1 : Int) ≤ ((8 - j : Nat) : Int) := by omega
        have hi2 : ((8 - j : Nat) : Int) ≤ 8 := by omega
        go_wp2
        go_roundw
        case rel =>
          refine ⟨j + 1, _, by omega, rfl, ?_, ?_, by first | exact hb | exact below_drewN hb _⟩
          · rw [show ((8 - (j + 1) : Nat) : Int) = ((8 - j : Nat) : Int) - 1 by omega]; try go_num
          · refine Lib.hid ?_
            rw [wrap_div j hlt]; simp only [cv_fval, cv_ival, cv_wid]; rw [ht.out, HX.out]; rfl
        case measure => simp [intOf]; omega
      · have e : j = 8 := by omega
        subst e
        go_wp2
        go_ret
        refine ⟨_, rfl, sine_end a _ _ HF.out ?_, by first | exact hb | exact below_drewN hb _⟩
        unfold sR sS; rw [HE.out, if_neg Bool.false_ne_true, cv_fval, ht.out]; simp only [cv_fval, cv_ival, cv_wid]; rw [HX.out]
  · have h2 : sF2 (cv .f32 a) = cop .sub .f64 (cv .f64 sHalf) (sF1 (cv .f32 a)) := by unfold sF2; rw [hq]; rfl
    have HX := Lib.hid (show cop .mul .f64 (cv .f64 4618760256179416344) (cop .sub .f64 (cv .f64 4602678819172646912) (cop .sub .f64 (conC .f32 .f64 (cv .f32 a)) (intC .down (conC .f32 .f64 (cv .f32 a))))) = sX (cv .f32 a) from by unfold sX; rw [h2, h1]; rfl)
    rw [h1] at hq; unfold sF0 sQuart at hq; (try unfold sHalf at hq); unfold sF0 sHalf at hg he; clear h1 h2 hn
    go_enter Try.func10, Try.ntmps10
    go_wp2_with go_in
    go_loopw [7, 8] (fun s7 s8 wr => ∃ (j t : Nat), j ≤ 8 ∧ s7 = .float .f64 t ∧ s8 = .int .i64 ((8 - j : Nat) : Int) ∧ Hid (cv .f64 t = sinT (sY (cv .f32 a)) j) ∧ Below w.heap.size w wr) (fun _ i _ => (intOf i).toNat)
    case atStart => exact ⟨0, _, by omega, rfl, rfl, rfl, by first | exact Below.refl _ _ | exact below_drewN (Below.refl _ _) _⟩
    case round =>
      obtain ⟨j, t, hj, rfl, rfl, ht, hb⟩ := hrel
      by_cases hlt : j < 8
      · have hi : (1 : Int) ≤ ((8 - j : Nat) : Int) := by omega
        have hi2 : ((8 - j : Nat) : Int) ≤ 8 := by omega
        go_wp2
        go_roundw
        case rel =>
          refine ⟨j + 1, _, by omega, rfl, ?_, ?_, by first | exact hb | exact below_drewN hb _⟩
          · rw [show ((8 - (j + 1) : Nat) : Int) = ((8 - j : Nat) : Int) - 1 by omega]; try go_num
          · refine Lib.hid ?_
            rw [wrap_div j hlt]; simp only [cv_fval, cv_ival, cv_wid]; rw [ht.out, HX.out]; rfl
        case measure => simp [intOf]; omega
      · have e : j = 8 := by omega
        subst e
        go_wp2
        go_ret
        refine ⟨_, rfl, sine_end a _ _ HF.out ?_, by first | exact hb | exact below_drewN hb _⟩
        unfold sR sS; rw [HE.out, if_neg Bool.false_ne_true, cv_fval, ht.out]; simp only [cv_fval, cv_ival, cv_wid]; rw [HX.out]
end Go.Proofs.Ytklnoiopogodiaa
