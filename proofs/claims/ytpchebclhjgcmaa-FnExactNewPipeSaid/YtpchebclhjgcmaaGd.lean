/- Filters that are valid: the reference. Written by genok.py. No condition. -/
import Derived.Test.YtpchebclhjgcmaaGc
namespace Go.Proofs.Ytpchebclhjgcmaa
open Go.RowKit Go.Fl
def DrawnFrom (w wr : World) : Prop := ∃ n, wr = w.drewN n
def OkTo (xs : List Nat) (many : Int) (j : Nat) : Prop := ∀ i, i < j → (finB (nth xs i) && (decide ((i : Int) < many) || sameB (nth xs i) 0)) = true
theorem OkTo.step {xs : List Nat} {many : Int} {j : Nat} (h : OkTo xs many j) (h1 : finB (nth xs j) = true) (h2 : (j : Int) < many ∨ sameB (nth xs j) 0 = true) : OkTo xs many (j + 1) := by
  intro i hi
  by_cases e : i = j
  · subst e
    rcases h2 with h2 | h2 <;> simp [h1, h2]
  · exact h i (by omega)
theorem DrawnFrom.more {w wr : World} (h : DrawnFrom w wr) (n : Nat) : DrawnFrom w (wr.drewN n) := by
  obtain ⟨m, rfl⟩ := h
  exact ⟨_, World.drewN_drewN ..⟩
theorem filC_ss (w : World) (g : Nat) (k : Int) (c0 c1 c2 s0 s1 j : Nat) (t : TypeId) (h : Row w g (filC k c0 c1 c2 s0 s1).toArray t) (hj : j < 2) : w.cell? ⟨g, 4 + j, none⟩ = some (.float .f32 (nth [s0, s1] j)) := by
  rcases (by omega : j = 0 ∨ j = 1) with rfl | rfl
  · exact h.cell 4 _ rfl
  · exact h.cell 5 _ rfl
set_option maxRecDepth 20000 in
set_option maxHeartbeats 4000000 in
theorem c_sL02Ok (g : Nat) (k : Int) (c0 c1 c2 s0 s1 : Nat) (w : World) (q : Row w g (filC k c0 c1 c2 s0 s1).toArray 35) :
    Calls Try.prog 93 #[.pointer (some ⟨g, 0, none⟩)] w fun e w' => e = .returned (.bool (okF k [c0, c1, c2] [s0, s1])) ∧ ∃ n, w' = w.drewN n := by
  have p0 := q.cell 0 (.int .i64 k) rfl
  cases hk : inB k 1 5
  · have HR := Lib.hid (okF_k (cs := [c0, c1, c2]) (ss := [s0, s1]) hk)
    have HK := Lib.hid hk; clear hk q
    go_enter Try.func93, Try.ntmps93
    go_wp2_with (go_at_call 67; refine (c_l00In _ _ _ _ _ HK.out).mono ?_; rintro e w' ⟨rfl, rfl⟩)
    go_ret
    exact ⟨ret_boolx HR.out, 0, rfl⟩
  have HK1 := Lib.hid hk
  obtain ⟨u1, u2⟩ := usC_bd k
  obtain ⟨v1, v2⟩ := usS_bd k
  have HU := Lib.hid (fun W => c_l02Uses k W hk)
  have HRC := Lib.hid (fun h => okF_c (k := k) (cs := [c0, c1, c2]) (ss := [s0, s1]) h)
  have HRS := Lib.hid (fun h => okF_s (cs := [c0, c1, c2]) (ss := [s0, s1]) hk h)
  have Q := Lib.hid q
  clear hk q
  generalize usC k = m at HU HRC HRS u1 u2 ⊢
  generalize usS k = m2 at HU HRS v1 v2 ⊢
  generalize okF k [c0, c1, c2] [s0, s1] = v at HRC HRS ⊢
  go_enter Try.func93, Try.ntmps93
  go_wp2_with (first
    | (go_at_call 67; refine (c_l00In _ _ _ _ _ HK1.out).mono ?_; rintro e w' ⟨rfl, hww⟩; obtain rfl := hww.symm)
    | (go_at_call 102; refine (HU.out _).mono ?_; rintro e w' ⟨rfl, hww⟩; obtain rfl := hww.symm))
  go_loopw [5] (fun i wr => ∃ j : Nat, j ≤ 3 ∧ i = .int .i64 j ∧ DrawnFrom w wr ∧ OkTo [c0, c1, c2] m j) (fun i _ => 3 - (intOf i).toNat)
  case atStart => exact ⟨0, by omega, rfl, ⟨0, rfl⟩, fun j hj => by omega⟩
  case round =>
    obtain ⟨j, hj, rfl, HW, HK⟩ := hrel
    by_cases hlt : j < 3
    · have k1 := filC_cs _ _ _ _ _ _ _ _ _ _ (Q.out.below (below_of_drewN _ HW) Q.out.lt) hlt
      have hi : (0 : Int) ≤ j := by omega
      have hi2 : (j : Int) < 3 := by omega
      have HQ := Lib.hid (okA_no [c0, c1, c2] 3 m j hlt)
      cases hf : finB (nth [c0, c1, c2] j)
      · rw [hf] at HQ
        have HF := Lib.hid hf; clear hf
        have HR := Lib.hid (HRC.out (HQ.out rfl))
        go_wp2_with (go_at_call 94; refine (c_l01Finite _ _ _ HF.out).mono ?_; rintro e w' ⟨rfl, nq, rfl⟩)
        go_ret
        exact ⟨ret_boolx HR.out, HW.more _⟩
      · rw [hf] at HQ
        have HF := Lib.hid hf; clear hf
        by_cases hm : (j : Int) < m
        · have hge : ¬ (m ≤ (j : Int)) := by omega
          go_wp2_with (go_at_call 94; refine (c_l01Finite _ _ _ HF.out).mono ?_; rintro e w' ⟨rfl, nq, rfl⟩)
          go_roundw
          case rel => first | exact ⟨j + 1, by omega, by go_num, HW.more _, HK.step HF.out (.inl hm)⟩ | ((repeat apply Exists.intro); exact ⟨⟨j + 1, by omega, by go_num, HW.more _, HK.step HF.out (.inl hm)⟩, rfl⟩) | trace_state
          case measure => simp [intOf]; omega
        · have hge : m ≤ (j : Int) := by omega
          cases hz : sameB (nth [c0, c1, c2] j) 0
          · rw [hz, decide_eq_false hm] at HQ
            have HZ := Lib.hid hz; clear hz
            have HR := Lib.hid (HRC.out (HQ.out rfl))
            go_wp2_with (first | (go_at_call 94; refine (c_l01Finite _ _ _ HF.out).mono ?_; rintro e w' ⟨rfl, nq, rfl⟩) | (go_at_call 44; refine (c_l01Same_v _ _ _ _ HZ.out).mono ?_; rintro e w' ⟨rfl, rfl⟩))
            go_ret
            exact ⟨ret_boolx HR.out, HW.more _⟩
          · have HZ := Lib.hid hz; clear hz
            go_wp2_with (first | (go_at_call 94; refine (c_l01Finite _ _ _ HF.out).mono ?_; rintro e w' ⟨rfl, nq, rfl⟩) | (go_at_call 44; refine (c_l01Same_v _ _ _ _ HZ.out).mono ?_; rintro e w' ⟨rfl, rfl⟩))
            go_roundw
            case rel => first | exact ⟨j + 1, by omega, by go_num, HW.more _, HK.step HF.out (.inr HZ.out)⟩ | ((repeat apply Exists.intro); exact ⟨⟨j + 1, by omega, by go_num, HW.more _, HK.step HF.out (.inr HZ.out)⟩, rfl⟩) | trace_state
            case measure => simp [intOf]; omega
    · have e : j = 3 := by omega
      subst e
      have HC := Lib.hid (okA_yes [c0, c1, c2] 3 m HK)
      replace HRS := Lib.hid (HRS.out HC.out)
      have HW1 := HW
      clear HK HRC HW
      go_wp2
      go_loopw [6] (fun i wr => ∃ j : Nat, j ≤ 2 ∧ i = .int .i64 j ∧ DrawnFrom w wr ∧ OkTo [s0, s1] m2 j) (fun i _ => 2 - (intOf i).toNat)
      case atStart => exact ⟨0, by omega, rfl, HW1, fun j hj => by omega⟩
      case round =>
        clear HW1
        obtain ⟨j, hj, rfl, HW, HK⟩ := hrel
        by_cases hlt : j < 2
        · have k1 := filC_ss _ _ _ _ _ _ _ _ _ _ (Q.out.below (below_of_drewN _ HW) Q.out.lt) hlt
          have hi : (0 : Int) ≤ j := by omega
          have hi2 : (j : Int) < 2 := by omega
          have HQ := Lib.hid (okA_no [s0, s1] 2 m2 j hlt)
          cases hf : finB (nth [s0, s1] j)
          · rw [hf] at HQ
            have HF := Lib.hid hf; clear hf
            have HR := Lib.hid ((HQ.out rfl).symm.trans HRS.out)
            go_wp2_with (go_at_call 94; refine (c_l01Finite _ _ _ HF.out).mono ?_; rintro e w' ⟨rfl, nq, rfl⟩)
            go_ret
            exact ⟨ret_boolx HR.out, HW.more _⟩
          · rw [hf] at HQ
            have HF := Lib.hid hf; clear hf
            by_cases hm : (j : Int) < m2
            · have hge : ¬ (m2 ≤ (j : Int)) := by omega
              go_wp2_with (go_at_call 94; refine (c_l01Finite _ _ _ HF.out).mono ?_; rintro e w' ⟨rfl, nq, rfl⟩)
              go_roundw
              case rel => first | exact ⟨j + 1, by omega, by go_num, HW.more _, HK.step HF.out (.inl hm)⟩ | ((repeat apply Exists.intro); exact ⟨⟨j + 1, by omega, by go_num, HW.more _, HK.step HF.out (.inl hm)⟩, rfl⟩) | trace_state
              case measure => simp [intOf]; omega
            · have hge : m2 ≤ (j : Int) := by omega
              cases hz : sameB (nth [s0, s1] j) 0
              · rw [hz, decide_eq_false hm] at HQ
                have HZ := Lib.hid hz; clear hz
                have HR := Lib.hid ((HQ.out rfl).symm.trans HRS.out)
                go_wp2_with (first | (go_at_call 94; refine (c_l01Finite _ _ _ HF.out).mono ?_; rintro e w' ⟨rfl, nq, rfl⟩) | (go_at_call 44; refine (c_l01Same_v _ _ _ _ HZ.out).mono ?_; rintro e w' ⟨rfl, rfl⟩))
                go_ret
                exact ⟨ret_boolx HR.out, HW.more _⟩
              · have HZ := Lib.hid hz; clear hz
                go_wp2_with (first | (go_at_call 94; refine (c_l01Finite _ _ _ HF.out).mono ?_; rintro e w' ⟨rfl, nq, rfl⟩) | (go_at_call 44; refine (c_l01Same_v _ _ _ _ HZ.out).mono ?_; rintro e w' ⟨rfl, rfl⟩))
                go_roundw
                case rel => first | exact ⟨j + 1, by omega, by go_num, HW.more _, HK.step HF.out (.inr HZ.out)⟩ | ((repeat apply Exists.intro); exact ⟨⟨j + 1, by omega, by go_num, HW.more _, HK.step HF.out (.inr HZ.out)⟩, rfl⟩) | trace_state
                case measure => simp [intOf]; omega
        · have e : j = 2 := by omega
          subst e
          have HQ := Lib.hid ((okA_yes [s0, s1] 2 m2 HK).symm.trans HRS.out)
          clear HK HRS
          go_wp2
          go_ret
          exact ⟨ret_boolx HQ.out, HW⟩
end Go.Proofs.Ytpchebclhjgcmaa
