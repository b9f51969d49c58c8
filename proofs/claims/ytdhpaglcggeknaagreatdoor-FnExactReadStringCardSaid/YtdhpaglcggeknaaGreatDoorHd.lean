/- Filters and rings inside a string's box: the reference's tests. Written by genfo.py. No condition. -/
import Derived.Test.YtdhpaglcggeknaaGreatDoorGd
import Derived.Test.YtdhpaglcggeknaaGreatDoorSv
import Derived.Test.YtdhpaglcggeknaaGreatDoorHb
namespace Go.Proofs.YtdhpaglcggeknaaGreatDoor
open Go.RowKit Go.Fl
/-- A filter's cells from 'off' on. -/
def FilAt (w : World) (g off : Nat) (F : Fil) : Prop := w.cell? ⟨g, off, none⟩ = some (.int .i64 F.k) ∧ (∀ j, j < 3 → w.cell? ⟨g, off + 1 + j, none⟩ = some (.float .f32 (nth [F.c0, F.c1, F.c2] j))) ∧ (∀ j, j < 2 → w.cell? ⟨g, off + 4 + j, none⟩ = some (.float .f32 (nth [F.s0, F.s1] j)))
theorem filAt_2 {w : World} {g : Nat} {A : Option Addr} {n c : Nat} {at0 : Int} {F G : Fil} {l : Nat} {t : TypeId} (h : Row w g (strC A n c at0 F G l).toArray t) : FilAt w g 2 F := by
  refine ⟨h.cell 2 _ rfl, fun j hj => ?_, fun j hj => ?_⟩
  · rcases (by omega : j = 0 ∨ j = 1 ∨ j = 2) with rfl | rfl | rfl
    · exact h.cell 3 _ rfl
    · exact h.cell 4 _ rfl
    · exact h.cell 5 _ rfl
  · rcases (by omega : j = 0 ∨ j = 1) with rfl | rfl
    · exact h.cell 6 _ rfl
    · exact h.cell 7 _ rfl
theorem filAt_8 {w : World} {g : Nat} {A : Option Addr} {n c : Nat} {at0 : Int} {F G : Fil} {l : Nat} {t : TypeId} (h : Row w g (strC A n c at0 F G l).toArray t) : FilAt w g 8 G := by
  refine ⟨h.cell 8 _ rfl, fun j hj => ?_, fun j hj => ?_⟩
  · rcases (by omega : j = 0 ∨ j = 1 ∨ j = 2) with rfl | rfl | rfl
    · exact h.cell 9 _ rfl
    · exact h.cell 10 _ rfl
    · exact h.cell 11 _ rfl
  · rcases (by omega : j = 0 ∨ j = 1) with rfl | rfl
    · exact h.cell 12 _ rfl
    · exact h.cell 13 _ rfl
theorem FilAt.drawn {w wr : World} {g off : Nat} {F : Fil} (h : FilAt w g off F) (hd : ∃ n, wr = w.drewN n) : FilAt wr g off F := by
  obtain ⟨n, rfl⟩ := hd; exact h
def sfF (F G : Fil) : Bool := sfB F.k [F.c0, F.c1, F.c2] [F.s0, F.s1] G.k [G.c0, G.c1, G.c2] [G.s0, G.s1]
def okFil (F : Fil) : Bool := okF F.k [F.c0, F.c1, F.c2] [F.s0, F.s1]
set_option maxRecDepth 20000 in
theorem c_sL02Ring_c (A : Option Addr) (n c g : Nat) (at0 : Int) (w : World) (hn : (n : Int) ≤ 4294967296) (k0 : w.cell? ⟨g, 0, none⟩ = some (.slice A n c)) (k1 : w.cell? ⟨g, 1, none⟩ = some (.int .i64 at0)) : Calls Tryz.prog 29 #[.pointer (some ⟨g, 0, none⟩)] w fun e w' => e = .returned (.bool (ringOk n at0)) ∧ w = w' := by
  have h0 : (0 : Int) ≤ n := by omega
  cases hv : inB n 1 1024
  · have HR := Lib.hid (show false = ringOk n at0 from by unfold ringOk; rw [hv]; rfl)
    go_enter Tryz.func29, Tryz.ntmps29
    go_wp2_with (go_at_call 47; refine (c_l00In _ _ _ _ _ hv).mono ?_; rintro e w1 ⟨rfl, hww⟩; obtain rfl := hww.symm)
    go_ret
    exact ⟨ret_boolx HR.out, rfl⟩
  · cases hv2 : inB at0 0 ((n : Int) - 1)
    all_goals
      have HR := Lib.hid (show _ = ringOk n at0 from by unfold ringOk; rw [hv, hv2])
      go_enter Tryz.func29, Tryz.ntmps29
      go_wp2_with (first | (have _ := mI; go_at_call 47; refine (c_l00In _ _ _ _ _ hv2).mono ?_; rintro e w1 ⟨rfl, hww⟩; obtain rfl := hww.symm) | (go_at_call 47; refine (c_l00In _ _ _ _ _ hv).mono ?_; rintro e w1 ⟨rfl, hww⟩; obtain rfl := hww.symm; have mI := True.intro))
      go_ret
      exact ⟨ret_boolx HR.out, rfl⟩
set_option maxRecDepth 20000 in
set_option maxHeartbeats 4000000 in
theorem c_sL02Ok_2 (g : Nat) (F : Fil) (w : World) (q : FilAt w g 2 F) :
    Calls Tryz.prog 28 #[.pointer (some ⟨g, 2, none⟩)] w fun e w' => e = .returned (.bool (okFil F)) ∧ ∃ n, w' = w.drewN n := by
  have p0 := q.1
  unfold okFil
  cases hk : inB F.k 1 5
  · have HR := Lib.hid (okF_k (cs := [F.c0, F.c1, F.c2]) (ss := [F.s0, F.s1]) hk)
    have HK := Lib.hid hk; clear hk q
    generalize F.k = k at *
    go_enter Tryz.func28, Tryz.ntmps28
    go_wp2_with (go_at_call 47; refine (c_l00In _ _ _ _ _ HK.out).mono ?_; rintro e w' ⟨rfl, rfl⟩)
    go_ret
    exact ⟨ret_boolx HR.out, 0, rfl⟩
  have HK1 := Lib.hid hk
  obtain ⟨u1, u2⟩ := usC_bd F.k
  obtain ⟨v1, v2⟩ := usS_bd F.k
  have HU := Lib.hid (fun W => c_l02Uses F.k W hk)
  have HRC := Lib.hid (fun h => okF_c (k := F.k) (cs := [F.c0, F.c1, F.c2]) (ss := [F.s0, F.s1]) h)
  have HRS := Lib.hid (fun h => okF_s (cs := [F.c0, F.c1, F.c2]) (ss := [F.s0, F.s1]) hk h)
  have Q := Lib.hid q
  clear hk q
  generalize usC F.k = m at HU HRC HRS u1 u2 ⊢
  generalize usS F.k = m2 at HU HRS v1 v2 ⊢
  generalize okF F.k [F.c0, F.c1, F.c2] [F.s0, F.s1] = v at HRC HRS ⊢
  go_enter Tryz.func28, Tryz.ntmps28
  go_wp2_with (first
    | (go_at_call 47; refine (c_l00In _ _ _ _ _ HK1.out).mono ?_; rintro e w' ⟨rfl, hww⟩; obtain rfl := hww.symm)
    | (go_at_call 48; refine (HU.out _).mono ?_; rintro e w' ⟨rfl, hww⟩; obtain rfl := hww.symm))
  go_loopw [5] (fun i wr => ∃ j : Nat, j ≤ 3 ∧ i = .int .i64 j ∧ DrawnFrom w wr ∧ OkTo [F.c0, F.c1, F.c2] m j) (fun i _ => 3 - (intOf i).toNat)
  case atStart => exact ⟨0, by omega, rfl, ⟨0, rfl⟩, fun j hj => by omega⟩
  case round =>
    obtain ⟨j, hj, rfl, HW, HK⟩ := hrel
    by_cases hlt : j < 3
    · have k1 := (Q.out.drawn HW).2.1 j hlt
      have hi : (0 : Int) ≤ j := by omega
      have hi2 : (j : Int) < 3 := by omega
      have HQ := Lib.hid (okA_no [F.c0, F.c1, F.c2] 3 m j hlt)
      cases hf : finB (nth [F.c0, F.c1, F.c2] j)
      · rw [hf] at HQ
        have HF := Lib.hid hf; clear hf
        have HR := Lib.hid (HRC.out (HQ.out rfl))
        go_wp2_with (go_at_call 30; refine (c_l01Finite _ _ _ HF.out).mono ?_; rintro e w' ⟨rfl, nq, rfl⟩)
        go_ret
        exact ⟨ret_boolx HR.out, HW.more _⟩
      · rw [hf] at HQ
        have HF := Lib.hid hf; clear hf
        by_cases hm : (j : Int) < m
        · have hge : ¬ (m ≤ (j : Int)) := by omega
          go_wp2_with (go_at_call 30; refine (c_l01Finite _ _ _ HF.out).mono ?_; rintro e w' ⟨rfl, nq, rfl⟩)
          go_roundw
          case rel => first | exact ⟨j + 1, by omega, by go_num, HW.more _, HK.step HF.out (.inl hm)⟩ | ((repeat apply Exists.intro); exact ⟨⟨j + 1, by omega, by go_num, HW.more _, HK.step HF.out (.inl hm)⟩, rfl⟩)
          case measure => simp [intOf]; omega
        · have hge : m ≤ (j : Int) := by omega
          cases hz : sameB (nth [F.c0, F.c1, F.c2] j) 0
          · rw [hz, decide_eq_false hm] at HQ
            have HZ := Lib.hid hz; clear hz
            have HR := Lib.hid (HRC.out (HQ.out rfl))
            go_wp2_with (first | (go_at_call 30; refine (c_l01Finite _ _ _ HF.out).mono ?_; rintro e w' ⟨rfl, nq, rfl⟩) | (go_at_call 49; refine (c_l01Same_v _ _ _ _ HZ.out).mono ?_; rintro e w' ⟨rfl, rfl⟩))
            go_ret
            exact ⟨ret_boolx HR.out, HW.more _⟩
          · have HZ := Lib.hid hz; clear hz
            go_wp2_with (first | (go_at_call 30; refine (c_l01Finite _ _ _ HF.out).mono ?_; rintro e w' ⟨rfl, nq, rfl⟩) | (go_at_call 49; refine (c_l01Same_v _ _ _ _ HZ.out).mono ?_; rintro e w' ⟨rfl, rfl⟩))
            go_roundw
            case rel => first | exact ⟨j + 1, by omega, by go_num, HW.more _, HK.step HF.out (.inr HZ.out)⟩ | ((repeat apply Exists.intro); exact ⟨⟨j + 1, by omega, by go_num, HW.more _, HK.step HF.out (.inr HZ.out)⟩, rfl⟩)
            case measure => simp [intOf]; omega
    · have e : j = 3 := by omega
      subst e
      have HC := Lib.hid (okA_yes [F.c0, F.c1, F.c2] 3 m HK)
      replace HRS := Lib.hid (HRS.out HC.out)
      have HW1 := HW
      clear HK HRC HW
      go_wp2
      go_loopw [6] (fun i wr => ∃ j : Nat, j ≤ 2 ∧ i = .int .i64 j ∧ DrawnFrom w wr ∧ OkTo [F.s0, F.s1] m2 j) (fun i _ => 2 - (intOf i).toNat)
      case atStart => exact ⟨0, by omega, rfl, HW1, fun j hj => by omega⟩
      case round =>
        clear HW1
        obtain ⟨j, hj, rfl, HW, HK⟩ := hrel
        by_cases hlt : j < 2
        · have k1 := (Q.out.drawn HW).2.2 j hlt
          have hi : (0 : Int) ≤ j := by omega
          have hi2 : (j : Int) < 2 := by omega
          have HQ := Lib.hid (okA_no [F.s0, F.s1] 2 m2 j hlt)
          cases hf : finB (nth [F.s0, F.s1] j)
          · rw [hf] at HQ
            have HF := Lib.hid hf; clear hf
            have HR := Lib.hid ((HQ.out rfl).symm.trans HRS.out)
            go_wp2_with (go_at_call 30; refine (c_l01Finite _ _ _ HF.out).mono ?_; rintro e w' ⟨rfl, nq, rfl⟩)
            go_ret
            exact ⟨ret_boolx HR.out, HW.more _⟩
          · rw [hf] at HQ
            have HF := Lib.hid hf; clear hf
            by_cases hm : (j : Int) < m2
            · have hge : ¬ (m2 ≤ (j : Int)) := by omega
              go_wp2_with (go_at_call 30; refine (c_l01Finite _ _ _ HF.out).mono ?_; rintro e w' ⟨rfl, nq, rfl⟩)
              go_roundw
              case rel => first | exact ⟨j + 1, by omega, by go_num, HW.more _, HK.step HF.out (.inl hm)⟩ | ((repeat apply Exists.intro); exact ⟨⟨j + 1, by omega, by go_num, HW.more _, HK.step HF.out (.inl hm)⟩, rfl⟩)
              case measure => simp [intOf]; omega
            · have hge : m2 ≤ (j : Int) := by omega
              cases hz : sameB (nth [F.s0, F.s1] j) 0
              · rw [hz, decide_eq_false hm] at HQ
                have HZ := Lib.hid hz; clear hz
                have HR := Lib.hid ((HQ.out rfl).symm.trans HRS.out)
                go_wp2_with (first | (go_at_call 30; refine (c_l01Finite _ _ _ HF.out).mono ?_; rintro e w' ⟨rfl, nq, rfl⟩) | (go_at_call 49; refine (c_l01Same_v _ _ _ _ HZ.out).mono ?_; rintro e w' ⟨rfl, rfl⟩))
                go_ret
                exact ⟨ret_boolx HR.out, HW.more _⟩
              · have HZ := Lib.hid hz; clear hz
                go_wp2_with (first | (go_at_call 30; refine (c_l01Finite _ _ _ HF.out).mono ?_; rintro e w' ⟨rfl, nq, rfl⟩) | (go_at_call 49; refine (c_l01Same_v _ _ _ _ HZ.out).mono ?_; rintro e w' ⟨rfl, rfl⟩))
                go_roundw
                case rel => first | exact ⟨j + 1, by omega, by go_num, HW.more _, HK.step HF.out (.inr HZ.out)⟩ | ((repeat apply Exists.intro); exact ⟨⟨j + 1, by omega, by go_num, HW.more _, HK.step HF.out (.inr HZ.out)⟩, rfl⟩)
                case measure => simp [intOf]; omega
        · have e : j = 2 := by omega
          subst e
          have HQ := Lib.hid ((okA_yes [F.s0, F.s1] 2 m2 HK).symm.trans HRS.out)
          clear HK HRS
          go_wp2
          go_ret
          exact ⟨ret_boolx HQ.out, HW⟩
set_option maxRecDepth 20000 in
set_option maxHeartbeats 4000000 in
theorem c_sL02Ok_8 (g : Nat) (F : Fil) (w : World) (q : FilAt w g 8 F) :
    Calls Tryz.prog 28 #[.pointer (some ⟨g, 8, none⟩)] w fun e w' => e = .returned (.bool (okFil F)) ∧ ∃ n, w' = w.drewN n := by
  have p0 := q.1
  unfold okFil
  cases hk : inB F.k 1 5
  · have HR := Lib.hid (okF_k (cs := [F.c0, F.c1, F.c2]) (ss := [F.s0, F.s1]) hk)
    have HK := Lib.hid hk; clear hk q
    generalize F.k = k at *
    go_enter Tryz.func28, Tryz.ntmps28
    go_wp2_with (go_at_call 47; refine (c_l00In _ _ _ _ _ HK.out).mono ?_; rintro e w' ⟨rfl, rfl⟩)
    go_ret
    exact ⟨ret_boolx HR.out, 0, rfl⟩
  have HK1 := Lib.hid hk
  obtain ⟨u1, u2⟩ := usC_bd F.k
  obtain ⟨v1, v2⟩ := usS_bd F.k
  have HU := Lib.hid (fun W => c_l02Uses F.k W hk)
  have HRC := Lib.hid (fun h => okF_c (k := F.k) (cs := [F.c0, F.c1, F.c2]) (ss := [F.s0, F.s1]) h)
  have HRS := Lib.hid (fun h => okF_s (cs := [F.c0, F.c1, F.c2]) (ss := [F.s0, F.s1]) hk h)
  have Q := Lib.hid q
  clear hk q
  generalize usC F.k = m at HU HRC HRS u1 u2 ⊢
  generalize usS F.k = m2 at HU HRS v1 v2 ⊢
  generalize okF F.k [F.c0, F.c1, F.c2] [F.s0, F.s1] = v at HRC HRS ⊢
  go_enter Tryz.func28, Tryz.ntmps28
  go_wp2_with (first
    | (go_at_call 47; refine (c_l00In _ _ _ _ _ HK1.out).mono ?_; rintro e w' ⟨rfl, hww⟩; obtain rfl := hww.symm)
    | (go_at_call 48; refine (HU.out _).mono ?_; rintro e w' ⟨rfl, hww⟩; obtain rfl := hww.symm))
  go_loopw [5] (fun i wr => ∃ j : Nat, j ≤ 3 ∧ i = .int .i64 j ∧ DrawnFrom w wr ∧ OkTo [F.c0, F.c1, F.c2] m j) (fun i _ => 3 - (intOf i).toNat)
  case atStart => exact ⟨0, by omega, rfl, ⟨0, rfl⟩, fun j hj => by omega⟩
  case round =>
    obtain ⟨j, hj, rfl, HW, HK⟩ := hrel
    by_cases hlt : j < 3
    · have k1 := (Q.out.drawn HW).2.1 j hlt
      have hi : (0 : Int) ≤ j := by omega
      have hi2 : (j : Int) < 3 := by omega
      have HQ := Lib.hid (okA_no [F.c0, F.c1, F.c2] 3 m j hlt)
      cases hf : finB (nth [F.c0, F.c1, F.c2] j)
      · rw [hf] at HQ
        have HF := Lib.hid hf; clear hf
        have HR := Lib.hid (HRC.out (HQ.out rfl))
        go_wp2_with (go_at_call 30; refine (c_l01Finite _ _ _ HF.out).mono ?_; rintro e w' ⟨rfl, nq, rfl⟩)
        go_ret
        exact ⟨ret_boolx HR.out, HW.more _⟩
      · rw [hf] at HQ
        have HF := Lib.hid hf; clear hf
        by_cases hm : (j : Int) < m
        · have hge : ¬ (m ≤ (j : Int)) := by omega
          go_wp2_with (go_at_call 30; refine (c_l01Finite _ _ _ HF.out).mono ?_; rintro e w' ⟨rfl, nq, rfl⟩)
          go_roundw
          case rel => first | exact ⟨j + 1, by omega, by go_num, HW.more _, HK.step HF.out (.inl hm)⟩ | ((repeat apply Exists.intro); exact ⟨⟨j + 1, by omega, by go_num, HW.more _, HK.step HF.out (.inl hm)⟩, rfl⟩)
          case measure => simp [intOf]; omega
        · have hge : m ≤ (j : Int) := by omega
          cases hz : sameB (nth [F.c0, F.c1, F.c2] j) 0
          · rw [hz, decide_eq_false hm] at HQ
            have HZ := Lib.hid hz; clear hz
            have HR := Lib.hid (HRC.out (HQ.out rfl))
            go_wp2_with (first | (go_at_call 30; refine (c_l01Finite _ _ _ HF.out).mono ?_; rintro e w' ⟨rfl, nq, rfl⟩) | (go_at_call 49; refine (c_l01Same_v _ _ _ _ HZ.out).mono ?_; rintro e w' ⟨rfl, rfl⟩))
            go_ret
            exact ⟨ret_boolx HR.out, HW.more _⟩
          · have HZ := Lib.hid hz; clear hz
            go_wp2_with (first | (go_at_call 30; refine (c_l01Finite _ _ _ HF.out).mono ?_; rintro e w' ⟨rfl, nq, rfl⟩) | (go_at_call 49; refine (c_l01Same_v _ _ _ _ HZ.out).mono ?_; rintro e w' ⟨rfl, rfl⟩))
            go_roundw
            case rel => first | exact ⟨j + 1, by omega, by go_num, HW.more _, HK.step HF.out (.inr HZ.out)⟩ | ((repeat apply Exists.intro); exact ⟨⟨j + 1, by omega, by go_num, HW.more _, HK.step HF.out (.inr HZ.out)⟩, rfl⟩)
            case measure => simp [intOf]; omega
    · have e : j = 3 := by omega
      subst e
      have HC := Lib.hid (okA_yes [F.c0, F.c1, F.c2] 3 m HK)
      replace HRS := Lib.hid (HRS.out HC.out)
      have HW1 := HW
      clear HK HRC HW
      go_wp2
      go_loopw [6] (fun i wr => ∃ j : Nat, j ≤ 2 ∧ i = .int .i64 j ∧ DrawnFrom w wr ∧ OkTo [F.s0, F.s1] m2 j) (fun i _ => 2 - (intOf i).toNat)
      case atStart => exact ⟨0, by omega, rfl, HW1, fun j hj => by omega⟩
      case round =>
        clear HW1
        obtain ⟨j, hj, rfl, HW, HK⟩ := hrel
        by_cases hlt : j < 2
        · have k1 := (Q.out.drawn HW).2.2 j hlt
          have hi : (0 : Int) ≤ j := by omega
          have hi2 : (j : Int) < 2 := by omega
          have HQ := Lib.hid (okA_no [F.s0, F.s1] 2 m2 j hlt)
          cases hf : finB (nth [F.s0, F.s1] j)
          · rw [hf] at HQ
            have HF := Lib.hid hf; clear hf
            have HR := Lib.hid ((HQ.out rfl).symm.trans HRS.out)
            go_wp2_with (go_at_call 30; refine (c_l01Finite _ _ _ HF.out).mono ?_; rintro e w' ⟨rfl, nq, rfl⟩)
            go_ret
            exact ⟨ret_boolx HR.out, HW.more _⟩
          · rw [hf] at HQ
            have HF := Lib.hid hf; clear hf
            by_cases hm : (j : Int) < m2
            · have hge : ¬ (m2 ≤ (j : Int)) := by omega
              go_wp2_with (go_at_call 30; refine (c_l01Finite _ _ _ HF.out).mono ?_; rintro e w' ⟨rfl, nq, rfl⟩)
              go_roundw
              case rel => first | exact ⟨j + 1, by omega, by go_num, HW.more _, HK.step HF.out (.inl hm)⟩ | ((repeat apply Exists.intro); exact ⟨⟨j + 1, by omega, by go_num, HW.more _, HK.step HF.out (.inl hm)⟩, rfl⟩)
              case measure => simp [intOf]; omega
            · have hge : m2 ≤ (j : Int) := by omega
              cases hz : sameB (nth [F.s0, F.s1] j) 0
              · rw [hz, decide_eq_false hm] at HQ
                have HZ := Lib.hid hz; clear hz
                have HR := Lib.hid ((HQ.out rfl).symm.trans HRS.out)
                go_wp2_with (first | (go_at_call 30; refine (c_l01Finite _ _ _ HF.out).mono ?_; rintro e w' ⟨rfl, nq, rfl⟩) | (go_at_call 49; refine (c_l01Same_v _ _ _ _ HZ.out).mono ?_; rintro e w' ⟨rfl, rfl⟩))
                go_ret
                exact ⟨ret_boolx HR.out, HW.more _⟩
              · have HZ := Lib.hid hz; clear hz
                go_wp2_with (first | (go_at_call 30; refine (c_l01Finite _ _ _ HF.out).mono ?_; rintro e w' ⟨rfl, nq, rfl⟩) | (go_at_call 49; refine (c_l01Same_v _ _ _ _ HZ.out).mono ?_; rintro e w' ⟨rfl, rfl⟩))
                go_roundw
                case rel => first | exact ⟨j + 1, by omega, by go_num, HW.more _, HK.step HF.out (.inr HZ.out)⟩ | ((repeat apply Exists.intro); exact ⟨⟨j + 1, by omega, by go_num, HW.more _, HK.step HF.out (.inr HZ.out)⟩, rfl⟩)
                case measure => simp [intOf]; omega
        · have e : j = 2 := by omega
          subst e
          have HQ := Lib.hid ((okA_yes [F.s0, F.s1] 2 m2 HK).symm.trans HRS.out)
          clear HK HRS
          go_wp2
          go_ret
          exact ⟨ret_boolx HQ.out, HW⟩
end Go.Proofs.YtdhpaglcggeknaaGreatDoor
