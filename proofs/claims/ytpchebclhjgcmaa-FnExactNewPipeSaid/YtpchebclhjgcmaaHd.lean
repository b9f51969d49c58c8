/- Filters and rings inside a string's box: the reference's tests. Written by genfo.py. No condition. -/
import Derived.Test.YtpchebclhjgcmaaGd
import Derived.Test.YtpchebclhjgcmaaSv
import Derived.Test.YtpchebclhjgcmaaHb
namespace Go.Proofs.Ytpchebclhjgcmaa
open Go.RowKit Go.Fl
/-- A filter's cells from 'off' on. -/
def FilAt (w : World) (g off : Nat) (F : Fil) : Prop := w.cell? ⟨g, off, none⟩ = some (.int .i64 F.k) ∧ (∀ j, j < 3 → w.cell? ⟨g, off + 1 + j, none⟩ = some (.float .f32 (nth [F.c0, F.c1, F.c2] j))) ∧ (∀ j, j < 2 → w.cell? ⟨g, off + 4 + j, none⟩ = some (.float .f32 (nth [F.s0, F.s1] j)))
theorem filAt_2 {w : World} {g : Nat} {A : Option Addr} {n c : Nat} {at0 : Int} {F G : Fil} {l : Nat} {t : TypeId} (h : Row w g (strC A n c at0 F G l).toArray t) : FilAt w g 2 F := by
  refine ⟨h.cell 2 _ rfl, fun j hj => ?_, fun j hj => ?_⟩
  · rcases (by omega : j = 0 ∨ j = 1 ∨ j = 2) with rfl | rfl | rfl
    · exact h.cell 3 _ rfl
    · exact h.cell 4 _ rfl
    · exact h.cell 5 _ rfl
  · rcases (by omega : j = 0 ∨ j = 1) with rfl | rfl
    · exact h.cell 6 _ rfl
    · exact h.cell 7 _ rfl
theorem filAt_8 {w : World} {g : Nat} {A : Option Addr} {n c : Nat} {at0 : Int} {F G : Fil} {l : Nat} {t : TypeId} (h : Row w g (strC A n c at0 F G l).toArray t) : FilAt w g 8 G := by
  refine ⟨h.cell 8 _ rfl, fun j hj => ?_, fun j hj => ?_⟩
  · rcases (by omega : j = 0 ∨ j = 1 ∨ j = 2) with rfl | rfl | rfl
    · exact h.cell 9 _ rfl
    · exact h.cell 10 _ rfl
    · exact h.cell 11 _ rfl
  · rcases (by omega : j = 0 ∨ j = 1) with rfl | rfl
    · exact h.cell 12 _ rfl
    · exact h.cell 13 _ rfl
theorem FilAt.drawn {w wr : World} {g off : Nat} {F : Fil} (h : FilAt w g off F) (hd : ∃ n, wr = w.drewN n) : FilAt wr g off F := by
  obtain ⟨n, rfl⟩ := hd; exact h
def sfF (F G : Fil) : Bool := sfB F.k [F.c0, F.c1, F.c2] [F.s0, F.s1] G.k [G.c0, G.c1, G.c2] [G.s0, G.s1]
def okFil (F : Fil) : Bool := okF F.k [F.c0, F.c1, F.c2] [F.s0, F.s1]
set_option maxRecDepth 20000 in
theorem c_sL02Ring_c (A : Option Addr) (n c g : Nat) (at0 : Int) (w : World) (hn : (n : Int) ≤ 4294967296) (k0 : w.cell? ⟨g, 0, none⟩ = some (.slice A n c)) (k1 : w.cell? ⟨g, 1, none⟩ = some (.int .i64 at0)) : Calls Try.prog 92 #[.pointer (some ⟨g, 0, none⟩)] w fun e w' => e = .returned (.bool (ringOk n at0)) ∧ w = w' := by
  have h0 : (0 : Int) ≤ n := by omega
  cases hv : inB n 1 1024
  · have HR := Lib.hid (show false = ringOk n at0 from by unfold ringOk; rw [hv]; rfl)
    go_enter Try.func92, Try.ntmps92
    go_wp2_with (go_at_call 67; refine (c_l00In _ _ _ _ _ hv).mono ?_; rintro e w1 ⟨rfl, hww⟩; obtain rfl := hww.symm)
    go_ret
    exact ⟨ret_boolx HR.out, rfl⟩
  · cases hv2 : inB at0 0 ((n : Int) - 1)
    all_goals
      have HR := Lib.hid (show _ = ringOk n at0 from by unfold ringOk; rw [hv, hv2])
      go_enter Try.func92, Try.ntmps92
      go_wp2_with (first | (have _ := mI; go_at_call 67; refine (c_l00In _ _ _ _ _ hv2).mono ?_; rintro e w1 ⟨rfl, hww⟩; obtain rfl := hww.symm) | (go_at_call 67; refine (c_l00In _ _ _ _ _ hv).mono ?_; rintro e w1 ⟨rfl, hww⟩; obtain rfl := hww.symm; have mI := True.intro))
      go_ret
      exact ⟨ret_boolx HR.out, rfl⟩
set_option maxRecDepth 20000 in
set_option maxHeartbeats 4000000 in
theorem c_sL02Ok_2 (g : Nat) (F : Fil) (w : World) (q : FilAt w g 2 F) :
    Calls Try.prog 93 #[.pointer (some ⟨g, 2, none⟩)] w fun e w' => e = .returned (.bool (okFil F)) ∧ ∃ n, w' = w.drewN n := by
  have p0 := q.1
  unfold okFil
  cases hk : inB F.k 1 5
  · have HR := Lib.hid (okF_k (cs := [F.c0, F.c1, F.c2]) (ss := [F.s0, F.s1]) hk)
    have HK := Lib.hid hk; clear hk q
    generalize F.k = k at *
    go_enter Try.func93, Try.ntmps93
    go_wp2_with (go_at_call 67; refine (c_l00In _ _ _ _ _ HK.out).mono ?_; rintro e w' ⟨rfl, rfl⟩)
    go_ret
    exact ⟨ret_boolx HR.out, 0, rfl⟩
  have HK1 := Lib.hid hk
  obtain ⟨u1, u2⟩ := usC_bd F.k
  obtain ⟨v1, v2⟩ := usS_bd F.k
  have HU := Lib.hid (fun W => c_l02Uses F.k W hk)
  have HRC := Lib.hid (fun h => okF_c (k := F.k) (cs := [F.c0, F.c1, F.c2]) (ss := [F.s0, F.s1]) h)
  have HRS := Lib.hid (fun h => okF_s (cs := [F.c0, F.c1, F.c2]) (ss := [F.s0, F.s1]) hk h)
  have Q := Lib.hid q
  clear hk q
  generalize usC F.k = m at HU HRC HRS u1 u2 ⊢
  generalize usS F.k = m2 at HU HRS v1 v2 ⊢
  generalize okF F.k [F.c0, F.c1, F.c2] [F.s0, F.s1] = v at HRC HRS ⊢
  go_enter Try.func93, Try.ntmps93
  go_wp2_with (first
    | (go_at_call 67; refine (c_l00In _ _ _ _ _ HK1.out).mono ?_; rintro e w' ⟨rfl, hww⟩; obtain rfl := hww.symm)
    | (go_at_call 102; refine (HU.out _).mono ?_; rintro e w' ⟨rfl, hww⟩; obtain rfl := hww.symm))
  go_loopw [5] (fun i wr => ∃ j : Nat, j ≤ 3 ∧ i = .int .i64 j ∧ DrawnFrom w wr ∧ OkTo [F.c0, F.c1, F.c2] m j) (fun i _ => 3 - (intOf i).toNat)
  case atStart => exact ⟨0, by omega, rfl, ⟨0, rfl⟩, fun j hj => by omega⟩
  case round =>
    obtain ⟨j, hj, rfl, HW, HK⟩ := hrel
    by_cases hlt : j < 3
    · have k1 := (Q.out.drawn HW).2.1 j hlt
      have hi : (0 : Int) ≤ j := by omega
      have hi2 : (j : Int) < 3 := by omega
      have HQ := Lib.hid (okA_no [F.c0, F.c1, F.c2] 3 m j hlt)
      cases hf : finB (nth [F.c0, F.c1, F.c2] j)
      · rw [hf] at HQ
        have HF := Lib.hid hf; clear hf
        have HR := Lib.hid (HRC.out (HQ.out rfl))
        go_wp2_with (go_at_call 94; refine (c_l01Finite _ _ _ HF.out).mono ?_; rintro e w' ⟨rfl, nq, rfl⟩)
        go_ret
        exact ⟨ret_boolx HR.out, HW.more _⟩
      · rw [hf] at HQ
        have HF := Lib.hid hf; clear hf
        by_cases hm : (j : Int) < m
        · have hge : ¬ (m ≤ (j : Int)) := by omega
          go_wp2_with (go_at_call 94; refine (c_l01Finite _ _ _ HF.out).mono ?_; rintro e w' ⟨rfl, nq, rfl⟩)
          go_roundw
          case rel => first | exact ⟨j + 1, by omega, by go_num, HW.more _, HK.step HF.out (.inl hm)⟩ | ((repeat apply Exists.intro); exact ⟨⟨j + 1, by omega, by go_num, HW.more _, HK.step HF.out (.inl hm)⟩, rfl⟩)
          case measure => simp [intOf]; omega
        · have hge : m ≤ (j : Int) := by omega
          cases hz : sameB (nth [F.c0, F.c1, F.c2] j) 0
          · rw [hz, decide_eq_false hm] at HQ
            have HZ := Lib.hid hz; clear hz
            have HR := Lib.hid (HRC.out (HQ.out rfl))
            go_wp2_with (first | (go_at_call 94; refine (c_l01Finite _ _ _ HF.out).mono ?_; rintro e w' ⟨rfl, nq, rfl⟩) | (go_at_call 44; refine (c_l01Same_v _ _ _ _ HZ.out).mono ?_; rintro e w' ⟨rfl, rfl⟩))
            go_ret
            exact ⟨ret_boolx HR.out, HW.more _⟩
          · have HZ := Lib.hid hz; clear hz
            go_wp2_with (first | (go_at_call 94; refine (c_l01Finite _ _ _ HF.out).mono ?_; rintro e w' ⟨rfl, nq, rfl⟩) | (go_at_call 44; refine (c_l01Same_v _ _ _ _ HZ.out).mono ?_; rintro e w' ⟨rfl, rfl⟩))
            go_roundw
            case rel => first | exact ⟨j + 1, by omega, by go_num, HW.more _, HK.step HF.out (.inr HZ.out)⟩ | ((repeat apply Exists.intro); exact ⟨⟨j + 1, by omega, by go_num, HW.more _, HK.step HF.out (.inr HZ.out)⟩, rfl⟩)
            case measure => simp [intOf]; omega
    · have e : j = 3 := by omega
      subst e
      have HC := Lib.hid (okA_yes [F.c0, F.c1, F.c2] 3 m HK)
      replace HRS := Lib.hid (HRS.out HC.out)
      have HW1 := HW
      clear HK HRC HW
      go_wp2
      go_loopw [6] (fun i wr => ∃ j : Nat, j ≤ 2 ∧ i = .int .i64 j ∧ DrawnFrom w wr ∧ OkTo [F.s0, F.s1] m2 j) (fun i _ => 2 - (intOf i).toNat)
      case atStart => exact ⟨0, by omega, rfl, HW1, fun j hj => by omega⟩
      case round =>
        clear HW1
        obtain ⟨j, hj, rfl, HW, HK⟩ := hrel
        by_cases hlt : j < 2
        · have k1 := (Q.out.drawn HW).2.2 j hlt
          have hi : (0 : Int) ≤ j := by omega
          have hi2 : (j : Int) < 2 := by omega
          have HQ := Lib.hid (okA_no [F.s0, F.s1] 2 m2 j hlt)
          cases hf : finB (nth [F.s0, F.s1] j)
          · rw [hf] at HQ
            have HF := Lib.hid hf; clear hf
            have HR := Lib.hid ((HQ.out rfl).symm.trans HRS.out)
            go_wp2_with (go_at_call 94; refine (c_l01Finite _ _ _ HF.out).mono ?_; rintro e w' ⟨rfl, nq, rfl⟩)
            go_ret
            exact ⟨ret_boolx HR.out, HW.more _⟩
          · rw [hf] at HQ
            have HF := Lib.hid hf; clear hf
            by_cases hm : (j : Int) < m2
            · have hge : ¬ (m2 ≤ (j : Int)) := by omega
              go_wp2_with (go_at_call 94; refine (c_l01Finite _ _ _ HF.out).mono ?_; rintro e w' ⟨rfl, nq, rfl⟩)
              go_roundw
              case rel => first | exact ⟨j + 1, by omega, by go_num, HW.more _, HK.step HF.out (.inl hm)⟩ | ((repeat apply Exists.intro); exact ⟨⟨j + 1, by omega, by go_num, HW.more _, HK.step HF.out (.inl hm)⟩, rfl⟩)
              case measure => simp [intOf]; omega
            · have hge : m2 ≤ (j : Int) := by omega
              cases hz : sameB (nth [F.s0, F.s1] j) 0
              · rw [hz, decide_eq_false hm] at HQ
                have HZ := Lib.hid hz; clear hz
                have HR := Lib.hid ((HQ.out rfl).symm.trans HRS.out)
                go_wp2_with (first | (go_at_call 94; refine (c_l01Finite _ _ _ HF.out).mono ?_; rintro e w' ⟨rfl, nq, rfl⟩) | (go_at_call 44; refine (c_l01Same_v _ _ _ _ HZ.out).mono ?_; rintro e w' ⟨rfl, rfl⟩))
                go_ret
                exact ⟨ret_boolx HR.out, HW.more _⟩
              · have HZ := Lib.hid hz; clear hz
                go_wp2_with (first | (go_at_call 94; refine (c_l01Finite _ _ _ HF.out).mono ?_; rintro e w' ⟨rfl, nq, rfl⟩) | (go_at_call 44; refine (c_l01Same_v _ _ _ _ HZ.out).mono ?_; rintro e w' ⟨rfl, rfl⟩))
                go_roundw
                case rel => first | exact ⟨j + 1, by omega, by go_num, HW.more _, HK.step HF.out (.inr HZ.out)⟩ | ((repeat apply Exists.intro); exact ⟨⟨j + 1, by omega, by go_num, HW.more _, HK.step HF.out (.inr HZ.out)⟩, rfl⟩)
                case measure => simp [intOf]; omega
        · have e : j = 2 := by omega
          subst e
          have HQ := Lib.hid ((okA_yes [F.s0, F.s1] 2 m2 HK).symm.trans HRS.out)
          clear HK HRS
          go_wp2
          go_ret
          exact ⟨ret_boolx HQ.out, HW⟩
set_option maxRecDepth 20000 in
set_option maxHeartbeats 2000000 in
theorem c_sL02Same_2 (g h : Nat) (F G : Fil) (w : World) (q1 : FilAt w g 2 F) (q2 : FilAt w h 2 G) :
    Calls Try.prog 43 #[.pointer (some ⟨g, 2, none⟩), .pointer (some ⟨h, 2, none⟩)] w fun e w' => e = .returned (.bool (sfF F G)) ∧ Below w.heap.size w w' := by
  have p0 := q1.1; have p1 := q2.1
  have Q1 := Lib.hid q1; have Q2 := Lib.hid q2; clear q1 q2
  obtain ⟨k, c0, c1, c2, s0, s1⟩ := F
  obtain ⟨l, d0, d1, d2, t0, t1⟩ := G
  unfold sfF
  dsimp only at *
  by_cases hk : k = l
  case neg =>
    have HR := Lib.hid (sfB_ne (cs := [c0, c1, c2]) (ss := [s0, s1]) (ds := [d0, d1, d2]) (ts := [t0, t1]) hk)
    have hne : (k != l) = true := by simpa using hk
    clear hk Q1 Q2
    go_enter Try.func43, Try.ntmps43
    go_wp2
    go_quiet (fail)
    go_wp2
    go_ret
    exact ⟨ret_boolx HR.out, below_drewN (Below.refl _ _) _⟩
  case pos =>
  subst hk
  have heq : (k != k) = false := by simp
  go_enter Try.func43, Try.ntmps43
  go_wp2
  go_quiet (fail)
  go_wp2
  go_loopw [5] (fun i wr => ∃ j : Nat, j ≤ 3 ∧ i = .int .i64 j ∧ DrawnFrom w wr ∧ Hid (∀ i, i < j → sameB (nth [c0, c1, c2] i) (nth [d0, d1, d2] i) = true)) (fun i _ => 3 - (intOf i).toNat)
  case atStart => exact ⟨0, by omega, rfl, ⟨_, rfl⟩, fun j hj => by omega⟩
  case round =>
    obtain ⟨j, hj, rfl, HW, HK⟩ := hrel
    have HB := Lib.hid (below_of_drewN w.heap.size HW)
    replace Q1 := Lib.hid (Q1.out.drawn HW); replace Q2 := Lib.hid (Q2.out.drawn HW)
    by_cases hlt : j < 3
    · have k1 := Q1.out.2.1 j hlt
      have k2 := Q2.out.2.1 j hlt
      dsimp only at k1 k2
      have hi : (0 : Int) ≤ j := by omega
      have hi2 : (j : Int) < 3 := by omega
      cases hsm : sameB (nth [c0, c1, c2] j) (nth [d0, d1, d2] j)
      · have HQ := Lib.hid (sameL_3n j hlt hsm)
        have HR := Lib.hid (sfB_c (k := k) (l := k) (ss := [s0, s1]) (ts := [t0, t1]) HQ.out)
        have HZ := Lib.hid hsm; clear hsm
        go_wp2
        go_quiet (((go_at_call 44; exact Calls.quiet_of_same (c_l01Same_v _ _ _ _ HZ.out))))
        go_wp2
        go_ret
        exact ⟨ret_boolx HR.out, below_drewN HB.out _⟩
      · have HZ := Lib.hid hsm; clear hsm
        go_wp2
        go_quiet (((go_at_call 44; exact Calls.quiet_of_same (c_l01Same_v _ _ _ _ HZ.out))))
        go_wp2
        go_roundw
        case rel => exact ⟨j + 1, by omega, by go_num, HW.more _, fun i hi => by
          by_cases e : i = j
          · subst e; exact HZ.out
          · exact HK.out i (by omega)⟩
        case measure => simp [intOf]; omega
    · have e : j = 3 := by omega
      subst e
      have HR := Lib.hid ((sameL_2 s0 s1 t0 t1).symm.trans (sfB_cs (ss := [s0, s1]) (ts := [t0, t1]) k (sameL_3 HK.out)))
      clear HK
      have k4 : wr.cell? ⟨g, 6, none⟩ = some (.float .f32 s0) := Q1.out.2.2 0 (by decide); have k5 : wr.cell? ⟨g, 7, none⟩ = some (.float .f32 s1) := Q1.out.2.2 1 (by decide)
      have l4 : wr.cell? ⟨h, 6, none⟩ = some (.float .f32 t0) := Q2.out.2.2 0 (by decide); have l5 : wr.cell? ⟨h, 7, none⟩ = some (.float .f32 t1) := Q2.out.2.2 1 (by decide)
      cases h0 : sameB s0 t0
      · rw [h0] at HR
        have H0 := Lib.hid h0; clear h0
        go_wp2
        go_quiet (((go_at_call 44; exact Calls.quiet_of_same (c_l01Same_v _ _ _ _ H0.out))))
        go_wp2
        go_ret
        exact ⟨ret_boolx HR.out, below_drewN HB.out _⟩
      · cases h1 : sameB s1 t1
        all_goals
          rw [h0, h1] at HR
          have H0 := Lib.hid h0; have H1 := Lib.hid h1; clear h0 h1
          go_wp2
          go_quiet (((first | (go_at_call_of 44 (Value.float .f32 s0); exact Calls.quiet_of_same (c_l01Same_v s0 t0 _ _ H0.out)) | (go_at_call_of 44 (Value.float .f32 s1); exact Calls.quiet_of_same (c_l01Same_v s1 t1 _ _ H1.out)))))
          go_wp2
          go_ret
          exact ⟨ret_boolx HR.out, below_drewN HB.out _⟩
set_option maxRecDepth 20000 in
set_option maxHeartbeats 4000000 in
theorem c_sL02Ok_8 (g : Nat) (F : Fil) (w : World) (q : FilAt w g 8 F) :
    Calls Try.prog 93 #[.pointer (some ⟨g, 8, none⟩)] w fun e w' => e = .returned (.bool (okFil F)) ∧ ∃ n, w' = w.drewN n := by
  have p0 := q.1
  unfold okFil
  cases hk : inB F.k 1 5
  · have HR := Lib.hid (okF_k (cs := [F.c0, F.c1, F.c2]) (ss := [F.s0, F.s1]) hk)
    have HK := Lib.hid hk; clear hk q
    generalize F.k = k at *
    go_enter Try.func93, Try.ntmps93
    go_wp2_with (go_at_call 67; refine (c_l00In _ _ _ _ _ HK.out).mono ?_; rintro e w' ⟨rfl, rfl⟩)
    go_ret
    exact ⟨ret_boolx HR.out, 0, rfl⟩
  have HK1 := Lib.hid hk
  obtain ⟨u1, u2⟩ := usC_bd F.k
  obtain ⟨v1, v2⟩ := usS_bd F.k
  have HU := Lib.hid (fun W => c_l02Uses F.k W hk)
  have HRC := Lib.hid (fun h => okF_c (k := F.k) (cs := [F.c0, F.c1, F.c2]) (ss := [F.s0, F.s1]) h)
  have HRS := Lib.hid (fun h => okF_s (cs := [F.c0, F.c1, F.c2]) (ss := [F.s0, F.s1]) hk h)
  have Q := Lib.hid q
  clear hk q
  generalize usC F.k = m at HU HRC HRS u1 u2 ⊢
  generalize usS F.k = m2 at HU HRS v1 v2 ⊢
  generalize okF F.k [F.c0, F.c1, F.c2] [F.s0, F.s1] = v at HRC HRS ⊢
  go_enter Try.func93, Try.ntmps93
  go_wp2_with (first
    | (go_at_call 67; refine (c_l00In _ _ _ _ _ HK1.out).mono ?_; rintro e w' ⟨rfl, hww⟩; obtain rfl := hww.symm)
    | (go_at_call 102; refine (HU.out _).mono ?_; rintro e w' ⟨rfl, hww⟩; obtain rfl := hww.symm))
  go_loopw [5] (fun i wr => ∃ j : Nat, j ≤ 3 ∧ i = .int .i64 j ∧ DrawnFrom w wr ∧ OkTo [F.c0, F.c1, F.c2] m j) (fun i _ => 3 - (intOf i).toNat)
  case atStart => exact ⟨0, by omega, rfl, ⟨0, rfl⟩, fun j hj => by omega⟩
  case round =>
    obtain ⟨j, hj, rfl, HW, HK⟩ := hrel
    by_cases hlt : j < 3
    · have k1 := (Q.out.drawn HW).2.1 j hlt
      have hi : (0 : Int) ≤ j := by omega
      have hi2 : (j : Int) < 3 := by omega
      have HQ := Lib.hid (okA_no [F.c0, F.c1, F.c2] 3 m j hlt)
      cases hf : finB (nth [F.c0, F.c1, F.c2] j)
      · rw [hf] at HQ
        have HF := Lib.hid hf; clear hf
        have HR := Lib.hid (HRC.out (HQ.out rfl))
        go_wp2_with (go_at_call 94; refine (c_l01Finite _ _ _ HF.out).mono ?_; rintro e w' ⟨rfl, nq, rfl⟩)
        go_ret
        exact ⟨ret_boolx HR.out, HW.more _⟩
      · rw [hf] at HQ
        have HF := Lib.hid hf; clear hf
        by_cases hm : (j : Int) < m
        · have hge : ¬ (m ≤ (j : Int)) := by omega
          go_wp2_with (go_at_call 94; refine (c_l01Finite _ _ _ HF.out).mono ?_; rintro e w' ⟨rfl, nq, rfl⟩)
          go_roundw
          case rel => first | exact ⟨j + 1, by omega, by go_num, HW.more _, HK.step HF.out (.inl hm)⟩ | ((repeat apply Exists.intro); exact ⟨⟨j + 1, by omega, by go_num, HW.more _, HK.step HF.out (.inl hm)⟩, rfl⟩)
          case measure => simp [intOf]; omega
        · have hge : m ≤ (j : Int) := by omega
          cases hz : sameB (nth [F.c0, F.c1, F.c2] j) 0
          · rw [hz, decide_eq_false hm] at HQ
            have HZ := Lib.hid hz; clear hz
            have HR := Lib.hid (HRC.out (HQ.out rfl))
            go_wp2_with (first | (go_at_call 94; refine (c_l01Finite _ _ _ HF.out).mono ?_; rintro e w' ⟨rfl, nq, rfl⟩) | (go_at_call 44; refine (c_l01Same_v _ _ _ _ HZ.out).mono ?_; rintro e w' ⟨rfl, rfl⟩))
            go_ret
            exact ⟨ret_boolx HR.out, HW.more _⟩
          · have HZ := Lib.hid hz; clear hz
            go_wp2_with (first | (go_at_call 94; refine (c_l01Finite _ _ _ HF.out).mono ?_; rintro e w' ⟨rfl, nq, rfl⟩) | (go_at_call 44; refine (c_l01Same_v _ _ _ _ HZ.out).mono ?_; rintro e w' ⟨rfl, rfl⟩))
            go_roundw
            case rel => first | exact ⟨j + 1, by omega, by go_num, HW.more _, HK.step HF.out (.inr HZ.out)⟩ | ((repeat apply Exists.intro); exact ⟨⟨j + 1, by omega, by go_num, HW.more _, HK.step HF.out (.inr HZ.out)⟩, rfl⟩)
            case measure => simp [intOf]; omega
    · have e : j = 3 := by omega
      subst e
      have HC := Lib.hid (okA_yes [F.c0, F.c1, F.c2] 3 m HK)
      replace HRS := Lib.hid (HRS.out HC.out)
      have HW1 := HW
      clear HK HRC HW
      go_wp2
      go_loopw [6] (fun i wr => ∃ j : Nat, j ≤ 2 ∧ i = .int .i64 j ∧ DrawnFrom w wr ∧ OkTo [F.s0, F.s1] m2 j) (fun i _ => 2 - (intOf i).toNat)
      case atStart => exact ⟨0, by omega, rfl, HW1, fun j hj => by omega⟩
      case round =>
        clear HW1
        obtain ⟨j, hj, rfl, HW, HK⟩ := hrel
        by_cases hlt : j < 2
        · have k1 := (Q.out.drawn HW).2.2 j hlt
          have hi : (0 : Int) ≤ j := by omega
          have hi2 : (j : Int) < 2 := by omega
          have HQ := Lib.hid (okA_no [F.s0, F.s1] 2 m2 j hlt)
          cases hf : finB (nth [F.s0, F.s1] j)
          · rw [hf] at HQ
            have HF := Lib.hid hf; clear hf
            have HR := Lib.hid ((HQ.out rfl).symm.trans HRS.out)
            go_wp2_with (go_at_call 94; refine (c_l01Finite _ _ _ HF.out).mono ?_; rintro e w' ⟨rfl, nq, rfl⟩)
            go_ret
            exact ⟨ret_boolx HR.out, HW.more _⟩
          · rw [hf] at HQ
            have HF := Lib.hid hf; clear hf
            by_cases hm : (j : Int) < m2
            · have hge : ¬ (m2 ≤ (j : Int)) := by omega
              go_wp2_with (go_at_call 94; refine (c_l01Finite _ _ _ HF.out).mono ?_; rintro e w' ⟨rfl, nq, rfl⟩)
              go_roundw
              case rel => first | exact ⟨j + 1, by omega, by go_num, HW.more _, HK.step HF.out (.inl hm)⟩ | ((repeat apply Exists.intro); exact ⟨⟨j + 1, by omega, by go_num, HW.more _, HK.step HF.out (.inl hm)⟩, rfl⟩)
              case measure => simp [intOf]; omega
            · have hge : m2 ≤ (j : Int) := by omega
              cases hz : sameB (nth [F.s0, F.s1] j) 0
              · rw [hz, decide_eq_false hm] at HQ
                have HZ := Lib.hid hz; clear hz
                have HR := Lib.hid ((HQ.out rfl).symm.trans HRS.out)
                go_wp2_with (first | (go_at_call 94; refine (c_l01Finite _ _ _ HF.out).mono ?_; rintro e w' ⟨rfl, nq, rfl⟩) | (go_at_call 44; refine (c_l01Same_v _ _ _ _ HZ.out).mono ?_; rintro e w' ⟨rfl, rfl⟩))
                go_ret
                exact ⟨ret_boolx HR.out, HW.more _⟩
              · have HZ := Lib.hid hz; clear hz
                go_wp2_with (first | (go_at_call 94; refine (c_l01Finite _ _ _ HF.out).mono ?_; rintro e w' ⟨rfl, nq, rfl⟩) | (go_at_call 44; refine (c_l01Same_v _ _ _ _ HZ.out).mono ?_; rintro e w' ⟨rfl, rfl⟩))
                go_roundw
                case rel => first | exact ⟨j + 1, by omega, by go_num, HW.more _, HK.step HF.out (.inr HZ.out)⟩ | ((repeat apply Exists.intro); exact ⟨⟨j + 1, by omega, by go_num, HW.more _, HK.step HF.out (.inr HZ.out)⟩, rfl⟩)
                case measure => simp [intOf]; omega
        · have e : j = 2 := by omega
          subst e
          have HQ := Lib.hid ((okA_yes [F.s0, F.s1] 2 m2 HK).symm.trans HRS.out)
          clear HK HRS
          go_wp2
          go_ret
          exact ⟨ret_boolx HQ.out, HW⟩
set_option maxRecDepth 20000 in
set_option maxHeartbeats 2000000 in
theorem c_sL02Same_8 (g h : Nat) (F G : Fil) (w : World) (q1 : FilAt w g 8 F) (q2 : FilAt w h 8 G) :
    Calls Try.prog 43 #[.pointer (some ⟨g, 8, none⟩), .pointer (some ⟨h, 8, none⟩)] w fun e w' => e = .returned (.bool (sfF F G)) ∧ Below w.heap.size w w' := by
  have p0 := q1.1; have p1 := q2.1
  have Q1 := Lib.hid q1; have Q2 := Lib.hid q2; clear q1 q2
  obtain ⟨k, c0, c1, c2, s0, s1⟩ := F
  obtain ⟨l, d0, d1, d2, t0, t1⟩ := G
  unfold sfF
  dsimp only at *
  by_cases hk : k = l
  case neg =>
    have HR := Lib.hid (sfB_ne (cs := [c0, c1, c2]) (ss := [s0, s1]) (ds := [d0, d1, d2]) (ts := [t0, t1]) hk)
    have hne : (k != l) = true := by simpa using hk
    clear hk Q1 Q2
    go_enter Try.func43, Try.ntmps43
    go_wp2
    go_quiet (fail)
    go_wp2
    go_ret
    exact ⟨ret_boolx HR.out, below_drewN (Below.refl _ _) _⟩
  case pos =>
  subst hk
  have heq : (k != k) = false := by simp
  go_enter Try.func43, Try.ntmps43
  go_wp2
  go_quiet (fail)
  go_wp2
  go_loopw [5] (fun i wr => ∃ j : Nat, j ≤ 3 ∧ i = .int .i64 j ∧ DrawnFrom w wr ∧ Hid (∀ i, i < j → sameB (nth [c0, c1, c2] i) (nth [d0, d1, d2] i) = true)) (fun i _ => 3 - (intOf i).toNat)
  case atStart => exact ⟨0, by omega, rfl, ⟨_, rfl⟩, fun j hj => by omega⟩
  case round =>
    obtain ⟨j, hj, rfl, HW, HK⟩ := hrel
    have HB := Lib.hid (below_of_drewN w.heap.size HW)
    replace Q1 := Lib.hid (Q1.out.drawn HW); replace Q2 := Lib.hid (Q2.out.drawn HW)
    by_cases hlt : j < 3
    · have k1 := Q1.out.2.1 j hlt
      have k2 := Q2.out.2.1 j hlt
      dsimp only at k1 k2
      have hi : (0 : Int) ≤ j := by omega
      have hi2 : (j : Int) < 3 := by omega
      cases hsm : sameB (nth [c0, c1, c2] j) (nth [d0, d1, d2] j)
      · have HQ := Lib.hid (sameL_3n j hlt hsm)
        have HR := Lib.hid (sfB_c (k := k) (l := k) (ss := [s0, s1]) (ts := [t0, t1]) HQ.out)
        have HZ := Lib.hid hsm; clear hsm
        go_wp2
        go_quiet (((go_at_call 44; exact Calls.quiet_of_same (c_l01Same_v _ _ _ _ HZ.out))))
        go_wp2
        go_ret
        exact ⟨ret_boolx HR.out, below_drewN HB.out _⟩
      · have HZ := Lib.hid hsm; clear hsm
        go_wp2
        go_quiet (((go_at_call 44; exact Calls.quiet_of_same (c_l01Same_v _ _ _ _ HZ.out))))
        go_wp2
        go_roundw
        case rel => exact ⟨j + 1, by omega, by go_num, HW.more _, fun i hi => by
          by_cases e : i = j
          · subst e; exact HZ.out
          · exact HK.out i (by omega)⟩
        case measure => simp [intOf]; omega
    · have e : j = 3 := by omega
      subst e
      have HR := Lib.hid ((sameL_2 s0 s1 t0 t1).symm.trans (sfB_cs (ss := [s0, s1]) (ts := [t0, t1]) k (sameL_3 HK.out)))
      clear HK
      have k4 : wr.cell? ⟨g, 12, none⟩ = some (.float .f32 s0) := Q1.out.2.2 0 (by decide); have k5 : wr.cell? ⟨g, 13, none⟩ = some (.float .f32 s1) := Q1.out.2.2 1 (by decide)
      have l4 : wr.cell? ⟨h, 12, none⟩ = some (.float .f32 t0) := Q2.out.2.2 0 (by decide); have l5 : wr.cell? ⟨h, 13, none⟩ = some (.float .f32 t1) := Q2.out.2.2 1 (by decide)
      cases h0 : sameB s0 t0
      · rw [h0] at HR
        have H0 := Lib.hid h0; clear h0
        go_wp2
        go_quiet (((go_at_call 44; exact Calls.quiet_of_same (c_l01Same_v _ _ _ _ H0.out))))
        go_wp2
        go_ret
        exact ⟨ret_boolx HR.out, below_drewN HB.out _⟩
      · cases h1 : sameB s1 t1
        all_goals
          rw [h0, h1] at HR
          have H0 := Lib.hid h0; have H1 := Lib.hid h1; clear h0 h1
          go_wp2
          go_quiet (((first | (go_at_call_of 44 (Value.float .f32 s0); exact Calls.quiet_of_same (c_l01Same_v s0 t0 _ _ H0.out)) | (go_at_call_of 44 (Value.float .f32 s1); exact Calls.quiet_of_same (c_l01Same_v s1 t1 _ _ H1.out)))))
          go_wp2
          go_ret
          exact ⟨ret_boolx HR.out, below_drewN HB.out _⟩
end Go.Proofs.Ytpchebclhjgcmaa
