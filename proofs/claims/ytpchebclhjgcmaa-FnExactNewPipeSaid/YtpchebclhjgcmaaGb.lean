/- Filters told the same. No condition. -/
import Derived.Test.YtpchebclhjgcmaaGa
import Derived.Test.YtpchebclhjgcmaaSu
namespace Go.Proofs.Ytpchebclhjgcmaa
open Go.RowKit Go.Fl
set_option maxHeartbeats 1000000 in
theorem c_iSameListQ (A B : Option Addr) (c d n : Nat) (xs ys : List Nat) (v : Bool) (w : World) (hs : Sl w A xs) (ht : Sl w B ys) (hn : xs.length = n) (he : ys.length = n) (hl : (n : Int) ≤ 4294967296) (hv : sameL xs ys = v) :
    Calls Try.prog 83 #[.slice A n c, .slice B n d] w fun e w' => e = .returned (.bool v) ∧ w' = w := by
  have HR := Lib.hid ((sameL_eq (hn.trans he.symm)).trans hv)
  rw [hn] at HR
  clear hv
  have HL := Lib.hid hl; clear hl
  have HS := Lib.hid hs; have HT := Lib.hid ht; clear hs ht
  have HN := Lib.hid hn; have HE := Lib.hid he; clear hn he
  go_enter Try.func83, Try.ntmps83
  go_wp2
  go_loop [17] (fun i => ∃ k : Nat, k ≤ n ∧ i = .int .i64 k ∧ Hid (∀ j, j < k → sameB (nth xs j) (nth ys j) = true)) (fun i => n - (intOf i).toNat)
  case atStart => exact ⟨0, by omega, rfl, fun j hj => by omega⟩
  case round =>
    obtain ⟨k, hk, rfl, HK⟩ := hrel
    by_cases hlt : k < n
    · obtain ⟨ad, rfl, hbl, c1⟩ := HS.out.at_ (k := k) (by rw [HN.out]; exact hlt)
      obtain ⟨bd, rfl, hbl2, c2⟩ := HT.out.at_ (k := k) (by rw [HE.out]; exact hlt)
      have hi : (0 : Int) ≤ k := by omega
      have hi2 : (k : Int) < n := by omega
      have hi3 : (n : Int) ≤ 4294967296 := HL.out
      cases hsm : sameB (nth xs k) (nth ys k)
      · have HQ := Lib.hid (sameN_no xs ys n k hlt hsm)
        have HZ := Lib.hid hsm; clear hsm
        go_wp2_with (go_at_call 49; refine (c_SameSample _ _ _).mono ?_; rintro e w' ⟨rfl, rfl⟩; rw [HZ.out])
        go_ret
        exact ⟨ret_boolx (HQ.out.symm.trans HR.out), rfl⟩
      · have HZ := Lib.hid hsm; clear hsm
        go_wp2_with (go_at_call 49; refine (c_SameSample _ _ _).mono ?_; rintro e w' ⟨rfl, rfl⟩; rw [HZ.out])
        go_round
        case rel => exact ⟨k + 1, by omega, by go_num, fun j hj => by
          by_cases e : j = k
          · subst e; exact HZ.out
          · exact HK.out j (by omega)⟩
        case measure => simp [intOf]; omega
    · have e : k = n := by omega
      subst e
      have HQ := Lib.hid (sameN_yes xs ys k HK.out)
      clear HK
      go_wp2
      go_ret
      exact ⟨ret_boolx (HQ.out.symm.trans HR.out), rfl⟩
theorem Sl.of_cells {w : World} {ad : Addr} {xs : List Nat} (hb : ad.block < w.heap.size) (h : ∀ k, k < xs.length → w.cell? (ad.add k) = some (.float .f32 (nth xs k))) : Sl w (some ad) xs := .inr ⟨ad, rfl, hb, h⟩
theorem filC_C {w : World} {g : Nat} {k : Int} {c0 c1 c2 s0 s1 : Nat} {t : TypeId} (h : Row w g (filC k c0 c1 c2 s0 s1).toArray t) : Sl w (some ⟨g, 1, none⟩) [c0, c1, c2] := by
  refine Sl.of_cells h.lt fun j hj => ?_
  rcases (by simp at hj; omega : j = 0 ∨ j = 1 ∨ j = 2) with rfl | rfl | rfl
  · exact h.cell 1 _ rfl
  · exact h.cell 2 _ rfl
  · exact h.cell 3 _ rfl
theorem filC_S {w : World} {g : Nat} {k : Int} {c0 c1 c2 s0 s1 : Nat} {t : TypeId} (h : Row w g (filC k c0 c1 c2 s0 s1).toArray t) : Sl w (some ⟨g, 4, none⟩) [s0, s1] := by
  refine Sl.of_cells h.lt fun j hj => ?_
  rcases (by simp at hj; omega : j = 0 ∨ j = 1) with rfl | rfl
  · exact h.cell 4 _ rfl
  · exact h.cell 5 _ rfl
def sfB (k : Int) (cs ss : List Nat) (l : Int) (ds ts : List Nat) : Bool := decide (k = l) && (sameL cs ds && sameL ss ts)
theorem sfB_ne {k l : Int} {cs ss ds ts : List Nat} (h : k ≠ l) : false = sfB k cs ss l ds ts := by unfold sfB; rw [decide_eq_false h]; rfl
theorem sfB_c {k l : Int} {cs ss ds ts : List Nat} (h : sameL cs ds = false) : false = sfB k cs ss l ds ts := by unfold sfB; rw [h]; simp
theorem sfB_cs (k : Int) {cs ss ds ts : List Nat} (h : sameL cs ds = true) : sameL ss ts = sfB k cs ss k ds ts := by unfold sfB; rw [h]; simp
set_option maxRecDepth 20000 in
set_option maxHeartbeats 1000000 in
theorem c_iSameFilter (k l : Int) (c0 c1 c2 s0 s1 d0 d1 d2 t0 t1 : Nat) (w : World) :
    Calls Try.prog 48 #[.agg (filC k c0 c1 c2 s0 s1).toArray, .agg (filC l d0 d1 d2 t0 t1).toArray] w fun e w' => e = .returned (.bool (sfB k [c0, c1, c2] [s0, s1] l [d0, d1, d2] [t0, t1])) ∧ Below w.heap.size w w' := by
  obtain ⟨wa, hwa⟩ : ∃ wa, wa = (w.alloc (.cells (filC k c0 c1 c2 s0 s1).toArray 35)).alloc (.cells (filC l d0 d1 d2 t0 t1).toArray 35) := ⟨_, rfl⟩
  have q1 : Row wa w.heap.size (filC k c0 c1 c2 s0 s1).toArray 35 := by subst hwa; exact (Row.new _ _ _ _ rfl).alloc _
  have q2 : Row wa (w.heap.size + 1) (filC l d0 d1 d2 t0 t1).toArray 35 := by subst hwa; exact Row.new _ _ _ _ (by simp)
  have hb : Below w.heap.size w wa := by subst hwa; exact Go.Joins.below_alloc2 _ _ _
  have HC1 := Lib.hid (filC_C q1); have HC2 := Lib.hid (filC_C q2); have HS1 := Lib.hid (filC_S q1); have HS2 := Lib.hid (filC_S q2)
  have p0 := q1.cell 0 (.int .i64 k) rfl; have p1 := q2.cell 0 (.int .i64 l) rfl
  unfold filC at *
  by_cases hk : k = l
  case neg =>
    have HR := Lib.hid (sfB_ne (cs := [c0, c1, c2]) (ss := [s0, s1]) (ds := [d0, d1, d2]) (ts := [t0, t1]) hk)
    have hne : (k == l) = false := by simpa using hk
    clear hk HC1 HC2 HS1 HS2 q1 q2
    subst hwa
    have HB := Lib.hid hb; clear hb
    go_enter Try.func48, Try.ntmps48
    go_wp2
    go_quiet (fail)
    go_wp2
    go_ret
    exact ⟨ret_boolx HR.out, below_drewN HB.out _⟩
  case pos =>
  subst hk
  have heq : (k == k) = true := by simp
  cases hc : sameL [c0, c1, c2] [d0, d1, d2]
  · have HR := Lib.hid (sfB_c (k := k) (l := k) (ss := [s0, s1]) (ts := [t0, t1]) hc)
    have HV := Lib.hid hc; clear hc q1 q2
    subst hwa
    have HB := Lib.hid hb; clear hb
    go_enter Try.func48, Try.ntmps48
    go_wp2
    go_quiet (((go_at_call 83; exact Calls.quiet_of_same (c_iSameListQ _ _ _ _ _ _ _ _ _ (Sl.drewN HC1.out _) (Sl.drewN HC2.out _) rfl rfl (by decide) HV.out))))
    go_wp2
    go_ret
    exact ⟨ret_boolx HR.out, below_drewN HB.out _⟩
  · cases hs : sameL [s0, s1] [t0, t1]
    all_goals
      have HR := Lib.hid (sfB_cs (ss := [s0, s1]) (ts := [t0, t1]) k hc)
      rw [hs] at HR
      have HV := Lib.hid hc; have HW := Lib.hid hs; clear hc hs q1 q2
      subst hwa
      have HB := Lib.hid hb; clear hb
      go_enter Try.func48, Try.ntmps48
      go_wp2
      go_quiet (((first | (go_at_call_of 83 (Value.slice (some ⟨w.heap.size, 1, none⟩) 3 3); exact Calls.quiet_of_same (c_iSameListQ _ _ _ _ 3 _ _ _ _ (Sl.drewN HC1.out _) (Sl.drewN HC2.out _) rfl rfl (by decide) HV.out)) | (go_at_call_of 83 (Value.slice (some ⟨w.heap.size, 4, none⟩) 2 2); exact Calls.quiet_of_same (c_iSameListQ _ _ _ _ 2 _ _ _ _ (Sl.drewN HS1.out _) (Sl.drewN HS2.out _) rfl rfl (by decide) HW.out)))))
      go_wp2
      go_ret
      exact ⟨ret_boolx HR.out, below_drewN HB.out _⟩
theorem filC_cs (w : World) (g : Nat) (k : Int) (c0 c1 c2 s0 s1 j : Nat) (t : TypeId) (h : Row w g (filC k c0 c1 c2 s0 s1).toArray t) (hj : j < 3) : w.cell? ⟨g, 1 + j, none⟩ = some (.float .f32 (nth [c0, c1, c2] j)) := by
  rcases (by omega : j = 0 ∨ j = 1 ∨ j = 2) with rfl | rfl | rfl
  · exact h.cell 1 _ rfl
  · exact h.cell 2 _ rfl
  · exact h.cell 3 _ rfl
theorem sameL_3 {c0 c1 c2 d0 d1 d2 : Nat} (h : ∀ j, j < 3 → sameB (nth [c0, c1, c2] j) (nth [d0, d1, d2] j) = true) : sameL [c0, c1, c2] [d0, d1, d2] = true := (sameL_eq (xs := [c0, c1, c2]) (ys := [d0, d1, d2]) rfl).symm.trans (sameN_yes _ _ 3 h)
theorem sameL_3n {c0 c1 c2 d0 d1 d2 : Nat} (j : Nat) (hj : j < 3) (h : sameB (nth [c0, c1, c2] j) (nth [d0, d1, d2] j) = false) : sameL [c0, c1, c2] [d0, d1, d2] = false := (sameL_eq (xs := [c0, c1, c2]) (ys := [d0, d1, d2]) rfl).symm.trans (sameN_no _ _ 3 j hj h)
theorem sameL_2 (s0 s1 t0 t1 : Nat) : sameL [s0, s1] [t0, t1] = (sameB s0 t0 && sameB s1 t1) := by
  show sameL [s0, s1] [t0, t1] = _
  unfold sameL sameN
  simp [List.range, List.range.loop, nth]
set_option maxRecDepth 20000 in
set_option maxHeartbeats 2000000 in
theorem c_sL02Same (g h : Nat) (k l : Int) (c0 c1 c2 s0 s1 d0 d1 d2 t0 t1 : Nat) (w : World) (q1 : Row w g (filC k c0 c1 c2 s0 s1).toArray 35) (q2 : Row w h (filC l d0 d1 d2 t0 t1).toArray 35) :
    Calls Try.prog 43 #[.pointer (some ⟨g, 0, none⟩), .pointer (some ⟨h, 0, none⟩)] w fun e w' => e = .returned (.bool (sfB k [c0, c1, c2] [s0, s1] l [d0, d1, d2] [t0, t1])) ∧ Below w.heap.size w w' := by
  have p0 := q1.cell 0 (.int .i64 k) rfl; have p1 := q2.cell 0 (.int .i64 l) rfl
  by_cases hk : k = l
  case neg =>
    have HR := Lib.hid (sfB_ne (cs := [c0, c1, c2]) (ss := [s0, s1]) (ds := [d0, d1, d2]) (ts := [t0, t1]) hk)
    have hne : (k != l) = true := by simpa using hk
    clear hk q1 q2
    go_enter Try.func43, Try.ntmps43
    go_wp2
    go_quiet (fail)
    go_wp2
    go_ret
    exact ⟨ret_boolx HR.out, below_drewN (Below.refl _ _) _⟩
  case pos =>
  subst hk
  have heq : (k != k) = false := by simp
  have Q1 := Lib.hid q1; have Q2 := Lib.hid q2; clear q1 q2
  go_enter Try.func43, Try.ntmps43
  go_wp2
  go_quiet (fail)
  go_wp2
  go_loopw [5] (fun i wr => ∃ j : Nat, j ≤ 3 ∧ i = .int .i64 j ∧ Hid (∃ n, wr = w.drewN n) ∧ Hid (∀ i, i < j → sameB (nth [c0, c1, c2] i) (nth [d0, d1, d2] i) = true)) (fun i _ => 3 - (intOf i).toNat)
  case atStart => exact ⟨0, by omega, rfl, ⟨_, rfl⟩, fun j hj => by omega⟩
  case round =>
    obtain ⟨j, hj, rfl, HW, HK⟩ := hrel
    have HB := Lib.hid (below_of_drewN w.heap.size HW.out)
    replace Q1 := Lib.hid (Q1.out.below HB.out Q1.out.lt); replace Q2 := Lib.hid (Q2.out.below HB.out Q2.out.lt)
    by_cases hlt : j < 3
    · have k1 := filC_cs _ _ _ _ _ _ _ _ _ _ Q1.out hlt
      have k2 := filC_cs _ _ _ _ _ _ _ _ _ _ Q2.out hlt
      have hi : (0 : Int) ≤ j := by omega
      have hi2 : (j : Int) < 3 := by omega
      cases hsm : sameB (nth [c0, c1, c2] j) (nth [d0, d1, d2] j)
      · have HQ := Lib.hid (sameL_3n j hlt hsm)
        have HR := Lib.hid (sfB_c (k := k) (l := k) (ss := [s0, s1]) (ts := [t0, t1]) HQ.out)
        have HZ := Lib.hid hsm; clear hsm
        go_wp2
        go_quiet (((go_at_call 44; exact Calls.quiet_of_same (c_l01Same_v _ _ _ _ HZ.out))))
        go_wp2
        go_ret
        exact ⟨ret_boolx HR.out, below_drewN HB.out _⟩
      · have HZ := Lib.hid hsm; clear hsm
        go_wp2
        go_quiet (((go_at_call 44; exact Calls.quiet_of_same (c_l01Same_v _ _ _ _ HZ.out))))
        go_wp2
        go_roundw
        case rel => exact ⟨j + 1, by omega, by go_num, by obtain ⟨n1, e1⟩ := HW.out; exact ⟨_, by rw [e1]; exact World.drewN_drewN ..⟩, fun i hi => by
          by_cases e : i = j
          · subst e; exact HZ.out
          · exact HK.out i (by omega)⟩
        case measure => simp [intOf]; omega
    · have e : j = 3 := by omega
      subst e
      have HR := Lib.hid ((sameL_2 s0 s1 t0 t1).symm.trans (sfB_cs (ss := [s0, s1]) (ts := [t0, t1]) k (sameL_3 HK.out)))
      clear HK
      have k4 := Q1.out.cell 4 (.float .f32 s0) rfl; have k5 := Q1.out.cell 5 (.float .f32 s1) rfl
      have l4 := Q2.out.cell 4 (.float .f32 t0) rfl; have l5 := Q2.out.cell 5 (.float .f32 t1) rfl
      cases h0 : sameB s0 t0
      · rw [h0] at HR
        have H0 := Lib.hid h0; clear h0
        go_wp2
        go_quiet (((go_at_call 44; exact Calls.quiet_of_same (c_l01Same_v _ _ _ _ H0.out))))
        go_wp2
        go_ret
        exact ⟨ret_boolx HR.out, below_drewN HB.out _⟩
      · cases h1 : sameB s1 t1
        all_goals
          rw [h0, h1] at HR
          have H0 := Lib.hid h0; have H1 := Lib.hid h1; clear h0 h1
          go_wp2
          go_quiet (((first | (go_at_call_of 44 (Value.float .f32 s0); exact Calls.quiet_of_same (c_l01Same_v s0 t0 _ _ H0.out)) | (go_at_call_of 44 (Value.float .f32 s1); exact Calls.quiet_of_same (c_l01Same_v s1 t1 _ _ H1.out)))))
          go_wp2
          go_ret
          exact ⟨ret_boolx HR.out, below_drewN HB.out _⟩
end Go.Proofs.Ytpchebclhjgcmaa
