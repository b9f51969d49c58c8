/- Pipes told the same (the program). Written by genpipe.py. No condition. -/
import Derived.Test.YtpchebclhjgcmaaLs
import Derived.Test.YtpchebclhjgcmaaHe
namespace Go.Proofs.Ytpchebclhjgcmaa
open Go.RowKit Go.Fl
/-- Two pipes are the same. -/
def spB (p q : PipV) : Bool := srsB p.rs q.rs && (srsB p.qs q.qs && (sameL p.xs q.xs && (sfF p.F q.F && (decide (p.o = q.o) && (sameB p.l q.l && (sameB p.r q.r && (sameB p.s q.s)))))))
theorem c_sSameRingsB (A B : Option Addr) (c d n m : Nat) (rs qs : List RingV) (w : World) (hs : Rs w A rs) (ht : Rs w B qs) (hn : rs.length = n) (hm : qs.length = m) (hl : (n : Int) ≤ 1048576) (hf : ∀ k, k < n → ((rgs rs k).xs.length : Int) ≤ 4294967296) :
    Calls Try.prog 100 #[.slice A n c, .slice B m d] w fun e w' => e = .returned (.bool (srsB rs qs)) ∧ Below w.heap.size w w' :=
  (c_sSameRings A B c d n m rs qs w hs ht hn hm hl hf).mono fun _ _ ⟨he, n, hw⟩ => ⟨he, by rw [hw]; exact below_drewN (Below.refl _ _) _⟩
set_option maxRecDepth 20000 in
set_option maxHeartbeats 8000000 in
theorem c_iSamePipe (p q : PipV) (w : World) (hp : PipAt w p) (hq : PipAt w q) (hz : PipSz p) :
    Calls Try.prog 40 #[.agg p.cells.toArray, .agg q.cells.toArray] w fun e w' => e = .returned (.bool (spB p q)) ∧ Below w.heap.size w w' := by
  obtain ⟨wa, hwa⟩ : ∃ wa, wa = (w.alloc (.cells p.cells.toArray 54)).alloc (.cells q.cells.toArray 54) := ⟨_, rfl⟩
  have q1 : Row wa (w.heap.size) p.cells.toArray 54 := by subst hwa; exact (Row.new _ _ _ _ rfl).alloc _
  have q2 : Row wa (w.heap.size + 1) q.cells.toArray 54 := by subst hwa; exact Row.new _ _ _ _ (by simp)
  have hb : Below w.heap.size w wa := by subst hwa; exact Go.Joins.below_alloc2 w (.cells p.cells.toArray 54) (.cells q.cells.toArray 54)
  have HW := Lib.hid hwa; clear hwa
  have HP := Lib.hid (hp.below hb); have HQ := Lib.hid (hq.below hb); have HZ := Lib.hid hz
  clear hp hq hz
  have CP0 := Lib.hid (p_c0 p)
  have CP1 := Lib.hid (p_c1 p)
  have CP2 := Lib.hid (p_c2 p)
  have CP3 := Lib.hid (p_c3 p)
  have CP9 := Lib.hid (p_c9 p)
  have CP10 := Lib.hid (p_c10 p)
  have CP11 := Lib.hid (p_c11 p)
  have CP12 := Lib.hid (p_c12 p)
  have CQ0 := Lib.hid (p_c0 q)
  have CQ1 := Lib.hid (p_c1 q)
  have CQ2 := Lib.hid (p_c2 q)
  have CQ3 := Lib.hid (p_c3 q)
  have CQ9 := Lib.hid (p_c9 q)
  have CQ10 := Lib.hid (p_c10 q)
  have CQ11 := Lib.hid (p_c11 q)
  have CQ12 := Lib.hid (p_c12 q)
  have HR := Lib.hid (show (srsB p.rs q.rs && (srsB p.qs q.qs && (sameL p.xs q.xs && (sfF p.F q.F && (decide (p.o = q.o) && (sameB p.l q.l && (sameB p.r q.r && (sameB p.s q.s)))))))) = spB p q from rfl)
  generalize p.cells = TT at *
  generalize q.cells = VV at *
  cases v0 : srsB p.rs q.rs
  · rw [v0, Bool.false_and] at HR
    have V0 := Lib.hid v0; clear v0
    go_enter Try.func40, Try.ntmps40
    go_wp2_with (first | (rw [← HW.out]; refine wpList_load_one rfl 52 _ rfl ⟨w.heap.size, 0, none⟩ rfl (.slice p.A1 p.rs.length p.c1) (cell_row q1 CP0.out) Try.underlying52 rfl ?_) | (refine wpList_load_one rfl 52 _ rfl ⟨w.heap.size + 1, 0, none⟩ rfl (.slice q.A1 q.rs.length q.c1) (cell_row q2 CQ0.out) Try.underlying52 rfl ?_))
    refine (c_EqRings _ _ _ _ _ _ _ _ _ HP.out.1 HQ.out.1 rfl rfl (by have := HZ.out.1.1; omega) (fun k hk => by have := HZ.out.1.2 k hk; omega)).mono ?_; rintro e w1 ⟨rfl, b⟩; rw [V0.out]; replace q1 := q1.below b q1.lt; replace q2 := q2.below b q2.lt; replace hb := seq_below hb b; replace HP := Lib.hid (HP.out.below b); replace HQ := Lib.hid (HQ.out.below b); clear b
    go_wp2_with fail
    go_ret
    exact ⟨ret_boolx HR.out, hb⟩
  rw [v0, Bool.true_and] at HR
  have V0 := Lib.hid v0; clear v0
  cases v1 : srsB p.qs q.qs
  · rw [v1, Bool.false_and] at HR
    have V1 := Lib.hid v1; clear v1
    go_enter Try.func40, Try.ntmps40
    go_wp2_with (first | (rw [← HW.out]; refine wpList_load_one rfl 52 _ rfl ⟨w.heap.size, 0, none⟩ rfl (.slice p.A1 p.rs.length p.c1) (cell_row q1 CP0.out) Try.underlying52 rfl ?_) | (refine wpList_load_one rfl 52 _ rfl ⟨w.heap.size + 1, 0, none⟩ rfl (.slice q.A1 q.rs.length q.c1) (cell_row q2 CQ0.out) Try.underlying52 rfl ?_))
    refine (c_EqRings _ _ _ _ _ _ _ _ _ HP.out.1 HQ.out.1 rfl rfl (by have := HZ.out.1.1; omega) (fun k hk => by have := HZ.out.1.2 k hk; omega)).mono ?_; rintro e w1 ⟨rfl, b⟩; rw [V0.out]; replace q1 := q1.below b q1.lt; replace q2 := q2.below b q2.lt; replace hb := seq_below hb b; replace HP := Lib.hid (HP.out.below b); replace HQ := Lib.hid (HQ.out.below b); clear b
    go_wp2_with (first | (refine wpList_load_oneG rfl 52 _ rfl ⟨w.heap.size, 1, none⟩ rfl (.slice p.A2 p.qs.length p.c2) (cell_row q1 CP1.out) Try.underlying52 rfl ?_) | (refine wpList_load_oneG rfl 52 _ rfl ⟨w.heap.size + 1, 1, none⟩ rfl (.slice q.A2 q.qs.length q.c2) (cell_row q2 CQ1.out) Try.underlying52 rfl ?_))
    refine (c_EqRings _ _ _ _ _ _ _ _ _ HP.out.2.1 HQ.out.2.1 rfl rfl (by have := HZ.out.2.1.1; omega) (fun k hk => by have := HZ.out.2.1.2 k hk; omega)).mono ?_; rintro e w2 ⟨rfl, b⟩; rw [V1.out]; replace q1 := q1.below b q1.lt; replace q2 := q2.below b q2.lt; replace hb := seq_below hb b; replace HP := Lib.hid (HP.out.below b); replace HQ := Lib.hid (HQ.out.below b); clear b
    go_wp2_with fail
    go_ret
    exact ⟨ret_boolx HR.out, hb⟩
  rw [v1, Bool.true_and] at HR
  have V1 := Lib.hid v1; clear v1
  cases v2 : sameL p.xs q.xs
  · rw [v2, Bool.false_and] at HR
    have V2 := Lib.hid v2; clear v2
    go_enter Try.func40, Try.ntmps40
    go_wp2_with (first | (rw [← HW.out]; refine wpList_load_one rfl 52 _ rfl ⟨w.heap.size, 0, none⟩ rfl (.slice p.A1 p.rs.length p.c1) (cell_row q1 CP0.out) Try.underlying52 rfl ?_) | (refine wpList_load_one rfl 52 _ rfl ⟨w.heap.size + 1, 0, none⟩ rfl (.slice q.A1 q.rs.length q.c1) (cell_row q2 CQ0.out) Try.underlying52 rfl ?_))
    refine (c_EqRings _ _ _ _ _ _ _ _ _ HP.out.1 HQ.out.1 rfl rfl (by have := HZ.out.1.1; omega) (fun k hk => by have := HZ.out.1.2 k hk; omega)).mono ?_; rintro e w1 ⟨rfl, b⟩; rw [V0.out]; replace q1 := q1.below b q1.lt; replace q2 := q2.below b q2.lt; replace hb := seq_below hb b; replace HP := Lib.hid (HP.out.below b); replace HQ := Lib.hid (HQ.out.below b); clear b
    go_wp2_with (first | (refine wpList_load_oneG rfl 52 _ rfl ⟨w.heap.size, 1, none⟩ rfl (.slice p.A2 p.qs.length p.c2) (cell_row q1 CP1.out) Try.underlying52 rfl ?_) | (refine wpList_load_oneG rfl 52 _ rfl ⟨w.heap.size + 1, 1, none⟩ rfl (.slice q.A2 q.qs.length q.c2) (cell_row q2 CQ1.out) Try.underlying52 rfl ?_))
    refine (c_EqRings _ _ _ _ _ _ _ _ _ HP.out.2.1 HQ.out.2.1 rfl rfl (by have := HZ.out.2.1.1; omega) (fun k hk => by have := HZ.out.2.1.2 k hk; omega)).mono ?_; rintro e w2 ⟨rfl, b⟩; rw [V1.out]; replace q1 := q1.below b q1.lt; replace q2 := q2.below b q2.lt; replace hb := seq_below hb b; replace HP := Lib.hid (HP.out.below b); replace HQ := Lib.hid (HQ.out.below b); clear b
    go_wp2_with (first | (refine wpList_load_oneG rfl 22 _ rfl ⟨w.heap.size, 2, none⟩ rfl (.slice p.A3 p.xs.length p.c3) (cell_row q1 CP2.out) Try.underlying22 rfl ?_) | (refine wpList_load_oneG rfl 22 _ rfl ⟨w.heap.size + 1, 2, none⟩ rfl (.slice q.A3 q.xs.length q.c3) (cell_row q2 CQ2.out) Try.underlying22 rfl ?_))
    refine (c_iSameList _ _ _ _ _ _ _ HP.out.2.2 HQ.out.2.2 (by have := HZ.out.2.2; omega)).mono ?_; rintro e w3 ⟨rfl, b⟩; rw [V2.out]; replace q1 := q1.below b q1.lt; replace q2 := q2.below b q2.lt; replace hb := seq_below hb b; replace HP := Lib.hid (HP.out.below b); replace HQ := Lib.hid (HQ.out.below b); clear b
    go_wp2_with fail
    go_ret
    exact ⟨ret_boolx HR.out, hb⟩
  rw [v2, Bool.true_and] at HR
  have V2 := Lib.hid v2; clear v2
  cases v3 : sfF p.F q.F
  · rw [v3, Bool.false_and] at HR
    have V3 := Lib.hid v3; clear v3
    go_enter Try.func40, Try.ntmps40
    go_wp2_with (first | (rw [← HW.out]; refine wpList_load_one rfl 52 _ rfl ⟨w.heap.size, 0, none⟩ rfl (.slice p.A1 p.rs.length p.c1) (cell_row q1 CP0.out) Try.underlying52 rfl ?_) | (refine wpList_load_one rfl 52 _ rfl ⟨w.heap.size + 1, 0, none⟩ rfl (.slice q.A1 q.rs.length q.c1) (cell_row q2 CQ0.out) Try.underlying52 rfl ?_))
    refine (c_EqRings _ _ _ _ _ _ _ _ _ HP.out.1 HQ.out.1 rfl rfl (by have := HZ.out.1.1; omega) (fun k hk => by have := HZ.out.1.2 k hk; omega)).mono ?_; rintro e w1 ⟨rfl, b⟩; rw [V0.out]; replace q1 := q1.below b q1.lt; replace q2 := q2.below b q2.lt; replace hb := seq_below hb b; replace HP := Lib.hid (HP.out.below b); replace HQ := Lib.hid (HQ.out.below b); clear b
    go_wp2_with (first | (refine wpList_load_oneG rfl 52 _ rfl ⟨w.heap.size, 1, none⟩ rfl (.slice p.A2 p.qs.length p.c2) (cell_row q1 CP1.out) Try.underlying52 rfl ?_) | (refine wpList_load_oneG rfl 52 _ rfl ⟨w.heap.size + 1, 1, none⟩ rfl (.slice q.A2 q.qs.length q.c2) (cell_row q2 CQ1.out) Try.underlying52 rfl ?_))
    refine (c_EqRings _ _ _ _ _ _ _ _ _ HP.out.2.1 HQ.out.2.1 rfl rfl (by have := HZ.out.2.1.1; omega) (fun k hk => by have := HZ.out.2.1.2 k hk; omega)).mono ?_; rintro e w2 ⟨rfl, b⟩; rw [V1.out]; replace q1 := q1.below b q1.lt; replace q2 := q2.below b q2.lt; replace hb := seq_below hb b; replace HP := Lib.hid (HP.out.below b); replace HQ := Lib.hid (HQ.out.below b); clear b
    go_wp2_with (first | (refine wpList_load_oneG rfl 22 _ rfl ⟨w.heap.size, 2, none⟩ rfl (.slice p.A3 p.xs.length p.c3) (cell_row q1 CP2.out) Try.underlying22 rfl ?_) | (refine wpList_load_oneG rfl 22 _ rfl ⟨w.heap.size + 1, 2, none⟩ rfl (.slice q.A3 q.xs.length q.c3) (cell_row q2 CQ2.out) Try.underlying22 rfl ?_))
    refine (c_iSameList _ _ _ _ _ _ _ HP.out.2.2 HQ.out.2.2 (by have := HZ.out.2.2; omega)).mono ?_; rintro e w3 ⟨rfl, b⟩; rw [V2.out]; replace q1 := q1.below b q1.lt; replace q2 := q2.below b q2.lt; replace hb := seq_below hb b; replace HP := Lib.hid (HP.out.below b); replace HQ := Lib.hid (HQ.out.below b); clear b
    go_wp2_with (first | (refine wpList_load_partG rfl 35 _ rfl (w.heap.size) 3 rfl p.F.cells q1 CP3.out Try.underlying35 rfl info_filt ?_) | (refine wpList_load_partG rfl 35 _ rfl (w.heap.size + 1) 3 rfl q.F.cells q2 CQ3.out Try.underlying35 rfl info_filt ?_))
    refine (c_iSameFil _ _ _ _ V3.out).mono ?_; rintro e w4 ⟨rfl, b⟩; replace q1 := q1.below b q1.lt; replace q2 := q2.below b q2.lt; replace hb := seq_below hb b; replace HP := Lib.hid (HP.out.below b); replace HQ := Lib.hid (HQ.out.below b); clear b
    go_wp2_with fail
    go_ret
    exact ⟨ret_boolx HR.out, hb⟩
  rw [v3, Bool.true_and] at HR
  have V3 := Lib.hid v3; clear v3
  cases v4 : decide (p.o = q.o)
  · rw [v4, Bool.false_and] at HR
    have ho : q.o = !p.o := by have := of_decide_eq_false v4; revert this; cases p.o <;> cases q.o <;> decide
    rw [ho] at CQ9
    clear v4 ho
    go_enter Try.func40, Try.ntmps40
    go_wp2_with (first | (rw [← HW.out]; refine wpList_load_one rfl 52 _ rfl ⟨w.heap.size, 0, none⟩ rfl (.slice p.A1 p.rs.length p.c1) (cell_row q1 CP0.out) Try.underlying52 rfl ?_) | (refine wpList_load_one rfl 52 _ rfl ⟨w.heap.size + 1, 0, none⟩ rfl (.slice q.A1 q.rs.length q.c1) (cell_row q2 CQ0.out) Try.underlying52 rfl ?_))
    refine (c_EqRings _ _ _ _ _ _ _ _ _ HP.out.1 HQ.out.1 rfl rfl (by have := HZ.out.1.1; omega) (fun k hk => by have := HZ.out.1.2 k hk; omega)).mono ?_; rintro e w1 ⟨rfl, b⟩; rw [V0.out]; replace q1 := q1.below b q1.lt; replace q2 := q2.below b q2.lt; replace hb := seq_below hb b; replace HP := Lib.hid (HP.out.below b); replace HQ := Lib.hid (HQ.out.below b); clear b
    go_wp2_with (first | (refine wpList_load_oneG rfl 52 _ rfl ⟨w.heap.size, 1, none⟩ rfl (.slice p.A2 p.qs.length p.c2) (cell_row q1 CP1.out) Try.underlying52 rfl ?_) | (refine wpList_load_oneG rfl 52 _ rfl ⟨w.heap.size + 1, 1, none⟩ rfl (.slice q.A2 q.qs.length q.c2) (cell_row q2 CQ1.out) Try.underlying52 rfl ?_))
    refine (c_EqRings _ _ _ _ _ _ _ _ _ HP.out.2.1 HQ.out.2.1 rfl rfl (by have := HZ.out.2.1.1; omega) (fun k hk => by have := HZ.out.2.1.2 k hk; omega)).mono ?_; rintro e w2 ⟨rfl, b⟩; rw [V1.out]; replace q1 := q1.below b q1.lt; replace q2 := q2.below b q2.lt; replace hb := seq_below hb b; replace HP := Lib.hid (HP.out.below b); replace HQ := Lib.hid (HQ.out.below b); clear b
    go_wp2_with (first | (refine wpList_load_oneG rfl 22 _ rfl ⟨w.heap.size, 2, none⟩ rfl (.slice p.A3 p.xs.length p.c3) (cell_row q1 CP2.out) Try.underlying22 rfl ?_) | (refine wpList_load_oneG rfl 22 _ rfl ⟨w.heap.size + 1, 2, none⟩ rfl (.slice q.A3 q.xs.length q.c3) (cell_row q2 CQ2.out) Try.underlying22 rfl ?_))
    refine (c_iSameList _ _ _ _ _ _ _ HP.out.2.2 HQ.out.2.2 (by have := HZ.out.2.2; omega)).mono ?_; rintro e w3 ⟨rfl, b⟩; rw [V2.out]; replace q1 := q1.below b q1.lt; replace q2 := q2.below b q2.lt; replace hb := seq_below hb b; replace HP := Lib.hid (HP.out.below b); replace HQ := Lib.hid (HQ.out.below b); clear b
    go_wp2_with (first | (refine wpList_load_partG rfl 35 _ rfl (w.heap.size) 3 rfl p.F.cells q1 CP3.out Try.underlying35 rfl info_filt ?_) | (refine wpList_load_partG rfl 35 _ rfl (w.heap.size + 1) 3 rfl q.F.cells q2 CQ3.out Try.underlying35 rfl info_filt ?_))
    refine (c_iSameFil _ _ _ _ V3.out).mono ?_; rintro e w4 ⟨rfl, b⟩; replace q1 := q1.below b q1.lt; replace q2 := q2.below b q2.lt; replace hb := seq_below hb b; replace HP := Lib.hid (HP.out.below b); replace HQ := Lib.hid (HQ.out.below b); clear b
    go_wp2_with (first | (refine wpList_load_oneG rfl 4 _ rfl ⟨w.heap.size, 9, none⟩ rfl (.bool p.o) (cell_row q1 CP9.out) Try.underlying4 rfl ?_) | (refine wpList_load_oneG rfl 4 _ rfl ⟨w.heap.size + 1, 9, none⟩ rfl (.bool (!p.o)) (cell_row q2 CQ9.out) Try.underlying4 rfl ?_))
    go_ret
    exact ⟨ret_boolx HR.out, hb⟩
  rw [v4, Bool.true_and] at HR
  rw [← of_decide_eq_true v4] at CQ9
  clear v4
  cases v5 : sameB p.l q.l
  · rw [v5, Bool.false_and] at HR
    have V5 := Lib.hid v5; clear v5
    go_enter Try.func40, Try.ntmps40
    go_wp2_with (first | (rw [← HW.out]; refine wpList_load_one rfl 52 _ rfl ⟨w.heap.size, 0, none⟩ rfl (.slice p.A1 p.rs.length p.c1) (cell_row q1 CP0.out) Try.underlying52 rfl ?_) | (refine wpList_load_one rfl 52 _ rfl ⟨w.heap.size + 1, 0, none⟩ rfl (.slice q.A1 q.rs.length q.c1) (cell_row q2 CQ0.out) Try.underlying52 rfl ?_))
    refine (c_EqRings _ _ _ _ _ _ _ _ _ HP.out.1 HQ.out.1 rfl rfl (by have := HZ.out.1.1; omega) (fun k hk => by have := HZ.out.1.2 k hk; omega)).mono ?_; rintro e w1 ⟨rfl, b⟩; rw [V0.out]; replace q1 := q1.below b q1.lt; replace q2 := q2.below b q2.lt; replace hb := seq_below hb b; replace HP := Lib.hid (HP.out.below b); replace HQ := Lib.hid (HQ.out.below b); clear b
    go_wp2_with (first | (refine wpList_load_oneG rfl 52 _ rfl ⟨w.heap.size, 1, none⟩ rfl (.slice p.A2 p.qs.length p.c2) (cell_row q1 CP1.out) Try.underlying52 rfl ?_) | (refine wpList_load_oneG rfl 52 _ rfl ⟨w.heap.size + 1, 1, none⟩ rfl (.slice q.A2 q.qs.length q.c2) (cell_row q2 CQ1.out) Try.underlying52 rfl ?_))
    refine (c_EqRings _ _ _ _ _ _ _ _ _ HP.out.2.1 HQ.out.2.1 rfl rfl (by have := HZ.out.2.1.1; omega) (fun k hk => by have := HZ.out.2.1.2 k hk; omega)).mono ?_; rintro e w2 ⟨rfl, b⟩; rw [V1.out]; replace q1 := q1.below b q1.lt; replace q2 := q2.below b q2.lt; replace hb := seq_below hb b; replace HP := Lib.hid (HP.out.below b); replace HQ := Lib.hid (HQ.out.below b); clear b
    go_wp2_with (first | (refine wpList_load_oneG rfl 22 _ rfl ⟨w.heap.size, 2, none⟩ rfl (.slice p.A3 p.xs.length p.c3) (cell_row q1 CP2.out) Try.underlying22 rfl ?_) | (refine wpList_load_oneG rfl 22 _ rfl ⟨w.heap.size + 1, 2, none⟩ rfl (.slice q.A3 q.xs.length q.c3) (cell_row q2 CQ2.out) Try.underlying22 rfl ?_))
    refine (c_iSameList _ _ _ _ _ _ _ HP.out.2.2 HQ.out.2.2 (by have := HZ.out.2.2; omega)).mono ?_; rintro e w3 ⟨rfl, b⟩; rw [V2.out]; replace q1 := q1.below b q1.lt; replace q2 := q2.below b q2.lt; replace hb := seq_below hb b; replace HP := Lib.hid (HP.out.below b); replace HQ := Lib.hid (HQ.out.below b); clear b
    go_wp2_with (first | (refine wpList_load_partG rfl 35 _ rfl (w.heap.size) 3 rfl p.F.cells q1 CP3.out Try.underlying35 rfl info_filt ?_) | (refine wpList_load_partG rfl 35 _ rfl (w.heap.size + 1) 3 rfl q.F.cells q2 CQ3.out Try.underlying35 rfl info_filt ?_))
    refine (c_iSameFil _ _ _ _ V3.out).mono ?_; rintro e w4 ⟨rfl, b⟩; replace q1 := q1.below b q1.lt; replace q2 := q2.below b q2.lt; replace hb := seq_below hb b; replace HP := Lib.hid (HP.out.below b); replace HQ := Lib.hid (HQ.out.below b); clear b
    go_wp2_with (first | (refine wpList_load_oneG rfl 4 _ rfl ⟨w.heap.size, 9, none⟩ rfl (.bool p.o) (cell_row q1 CP9.out) Try.underlying4 rfl ?_) | (refine wpList_load_oneG rfl 4 _ rfl ⟨w.heap.size + 1, 9, none⟩ rfl (.bool p.o) (cell_row q2 CQ9.out) Try.underlying4 rfl ?_) | (refine wpList_load_oneG rfl 25 _ rfl ⟨w.heap.size, 10, none⟩ rfl (.float .f32 p.l) (cell_row q1 CP10.out) Try.underlying25 rfl ?_) | (refine wpList_load_oneG rfl 25 _ rfl ⟨w.heap.size + 1, 10, none⟩ rfl (.float .f32 q.l) (cell_row q2 CQ10.out) Try.underlying25 rfl ?_))
    refine (c_SameSample _ _ _).mono ?_; rintro e w' ⟨rfl, hww⟩; obtain rfl := hww.symm; rw [V5.out]
    go_wp2_with fail
    go_ret
    exact ⟨ret_boolx HR.out, hb⟩
  rw [v5, Bool.true_and] at HR
  have V5 := Lib.hid v5; clear v5
  cases v6 : sameB p.r q.r
  · rw [v6, Bool.false_and] at HR
    have V6 := Lib.hid v6; clear v6
    go_enter Try.func40, Try.ntmps40
    go_wp2_with (first | (rw [← HW.out]; refine wpList_load_one rfl 52 _ rfl ⟨w.heap.size, 0, none⟩ rfl (.slice p.A1 p.rs.length p.c1) (cell_row q1 CP0.out) Try.underlying52 rfl ?_) | (refine wpList_load_one rfl 52 _ rfl ⟨w.heap.size + 1, 0, none⟩ rfl (.slice q.A1 q.rs.length q.c1) (cell_row q2 CQ0.out) Try.underlying52 rfl ?_))
    refine (c_EqRings _ _ _ _ _ _ _ _ _ HP.out.1 HQ.out.1 rfl rfl (by have := HZ.out.1.1; omega) (fun k hk => by have := HZ.out.1.2 k hk; omega)).mono ?_; rintro e w1 ⟨rfl, b⟩; rw [V0.out]; replace q1 := q1.below b q1.lt; replace q2 := q2.below b q2.lt; replace hb := seq_below hb b; replace HP := Lib.hid (HP.out.below b); replace HQ := Lib.hid (HQ.out.below b); clear b
    go_wp2_with (first | (refine wpList_load_oneG rfl 52 _ rfl ⟨w.heap.size, 1, none⟩ rfl (.slice p.A2 p.qs.length p.c2) (cell_row q1 CP1.out) Try.underlying52 rfl ?_) | (refine wpList_load_oneG rfl 52 _ rfl ⟨w.heap.size + 1, 1, none⟩ rfl (.slice q.A2 q.qs.length q.c2) (cell_row q2 CQ1.out) Try.underlying52 rfl ?_))
    refine (c_EqRings _ _ _ _ _ _ _ _ _ HP.out.2.1 HQ.out.2.1 rfl rfl (by have := HZ.out.2.1.1; omega) (fun k hk => by have := HZ.out.2.1.2 k hk; omega)).mono ?_; rintro e w2 ⟨rfl, b⟩; rw [V1.out]; replace q1 := q1.below b q1.lt; replace q2 := q2.below b q2.lt; replace hb := seq_below hb b; replace HP := Lib.hid (HP.out.below b); replace HQ := Lib.hid (HQ.out.below b); clear b
    go_wp2_with (first | (refine wpList_load_oneG rfl 22 _ rfl ⟨w.heap.size, 2, none⟩ rfl (.slice p.A3 p.xs.length p.c3) (cell_row q1 CP2.out) Try.underlying22 rfl ?_) | (refine wpList_load_oneG rfl 22 _ rfl ⟨w.heap.size + 1, 2, none⟩ rfl (.slice q.A3 q.xs.length q.c3) (cell_row q2 CQ2.out) Try.underlying22 rfl ?_))
    refine (c_iSameList _ _ _ _ _ _ _ HP.out.2.2 HQ.out.2.2 (by have := HZ.out.2.2; omega)).mono ?_; rintro e w3 ⟨rfl, b⟩; rw [V2.out]; replace q1 := q1.below b q1.lt; replace q2 := q2.below b q2.lt; replace hb := seq_below hb b; replace HP := Lib.hid (HP.out.below b); replace HQ := Lib.hid (HQ.out.below b); clear b
    go_wp2_with (first | (refine wpList_load_partG rfl 35 _ rfl (w.heap.size) 3 rfl p.F.cells q1 CP3.out Try.underlying35 rfl info_filt ?_) | (refine wpList_load_partG rfl 35 _ rfl (w.heap.size + 1) 3 rfl q.F.cells q2 CQ3.out Try.underlying35 rfl info_filt ?_))
    refine (c_iSameFil _ _ _ _ V3.out).mono ?_; rintro e w4 ⟨rfl, b⟩; replace q1 := q1.below b q1.lt; replace q2 := q2.below b q2.lt; replace hb := seq_below hb b; replace HP := Lib.hid (HP.out.below b); replace HQ := Lib.hid (HQ.out.below b); clear b
    go_wp2_with (first | (refine wpList_load_oneG rfl 4 _ rfl ⟨w.heap.size, 9, none⟩ rfl (.bool p.o) (cell_row q1 CP9.out) Try.underlying4 rfl ?_) | (refine wpList_load_oneG rfl 4 _ rfl ⟨w.heap.size + 1, 9, none⟩ rfl (.bool p.o) (cell_row q2 CQ9.out) Try.underlying4 rfl ?_) | (refine wpList_load_oneG rfl 25 _ rfl ⟨w.heap.size, 10, none⟩ rfl (.float .f32 p.l) (cell_row q1 CP10.out) Try.underlying25 rfl ?_) | (refine wpList_load_oneG rfl 25 _ rfl ⟨w.heap.size + 1, 10, none⟩ rfl (.float .f32 q.l) (cell_row q2 CQ10.out) Try.underlying25 rfl ?_))
    refine (c_SameSample _ _ _).mono ?_; rintro e w' ⟨rfl, hww⟩; obtain rfl := hww.symm; rw [V5.out]
    go_wp2_with (first | (refine wpList_load_oneG rfl 25 _ rfl ⟨w.heap.size, 11, none⟩ rfl (.float .f32 p.r) (cell_row q1 CP11.out) Try.underlying25 rfl ?_) | (refine wpList_load_oneG rfl 25 _ rfl ⟨w.heap.size + 1, 11, none⟩ rfl (.float .f32 q.r) (cell_row q2 CQ11.out) Try.underlying25 rfl ?_))
    refine (c_SameSample _ _ _).mono ?_; rintro e w' ⟨rfl, hww⟩; obtain rfl := hww.symm; rw [V6.out]
    go_wp2_with fail
    go_ret
    exact ⟨ret_boolx HR.out, hb⟩
  rw [v6, Bool.true_and] at HR
  have V6 := Lib.hid v6; clear v6
  go_enter Try.func40, Try.ntmps40
  go_wp2_with (first | (rw [← HW.out]; refine wpList_load_one rfl 52 _ rfl ⟨w.heap.size, 0, none⟩ rfl (.slice p.A1 p.rs.length p.c1) (cell_row q1 CP0.out) Try.underlying52 rfl ?_) | (refine wpList_load_one rfl 52 _ rfl ⟨w.heap.size + 1, 0, none⟩ rfl (.slice q.A1 q.rs.length q.c1) (cell_row q2 CQ0.out) Try.underlying52 rfl ?_))
  refine (c_EqRings _ _ _ _ _ _ _ _ _ HP.out.1 HQ.out.1 rfl rfl (by have := HZ.out.1.1; omega) (fun k hk => by have := HZ.out.1.2 k hk; omega)).mono ?_; rintro e w1 ⟨rfl, b⟩; rw [V0.out]; replace q1 := q1.below b q1.lt; replace q2 := q2.below b q2.lt; replace hb := seq_below hb b; replace HP := Lib.hid (HP.out.below b); replace HQ := Lib.hid (HQ.out.below b); clear b
  go_wp2_with (first | (refine wpList_load_oneG rfl 52 _ rfl ⟨w.heap.size, 1, none⟩ rfl (.slice p.A2 p.qs.length p.c2) (cell_row q1 CP1.out) Try.underlying52 rfl ?_) | (refine wpList_load_oneG rfl 52 _ rfl ⟨w.heap.size + 1, 1, none⟩ rfl (.slice q.A2 q.qs.length q.c2) (cell_row q2 CQ1.out) Try.underlying52 rfl ?_))
  refine (c_EqRings _ _ _ _ _ _ _ _ _ HP.out.2.1 HQ.out.2.1 rfl rfl (by have := HZ.out.2.1.1; omega) (fun k hk => by have := HZ.out.2.1.2 k hk; omega)).mono ?_; rintro e w2 ⟨rfl, b⟩; rw [V1.out]; replace q1 := q1.below b q1.lt; replace q2 := q2.below b q2.lt; replace hb := seq_below hb b; replace HP := Lib.hid (HP.out.below b); replace HQ := Lib.hid (HQ.out.below b); clear b
  go_wp2_with (first | (refine wpList_load_oneG rfl 22 _ rfl ⟨w.heap.size, 2, none⟩ rfl (.slice p.A3 p.xs.length p.c3) (cell_row q1 CP2.out) Try.underlying22 rfl ?_) | (refine wpList_load_oneG rfl 22 _ rfl ⟨w.heap.size + 1, 2, none⟩ rfl (.slice q.A3 q.xs.length q.c3) (cell_row q2 CQ2.out) Try.underlying22 rfl ?_))
  refine (c_iSameList _ _ _ _ _ _ _ HP.out.2.2 HQ.out.2.2 (by have := HZ.out.2.2; omega)).mono ?_; rintro e w3 ⟨rfl, b⟩; rw [V2.out]; replace q1 := q1.below b q1.lt; replace q2 := q2.below b q2.lt; replace hb := seq_below hb b; replace HP := Lib.hid (HP.out.below b); replace HQ := Lib.hid (HQ.out.below b); clear b
  go_wp2_with (first | (refine wpList_load_partG rfl 35 _ rfl (w.heap.size) 3 rfl p.F.cells q1 CP3.out Try.underlying35 rfl info_filt ?_) | (refine wpList_load_partG rfl 35 _ rfl (w.heap.size + 1) 3 rfl q.F.cells q2 CQ3.out Try.underlying35 rfl info_filt ?_))
  refine (c_iSameFil _ _ _ _ V3.out).mono ?_; rintro e w4 ⟨rfl, b⟩; replace q1 := q1.below b q1.lt; replace q2 := q2.below b q2.lt; replace hb := seq_below hb b; replace HP := Lib.hid (HP.out.below b); replace HQ := Lib.hid (HQ.out.below b); clear b
  go_wp2_with (first | (refine wpList_load_oneG rfl 4 _ rfl ⟨w.heap.size, 9, none⟩ rfl (.bool p.o) (cell_row q1 CP9.out) Try.underlying4 rfl ?_) | (refine wpList_load_oneG rfl 4 _ rfl ⟨w.heap.size + 1, 9, none⟩ rfl (.bool p.o) (cell_row q2 CQ9.out) Try.underlying4 rfl ?_) | (refine wpList_load_oneG rfl 25 _ rfl ⟨w.heap.size, 10, none⟩ rfl (.float .f32 p.l) (cell_row q1 CP10.out) Try.underlying25 rfl ?_) | (refine wpList_load_oneG rfl 25 _ rfl ⟨w.heap.size + 1, 10, none⟩ rfl (.float .f32 q.l) (cell_row q2 CQ10.out) Try.underlying25 rfl ?_))
  refine (c_SameSample _ _ _).mono ?_; rintro e w' ⟨rfl, hww⟩; obtain rfl := hww.symm; rw [V5.out]
  go_wp2_with (first | (refine wpList_load_oneG rfl 25 _ rfl ⟨w.heap.size, 11, none⟩ rfl (.float .f32 p.r) (cell_row q1 CP11.out) Try.underlying25 rfl ?_) | (refine wpList_load_oneG rfl 25 _ rfl ⟨w.heap.size + 1, 11, none⟩ rfl (.float .f32 q.r) (cell_row q2 CQ11.out) Try.underlying25 rfl ?_))
  refine (c_SameSample _ _ _).mono ?_; rintro e w' ⟨rfl, hww⟩; obtain rfl := hww.symm; rw [V6.out]
  go_wp2_with (first | (refine wpList_load_oneG rfl 25 _ rfl ⟨w.heap.size, 12, none⟩ rfl (.float .f32 p.s) (cell_row q1 CP12.out) Try.underlying25 rfl ?_) | (refine wpList_load_oneG rfl 25 _ rfl ⟨w.heap.size + 1, 12, none⟩ rfl (.float .f32 q.s) (cell_row q2 CQ12.out) Try.underlying25 rfl ?_))
  refine (c_SameSample _ _ _).mono ?_; rintro e w' ⟨rfl, hww⟩; obtain rfl := hww.symm
  go_wp2_with fail
  go_ret
  exact ⟨ret_boolx HR.out, hb⟩
end Go.Proofs.Ytpchebclhjgcmaa
