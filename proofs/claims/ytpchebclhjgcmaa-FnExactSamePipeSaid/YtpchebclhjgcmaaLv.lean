/- Pipes told the same (the reference). Written by genpipe.py. No condition. -/
import Derived.Test.YtpchebclhjgcmaaLu
import Derived.Test.YtpchebclhjgcmaaHe
namespace Go.Proofs.Ytpchebclhjgcmaa
open Go.RowKit Go.Fl
theorem Rs.drewN {w : World} {A : Option Addr} {rs : List RingV} (h : Rs w A rs) (n : Nat) : Rs (w.drewN n) A rs := h
theorem c_sSameRingsV (A B : Option Addr) (c d n m : Nat) (rs qs : List RingV) (v : Bool) (w : World) (hs : Rs w A rs) (ht : Rs w B qs) (hn : rs.length = n) (hm : qs.length = m) (hl : (n : Int) ≤ 1048576) (hf : ∀ k, k < n → ((rgs rs k).xs.length : Int) ≤ 4294967296) (hv : srsB rs qs = v) :
    Calls Try.prog 100 #[.slice A n c, .slice B m d] w fun e w' => e = .returned (.bool v) ∧ ∃ q, w' = w.drewN q := by
  subst hv; exact c_sSameRings A B c d n m rs qs w hs ht hn hm hl hf
theorem c_sL02Same_3V (g h : Nat) (F G : Fil) (v : Bool) (w : World) (q1 : FilAt w g 3 F) (q2 : FilAt w h 3 G) (hv : sfF F G = v) :
    Calls Try.prog 43 #[.pointer (some ⟨g, 3, none⟩), .pointer (some ⟨h, 3, none⟩)] w fun e w' => e = .returned (.bool v) ∧ ∃ q, w' = w.drewN q := by
  subst hv; exact c_sL02Same_3 g h F G w q1 q2
set_option maxRecDepth 20000 in
set_option maxHeartbeats 8000000 in
theorem c_sL04Same (g h : Nat) (p q : PipV) (w : World) (r1 : Row w g p.cells.toArray 54) (r2 : Row w h q.cells.toArray 54) (hp : PipAt w p) (hq : PipAt w q) (hz : PipSz p) :
    Calls Try.prog 80 #[.pointer (some ⟨g, 0, none⟩), .pointer (some ⟨h, 0, none⟩)] w fun e w' => e = .returned (.bool (spB p q)) ∧ Below w.heap.size w w' := by
  have HP := Lib.hid hp; have HQ := Lib.hid hq; have HZ := Lib.hid hz
  have PF := Lib.hid (filAt_3 r1); have QF := Lib.hid (filAt_3 r2)
  have p0 : w.cell? ⟨g, 0, none⟩ = some (.slice p.A1 p.rs.length p.c1) := cell_row r1 (p_c0 p)
  have p1 : w.cell? ⟨g, 1, none⟩ = some (.slice p.A2 p.qs.length p.c2) := cell_row r1 (p_c1 p)
  have p2 : w.cell? ⟨g, 2, none⟩ = some (.slice p.A3 p.xs.length p.c3) := cell_row r1 (p_c2 p)
  have p9 : w.cell? ⟨g, 9, none⟩ = some (.bool p.o) := cell_row r1 (p_c9 p)
  have p10 : w.cell? ⟨g, 10, none⟩ = some (.float .f32 p.l) := cell_row r1 (p_c10 p)
  have p11 : w.cell? ⟨g, 11, none⟩ = some (.float .f32 p.r) := cell_row r1 (p_c11 p)
  have p12 : w.cell? ⟨g, 12, none⟩ = some (.float .f32 p.s) := cell_row r1 (p_c12 p)
  have q0 : w.cell? ⟨h, 0, none⟩ = some (.slice q.A1 q.rs.length q.c1) := cell_row r2 (p_c0 q)
  have q1 : w.cell? ⟨h, 1, none⟩ = some (.slice q.A2 q.qs.length q.c2) := cell_row r2 (p_c1 q)
  have q2 : w.cell? ⟨h, 2, none⟩ = some (.slice q.A3 q.xs.length q.c3) := cell_row r2 (p_c2 q)
  have q9 : w.cell? ⟨h, 9, none⟩ = some (.bool q.o) := cell_row r2 (p_c9 q)
  have q10 : w.cell? ⟨h, 10, none⟩ = some (.float .f32 q.l) := cell_row r2 (p_c10 q)
  have q11 : w.cell? ⟨h, 11, none⟩ = some (.float .f32 q.r) := cell_row r2 (p_c11 q)
  have q12 : w.cell? ⟨h, 12, none⟩ = some (.float .f32 q.s) := cell_row r2 (p_c12 q)
  clear hp hq hz r1 r2
  have HR := Lib.hid (show (srsB p.rs q.rs && (srsB p.qs q.qs && (sameL p.xs q.xs && (sfF p.F q.F && (decide (p.o = q.o) && (sameB p.l q.l && (sameB p.r q.r && (sameB p.s q.s)))))))) = spB p q from rfl)
  go_enter Try.func80, Try.ntmps80
  go_wp2
  refine wp_region_quiet_lit (by kernel_rfl) (by kernel_rfl) ?_
  simp only [List.append]
  cases v0 : srsB p.rs q.rs
  · rw [v0, Bool.false_and] at HR
    have V0 := Lib.hid v0; clear v0
    repeat (go_big_quiet_step ((first | (go_at_call_of 100 (Value.slice p.A1 p.rs.length p.c1); exact Calls.quiet_of (c_sSameRingsV _ _ _ _ _ _ _ _ _ _ (Rs.drewN HP.out.1 _) (Rs.drewN HQ.out.1 _) rfl rfl (by have := HZ.out.1.1; omega) (fun k hk => by have := HZ.out.1.2 k hk; omega) V0.out)))))
    refine wpQuiet_nil ?_
    intro _ hw'
    obtain ⟨nq, hw''⟩ := hw'
    subst hw''
    go_wp2
    go_ret
    exact ⟨ret_boolx HR.out, below_drewN (Below.refl _ _) _⟩
  rw [v0, Bool.true_and] at HR
  have V0 := Lib.hid v0; clear v0
  cases v1 : srsB p.qs q.qs
  · rw [v1, Bool.false_and] at HR
    have V1 := Lib.hid v1; clear v1
    repeat (go_big_quiet_step ((first | (go_at_call_of 100 (Value.slice p.A1 p.rs.length p.c1); exact Calls.quiet_of (c_sSameRingsV _ _ _ _ _ _ _ _ _ _ (Rs.drewN HP.out.1 _) (Rs.drewN HQ.out.1 _) rfl rfl (by have := HZ.out.1.1; omega) (fun k hk => by have := HZ.out.1.2 k hk; omega) V0.out)) | (go_at_call_of 100 (Value.slice p.A2 p.qs.length p.c2); exact Calls.quiet_of (c_sSameRingsV _ _ _ _ _ _ _ _ _ _ (Rs.drewN HP.out.2.1 _) (Rs.drewN HQ.out.2.1 _) rfl rfl (by have := HZ.out.2.1.1; omega) (fun k hk => by have := HZ.out.2.1.2 k hk; omega) V1.out)))))
    refine wpQuiet_nil ?_
    intro _ hw'
    obtain ⟨nq, hw''⟩ := hw'
    subst hw''
    go_wp2
    go_ret
    exact ⟨ret_boolx HR.out, below_drewN (Below.refl _ _) _⟩
  rw [v1, Bool.true_and] at HR
  have V1 := Lib.hid v1; clear v1
  cases v2 : sameL p.xs q.xs
  · rw [v2, Bool.false_and] at HR
    have V2 := Lib.hid v2; clear v2
    repeat (go_big_quiet_step ((first | (go_at_call_of 100 (Value.slice p.A1 p.rs.length p.c1); exact Calls.quiet_of (c_sSameRingsV _ _ _ _ _ _ _ _ _ _ (Rs.drewN HP.out.1 _) (Rs.drewN HQ.out.1 _) rfl rfl (by have := HZ.out.1.1; omega) (fun k hk => by have := HZ.out.1.2 k hk; omega) V0.out)) | (go_at_call_of 100 (Value.slice p.A2 p.qs.length p.c2); exact Calls.quiet_of (c_sSameRingsV _ _ _ _ _ _ _ _ _ _ (Rs.drewN HP.out.2.1 _) (Rs.drewN HQ.out.2.1 _) rfl rfl (by have := HZ.out.2.1.1; omega) (fun k hk => by have := HZ.out.2.1.2 k hk; omega) V1.out)) | (go_at_call 84; exact Calls.quiet_of (c_sSameListQ _ _ _ _ _ _ _ _ _ _ (Sl.drewN HP.out.2.2 _) (Sl.drewN HQ.out.2.2 _) rfl rfl (by have := HZ.out.2.2; omega) V2.out)))))
    refine wpQuiet_nil ?_
    intro _ hw'
    obtain ⟨nq, hw''⟩ := hw'
    subst hw''
    go_wp2
    go_ret
    exact ⟨ret_boolx HR.out, below_drewN (Below.refl _ _) _⟩
  rw [v2, Bool.true_and] at HR
  have V2 := Lib.hid v2; clear v2
  cases v3 : sfF p.F q.F
  · rw [v3, Bool.false_and] at HR
    have V3 := Lib.hid v3; clear v3
    repeat (go_big_quiet_step ((first | (go_at_call_of 100 (Value.slice p.A1 p.rs.length p.c1); exact Calls.quiet_of (c_sSameRingsV _ _ _ _ _ _ _ _ _ _ (Rs.drewN HP.out.1 _) (Rs.drewN HQ.out.1 _) rfl rfl (by have := HZ.out.1.1; omega) (fun k hk => by have := HZ.out.1.2 k hk; omega) V0.out)) | (go_at_call_of 100 (Value.slice p.A2 p.qs.length p.c2); exact Calls.quiet_of (c_sSameRingsV _ _ _ _ _ _ _ _ _ _ (Rs.drewN HP.out.2.1 _) (Rs.drewN HQ.out.2.1 _) rfl rfl (by have := HZ.out.2.1.1; omega) (fun k hk => by have := HZ.out.2.1.2 k hk; omega) V1.out)) | (go_at_call 84; exact Calls.quiet_of (c_sSameListQ _ _ _ _ _ _ _ _ _ _ (Sl.drewN HP.out.2.2 _) (Sl.drewN HQ.out.2.2 _) rfl rfl (by have := HZ.out.2.2; omega) V2.out)) | (go_at_call 43; exact Calls.quiet_of (c_sL02Same_3V _ _ _ _ _ _ (FilAt.drawn PF.out ⟨_, rfl⟩) (FilAt.drawn QF.out ⟨_, rfl⟩) V3.out)))))
    refine wpQuiet_nil ?_
    intro _ hw'
    obtain ⟨nq, hw''⟩ := hw'
    subst hw''
    go_wp2
    go_ret
    exact ⟨ret_boolx HR.out, below_drewN (Below.refl _ _) _⟩
  rw [v3, Bool.true_and] at HR
  have V3 := Lib.hid v3; clear v3
  cases v4 : decide (p.o = q.o)
  · rw [v4, Bool.false_and] at HR
    have ho : q.o = !p.o := by have := of_decide_eq_false v4; revert this; cases p.o <;> cases q.o <;> decide
    rw [ho] at q9
    have hne : (p.o == !p.o) = false := by cases p.o <;> rfl
    clear v4 ho
    repeat (go_big_quiet_step ((first | (go_at_call_of 100 (Value.slice p.A1 p.rs.length p.c1); exact Calls.quiet_of (c_sSameRingsV _ _ _ _ _ _ _ _ _ _ (Rs.drewN HP.out.1 _) (Rs.drewN HQ.out.1 _) rfl rfl (by have := HZ.out.1.1; omega) (fun k hk => by have := HZ.out.1.2 k hk; omega) V0.out)) | (go_at_call_of 100 (Value.slice p.A2 p.qs.length p.c2); exact Calls.quiet_of (c_sSameRingsV _ _ _ _ _ _ _ _ _ _ (Rs.drewN HP.out.2.1 _) (Rs.drewN HQ.out.2.1 _) rfl rfl (by have := HZ.out.2.1.1; omega) (fun k hk => by have := HZ.out.2.1.2 k hk; omega) V1.out)) | (go_at_call 84; exact Calls.quiet_of (c_sSameListQ _ _ _ _ _ _ _ _ _ _ (Sl.drewN HP.out.2.2 _) (Sl.drewN HQ.out.2.2 _) rfl rfl (by have := HZ.out.2.2; omega) V2.out)) | (go_at_call 43; exact Calls.quiet_of (c_sL02Same_3V _ _ _ _ _ _ (FilAt.drawn PF.out ⟨_, rfl⟩) (FilAt.drawn QF.out ⟨_, rfl⟩) V3.out)))))
    refine wpQuiet_nil ?_
    intro _ hw'
    obtain ⟨nq, hw''⟩ := hw'
    subst hw''
    go_wp2
    go_ret
    exact ⟨ret_boolx HR.out, below_drewN (Below.refl _ _) _⟩
  rw [v4, Bool.true_and] at HR
  rw [← of_decide_eq_true v4] at q9
  have heq : (p.o == p.o) = true := by cases p.o <;> rfl
  clear v4
  cases v5 : sameB p.l q.l
  · rw [v5, Bool.false_and] at HR
    have V5 := Lib.hid v5; clear v5
    repeat (go_big_quiet_step ((first | (go_at_call_of 100 (Value.slice p.A1 p.rs.length p.c1); exact Calls.quiet_of (c_sSameRingsV _ _ _ _ _ _ _ _ _ _ (Rs.drewN HP.out.1 _) (Rs.drewN HQ.out.1 _) rfl rfl (by have := HZ.out.1.1; omega) (fun k hk => by have := HZ.out.1.2 k hk; omega) V0.out)) | (go_at_call_of 100 (Value.slice p.A2 p.qs.length p.c2); exact Calls.quiet_of (c_sSameRingsV _ _ _ _ _ _ _ _ _ _ (Rs.drewN HP.out.2.1 _) (Rs.drewN HQ.out.2.1 _) rfl rfl (by have := HZ.out.2.1.1; omega) (fun k hk => by have := HZ.out.2.1.2 k hk; omega) V1.out)) | (go_at_call 84; exact Calls.quiet_of (c_sSameListQ _ _ _ _ _ _ _ _ _ _ (Sl.drewN HP.out.2.2 _) (Sl.drewN HQ.out.2.2 _) rfl rfl (by have := HZ.out.2.2; omega) V2.out)) | (go_at_call 43; exact Calls.quiet_of (c_sL02Same_3V _ _ _ _ _ _ (FilAt.drawn PF.out ⟨_, rfl⟩) (FilAt.drawn QF.out ⟨_, rfl⟩) V3.out)) | (go_at_call_of 44 (Value.float .f32 p.l); exact Calls.quiet_of_same (c_l01Same_v _ _ _ _ V5.out)))))
    refine wpQuiet_nil ?_
    intro _ hw'
    obtain ⟨nq, hw''⟩ := hw'
    subst hw''
    go_wp2
    go_ret
    exact ⟨ret_boolx HR.out, below_drewN (Below.refl _ _) _⟩
  rw [v5, Bool.true_and] at HR
  have V5 := Lib.hid v5; clear v5
  cases v6 : sameB p.r q.r
  · rw [v6, Bool.false_and] at HR
    have V6 := Lib.hid v6; clear v6
    repeat (go_big_quiet_step ((first | (go_at_call_of 100 (Value.slice p.A1 p.rs.length p.c1); exact Calls.quiet_of (c_sSameRingsV _ _ _ _ _ _ _ _ _ _ (Rs.drewN HP.out.1 _) (Rs.drewN HQ.out.1 _) rfl rfl (by have := HZ.out.1.1; omega) (fun k hk => by have := HZ.out.1.2 k hk; omega) V0.out)) | (go_at_call_of 100 (Value.slice p.A2 p.qs.length p.c2); exact Calls.quiet_of (c_sSameRingsV _ _ _ _ _ _ _ _ _ _ (Rs.drewN HP.out.2.1 _) (Rs.drewN HQ.out.2.1 _) rfl rfl (by have := HZ.out.2.1.1; omega) (fun k hk => by have := HZ.out.2.1.2 k hk; omega) V1.out)) | (go_at_call 84; exact Calls.quiet_of (c_sSameListQ _ _ _ _ _ _ _ _ _ _ (Sl.drewN HP.out.2.2 _) (Sl.drewN HQ.out.2.2 _) rfl rfl (by have := HZ.out.2.2; omega) V2.out)) | (go_at_call 43; exact Calls.quiet_of (c_sL02Same_3V _ _ _ _ _ _ (FilAt.drawn PF.out ⟨_, rfl⟩) (FilAt.drawn QF.out ⟨_, rfl⟩) V3.out)) | (go_at_call_of 44 (Value.float .f32 p.l); exact Calls.quiet_of_same (c_l01Same_v _ _ _ _ V5.out)) | (go_at_call_of 44 (Value.float .f32 p.r); exact Calls.quiet_of_same (c_l01Same_v _ _ _ _ V6.out)))))
    refine wpQuiet_nil ?_
    intro _ hw'
    obtain ⟨nq, hw''⟩ := hw'
    subst hw''
    go_wp2
    go_ret
    exact ⟨ret_boolx HR.out, below_drewN (Below.refl _ _) _⟩
  rw [v6, Bool.true_and] at HR
  have V6 := Lib.hid v6; clear v6
  cases v7 : sameB p.s q.s
  all_goals
    rw [v7] at HR
    have V7 := Lib.hid v7; clear v7
    repeat (go_big_quiet_step ((first | (go_at_call_of 100 (Value.slice p.A1 p.rs.length p.c1); exact Calls.quiet_of (c_sSameRingsV _ _ _ _ _ _ _ _ _ _ (Rs.drewN HP.out.1 _) (Rs.drewN HQ.out.1 _) rfl rfl (by have := HZ.out.1.1; omega) (fun k hk => by have := HZ.out.1.2 k hk; omega) V0.out)) | (go_at_call_of 100 (Value.slice p.A2 p.qs.length p.c2); exact Calls.quiet_of (c_sSameRingsV _ _ _ _ _ _ _ _ _ _ (Rs.drewN HP.out.2.1 _) (Rs.drewN HQ.out.2.1 _) rfl rfl (by have := HZ.out.2.1.1; omega) (fun k hk => by have := HZ.out.2.1.2 k hk; omega) V1.out)) | (go_at_call 84; exact Calls.quiet_of (c_sSameListQ _ _ _ _ _ _ _ _ _ _ (Sl.drewN HP.out.2.2 _) (Sl.drewN HQ.out.2.2 _) rfl rfl (by have := HZ.out.2.2; omega) V2.out)) | (go_at_call 43; exact Calls.quiet_of (c_sL02Same_3V _ _ _ _ _ _ (FilAt.drawn PF.out ⟨_, rfl⟩) (FilAt.drawn QF.out ⟨_, rfl⟩) V3.out)) | (go_at_call_of 44 (Value.float .f32 p.l); exact Calls.quiet_of_same (c_l01Same_v _ _ _ _ V5.out)) | (go_at_call_of 44 (Value.float .f32 p.r); exact Calls.quiet_of_same (c_l01Same_v _ _ _ _ V6.out)) | (go_at_call_of 44 (Value.float .f32 p.s); exact Calls.quiet_of_same (c_l01Same_v _ _ _ _ V7.out)))))
    refine wpQuiet_nil ?_
    intro _ hw'
    obtain ⟨nq, hw''⟩ := hw'
    subst hw''
    go_wp2
    go_ret
    exact ⟨ret_boolx HR.out, below_drewN (Below.refl _ _) _⟩
theorem c_sSamePipe (p q : PipV) (w : World) (hp : PipAt w p) (hq : PipAt w q) (hz : PipSz p) :
    Calls Try.prog 38 #[.agg p.cells.toArray, .agg q.cells.toArray] w fun e w' => e = .returned (.bool (spB p q)) ∧ Below w.heap.size w w' := by
  have q1 : Row ((w.alloc (.cells p.cells.toArray 54)).alloc (.cells q.cells.toArray 54)) (w.heap.size) p.cells.toArray 54 := (Row.new _ _ _ _ rfl).alloc _
  have q2 : Row ((w.alloc (.cells p.cells.toArray 54)).alloc (.cells q.cells.toArray 54)) (w.heap.size + 1) q.cells.toArray 54 := Row.new _ _ _ _ (by simp)
  have hb := Go.Joins.below_alloc2 w (.cells p.cells.toArray 54) (.cells q.cells.toArray 54)
  have HC := Lib.hid (c_sL04Same _ _ p q _ q1 q2 (hp.below hb) (hq.below hb) hz)
  clear q1 q2 hp hq hz
  generalize p.cells = TT at *
  generalize q.cells = VV at *
  go_enter Try.func38, Try.ntmps38
  go_wp2_with fail
  refine HC.out.mono ?_; rintro e w1 ⟨rfl, b⟩
  have hb2 := seq_below hb b; clear b hb HC
  go_wp2_with fail
  go_ret
  exact ⟨rfl, hb2⟩
end Go.Proofs.Ytpchebclhjgcmaa
