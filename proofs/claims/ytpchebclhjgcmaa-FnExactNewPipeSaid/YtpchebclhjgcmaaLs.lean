/- Pipes: the law's helpers. Written by genpipe.py. No condition. -/
import Derived.Test.YtpchebclhjgcmaaLq
import Derived.Test.YtpchebclhjgcmaaHd
import Derived.Test.YtpchebclhjgcmaaHh
namespace Go.Proofs.Ytpchebclhjgcmaa
open Go.RowKit Go.Fl
theorem filAt_3 {w : World} {g : Nat} {p : PipV} {t : TypeId} (h : Row w g p.cells.toArray t) : FilAt w g 3 p.F := by
  refine ⟨h.cell 3 _ rfl, fun j hj => ?_, fun j hj => ?_⟩
  · rcases (by omega : j = 0 ∨ j = 1 ∨ j = 2) with rfl | rfl | rfl
    · exact h.cell 4 _ rfl
    · exact h.cell 5 _ rfl
    · exact h.cell 6 _ rfl
  · rcases (by omega : j = 0 ∨ j = 1) with rfl | rfl
    · exact h.cell 7 _ rfl
    · exact h.cell 8 _ rfl
set_option maxRecDepth 20000 in
set_option maxHeartbeats 2000000 in
theorem c_sL02Same_3 (g h : Nat) (F G : Fil) (w : World) (q1 : FilAt w g 3 F) (q2 : FilAt w h 3 G) :
    Calls Try.prog 43 #[.pointer (some ⟨g, 3, none⟩), .pointer (some ⟨h, 3, none⟩)] w fun e w' => e = .returned (.bool (sfF F G)) ∧ DrawnFrom w w' := by
  have p0 := q1.1; have p1 := q2.1
  have Q1 := Lib.hid q1; have Q2 := Lib.hid q2; clear q1 q2
  obtain ⟨k, c0, c1, c2, s0, s1⟩ := F
  obtain ⟨l, d0, d1, d2, t0, t1⟩ := G
  unfold sfF
  dsimp only at *
  by_cases hk : k = l
  case neg =>
    have HR := Lib.hid (sfB_ne (cs := [c0, c1, c2]) (ss := [s0, s1]) (ds := [d0, d1, d2]) (ts := [t0, t1]) hk)
    have hne : (k != l) = true := by simpa using hk
    clear hk Q1 Q2
    go_enter Try.func43, Try.ntmps43
    go_wp2
    go_quiet (fail)
    go_wp2
    go_ret
    exact ⟨ret_boolx HR.out, ⟨_, rfl⟩⟩
  case pos =>
  subst hk
  have heq : (k != k) = false := by simp
  go_enter Try.func43, Try.ntmps43
  go_wp2
  go_quiet (fail)
  go_wp2
  go_loopw [5] (fun i wr => ∃ j : Nat, j ≤ 3 ∧ i = .int .i64 j ∧ DrawnFrom w wr ∧ Hid (∀ i, i < j → sameB (nth [c0, c1, c2] i) (nth [d0, d1, d2] i) = true)) (fun i _ => 3 - (intOf i).toNat)
  case atStart => exact ⟨0, by omega, rfl, ⟨_, rfl⟩, fun j hj => by omega⟩
  case round =>
    obtain ⟨j, hj, rfl, HW, HK⟩ := hrel
    have HB := Lib.hid (below_of_drewN w.heap.size HW)
    replace Q1 := Lib.hid (Q1.out.drawn HW); replace Q2 := Lib.hid (Q2.out.drawn HW)
    by_cases hlt : j < 3
    · have k1 := Q1.out.2.1 j hlt
      have k2 := Q2.out.2.1 j hlt
      dsimp only at k1 k2
      have hi : (0 : Int) ≤ j := by omega
      have hi2 : (j : Int) < 3 := by omega
      cases hsm : sameB (nth [c0, c1, c2] j) (nth [d0, d1, d2] j)
      · have HQ := Lib.hid (sameL_3n j hlt hsm)
        have HR := Lib.hid (sfB_c (k := k) (l := k) (ss := [s0, s1]) (ts := [t0, t1]) HQ.out)
        have HZ := Lib.hid hsm; clear hsm
        go_wp2
        go_quiet (((go_at_call 44; exact Calls.quiet_of_same (c_l01Same_v _ _ _ _ HZ.out))))
        go_wp2
        go_ret
        exact ⟨ret_boolx HR.out, HW.more _⟩
      · have HZ := Lib.hid hsm; clear hsm
        go_wp2
        go_quiet (((go_at_call 44; exact Calls.quiet_of_same (c_l01Same_v _ _ _ _ HZ.out))))
        go_wp2
        go_roundw
        case rel => exact ⟨j + 1, by omega, by go_num, HW.more _, fun i hi => by
          by_cases e : i = j
          · subst e; exact HZ.out
          · exact HK.out i (by omega)⟩
        case measure => simp [intOf]; omega
    · have e : j = 3 := by omega
      subst e
      have HR := Lib.hid ((sameL_2 s0 s1 t0 t1).symm.trans (sfB_cs (ss := [s0, s1]) (ts := [t0, t1]) k (sameL_3 HK.out)))
      clear HK
      have k4 : wr.cell? ⟨g, 7, none⟩ = some (.float .f32 s0) := Q1.out.2.2 0 (by decide); have k5 : wr.cell? ⟨g, 8, none⟩ = some (.float .f32 s1) := Q1.out.2.2 1 (by decide)
      have l4 : wr.cell? ⟨h, 7, none⟩ = some (.float .f32 t0) := Q2.out.2.2 0 (by decide); have l5 : wr.cell? ⟨h, 8, none⟩ = some (.float .f32 t1) := Q2.out.2.2 1 (by decide)
      cases h0 : sameB s0 t0
      · rw [h0] at HR
        have H0 := Lib.hid h0; clear h0
        go_wp2
        go_quiet (((go_at_call 44; exact Calls.quiet_of_same (c_l01Same_v _ _ _ _ H0.out))))
        go_wp2
        go_ret
        exact ⟨ret_boolx HR.out, HW.more _⟩
      · cases h1 : sameB s1 t1
        all_goals
          rw [h0, h1] at HR
          have H0 := Lib.hid h0; have H1 := Lib.hid h1; clear h0 h1
          go_wp2
          go_quiet (((first | (go_at_call_of 44 (Value.float .f32 s0); exact Calls.quiet_of_same (c_l01Same_v s0 t0 _ _ H0.out)) | (go_at_call_of 44 (Value.float .f32 s1); exact Calls.quiet_of_same (c_l01Same_v s1 t1 _ _ H1.out)))))
          go_wp2
          go_ret
          exact ⟨ret_boolx HR.out, HW.more _⟩
end Go.Proofs.Ytpchebclhjgcmaa
namespace Go.Proofs.Ytpchebclhjgcmaa
open Go.RowKit Go.Fl
/-- The same pipe, but for where it lies. -/
def PipEq (p q : PipV) : Prop := (q.rs.length = p.rs.length ∧ RsEq p.rs q.rs p.rs.length) ∧ (q.qs.length = p.qs.length ∧ RsEq p.qs q.qs p.qs.length) ∧ (q.xs.length = p.xs.length ∧ ∀ j, j < p.xs.length → cv .f32 (nth p.xs j) = cv .f32 (nth q.xs j)) ∧ FilEq p.F q.F ∧ p.o = q.o ∧ cv .f32 p.l = cv .f32 q.l ∧ cv .f32 p.r = cv .f32 q.r ∧ cv .f32 p.s = cv .f32 q.s
theorem info_pip : (Try.prog.info? 54).map (·.size) = some 13 := by kernel_rfl
theorem info_pipl : (Try.prog.info? 68).map (·.size) = some 13 := by kernel_rfl
theorem info_ringsS : (Try.prog.info? 52).map (·.size) = some 1 := by kernel_rfl
theorem info_f32sS : (Try.prog.info? 22).map (·.size) = some 1 := by kernel_rfl
theorem info_boolS : (Try.prog.info? 4).map (·.size) = some 1 := by kernel_rfl
theorem info_f32S : (Try.prog.info? 25).map (·.size) = some 1 := by kernel_rfl
set_option maxRecDepth 20000 in
set_option maxHeartbeats 4000000 in
theorem c_toPipe (p : PipV) (w : World) (hp : PipAt w p) (hz : PipSz p) :
    Calls Try.prog 39 #[.agg p.cells.toArray] w fun e w' => ∃ q : PipV, e = .returned (.agg q.cells.toArray) ∧ PipAt w' q ∧ PipEq p q ∧ Below w.heap.size w w' := by
  obtain ⟨wa, hwa⟩ : ∃ wa, wa = ((w.alloc (.cells p.cells.toArray 68)).alloc (.cells (pipC none 0 0 none 0 0 none 0 0 filZ false 0 0 0).toArray 54)).alloc (.cells (pipC none 0 0 none 0 0 none 0 0 filZ false 0 0 0).toArray 54) := ⟨_, rfl⟩
  have q1 : Row wa (w.heap.size) p.cells.toArray 68 := by subst hwa; exact ((Row.new _ _ _ _ rfl).alloc _).alloc _
  have q2 : Row wa (w.heap.size + 1) (pipC none 0 0 none 0 0 none 0 0 filZ false 0 0 0).toArray 54 := by subst hwa; exact (Row.new _ _ _ _ (by simp)).alloc _
  have q3 : Row wa (w.heap.size + 1 + 1) (pipC none 0 0 none 0 0 none 0 0 filZ false 0 0 0).toArray 54 := by subst hwa; exact Row.new _ _ _ _ (by simp)
  have hb : Below w.heap.size w wa := by subst hwa; exact Go.Joins.below_alloc3 _ _ _ _
  have hzz : (pipC none 0 0 none 0 0 none 0 0 filZ false 0 0 0).toArray = #[.slice none 0 0, .slice none 0 0, .slice none 0 0, .int .i64 0, .float .f32 0, .float .f32 0, .float .f32 0, .float .f32 0, .float .f32 0, .bool false, .float .f32 0, .float .f32 0, .float .f32 0] := rfl
  rw [hzz] at hwa
  clear hzz
  have HW := Lib.hid hwa; clear hwa
  have HPK := Lib.hid (fun W (h : Below w.heap.size w W) => hp.below h); have HP := Lib.hid (hp.below hb); have HZ := Lib.hid hz; clear hp hz
  have T0 := Lib.hid (p_c0 p)
  have T1 := Lib.hid (p_c1 p)
  have T2 := Lib.hid (p_c2 p)
  have T3 := Lib.hid (p_c3 p)
  have T9 := Lib.hid (p_c9 p)
  have T10 := Lib.hid (p_c10 p)
  have T11 := Lib.hid (p_c11 p)
  have T12 := Lib.hid (p_c12 p)
  generalize p.cells = TT at *
  go_enter Try.func39, Try.ntmps39
  go_wp2_with (rw [← HW.out]; refine wpList_load_one rfl 66 _ rfl ⟨w.heap.size, 0, none⟩ rfl (.slice p.A1 p.rs.length p.c1) (cell_row q1 T0.out) Try.underlying66 rfl ?_)
  refine (c_toRingS _ _ _ _ _ HP.out.1 rfl HZ.out.1.1 (fun k hk => Nat.le_trans (HZ.out.1.2 k hk) (by decide))).mono ?_; rintro e w1 ⟨g1, rs1, rfl, hF1, hT1, b⟩
  have HB1 : Hid (w.heap.size + 1 + 1 < _) := Lib.hid q3.lt; have HR1 := Lib.hid hF1; have HE1 := Lib.hid (show rs1.length = p.rs.length ∧ RsEq p.rs rs1 p.rs.length from ⟨hT1.1, hT1.eq⟩); clear hF1 hT1; replace q1 := q1.below b q1.lt; replace q2 := q2.below b q2.lt; replace q3 := q3.below b q3.lt; replace hb := seq_below hb b; replace HP := Lib.hid (HP.out.below b); clear b
  go_wp2_with (first | (refine wpList_store_partV rfl 52 _ _ rfl (w.heap.size + 1 + 1) 0 rfl [.slice (some ⟨g1, 0, none⟩) p.rs.length p.rs.length] (.slice (some ⟨g1, 0, none⟩) p.rs.length p.rs.length) rfl rfl q3 info_ringsS rfl rfl (pipC (some ⟨g1, 0, none⟩) p.rs.length p.rs.length none 0 0 none 0 0 filZ false 0 0 0) rfl (fun ws b q3n => ?_); replace q1 := q1.grown b (fun h => by injection h with h; omega); replace q2 := q2.grown b (fun h => by injection h with h; omega); replace hb := hb.trans (below_grownBy b hb.size (fun k hk => by cases hk; omega)); replace HP := Lib.hid (HPK.out _ hb); replace HR1 := Lib.hid (HR1.out.grown b (fun k hk => by cases hk; first | exact HB1.out | exact HB2.out)); clear b q3; have q3 : Row _ (w.heap.size + 1 + 1) _ 54 := q3n; clear q3n) | (refine wpList_load_one rfl 66 _ rfl ⟨w.heap.size, 1, none⟩ rfl (.slice p.A2 p.qs.length p.c2) (cell_row q1 T1.out) Try.underlying66 rfl ?_))
  refine (c_toRingS _ _ _ _ _ HP.out.2.1 rfl HZ.out.2.1.1 (fun k hk => Nat.le_trans (HZ.out.2.1.2 k hk) (by decide))).mono ?_; rintro e w2 ⟨g2, rs2, rfl, hF2, hT2, b⟩
  have HB2 : Hid (w.heap.size + 1 + 1 < _) := Lib.hid q3.lt; have HR2 := Lib.hid hF2; have HE2 := Lib.hid (show rs2.length = p.qs.length ∧ RsEq p.qs rs2 p.qs.length from ⟨hT2.1, hT2.eq⟩); clear hF2 hT2; replace q1 := q1.below b q1.lt; replace q2 := q2.below b q2.lt; replace q3 := q3.below b q3.lt; replace hb := seq_below hb b; replace HP := Lib.hid (HP.out.below b); replace HR1 := Lib.hid (HR1.out.below b); clear b
  go_wp2_with (first | (refine wpList_store_partV rfl 52 _ _ rfl (w.heap.size + 1 + 1) 1 rfl [.slice (some ⟨g2, 0, none⟩) p.qs.length p.qs.length] (.slice (some ⟨g2, 0, none⟩) p.qs.length p.qs.length) rfl rfl q3 info_ringsS rfl rfl (pipC (some ⟨g1, 0, none⟩) p.rs.length p.rs.length (some ⟨g2, 0, none⟩) p.qs.length p.qs.length none 0 0 filZ false 0 0 0) rfl (fun ws b q3n => ?_); replace q1 := q1.grown b (fun h => by injection h with h; omega); replace q2 := q2.grown b (fun h => by injection h with h; omega); replace hb := hb.trans (below_grownBy b hb.size (fun k hk => by cases hk; omega)); replace HP := Lib.hid (HPK.out _ hb); replace HR1 := Lib.hid (HR1.out.grown b (fun k hk => by cases hk; first | exact HB1.out | exact HB2.out)); replace HR2 := Lib.hid (HR2.out.grown b (fun k hk => by cases hk; first | exact HB1.out | exact HB2.out)); clear b q3; have q3 : Row _ (w.heap.size + 1 + 1) _ 54 := q3n; clear q3n) | (refine wpList_load_one rfl 22 _ rfl ⟨w.heap.size, 2, none⟩ rfl (.slice p.A3 p.xs.length p.c3) (cell_row q1 T2.out) Try.underlying22 rfl ?_))
  refine (c_toFloat32S _ _ _ _ HP.out.2.2 (Nat.le_trans HZ.out.2.2 (by decide))).mono ?_; rintro e w3 ⟨g3, rfl, hF3, hg3, b⟩
  have HB3 : Hid (w.heap.size + 1 + 1 < g3) := Lib.hid (Nat.lt_of_lt_of_le q3.lt hg3); have HR3 := Lib.hid hF3; clear hF3 hg3; replace q1 := q1.below b q1.lt; replace q2 := q2.below b q2.lt; replace q3 := q3.below b q3.lt; replace hb := seq_below hb b; replace HP := Lib.hid (HP.out.below b); replace HR1 := Lib.hid (HR1.out.below b); replace HR2 := Lib.hid (HR2.out.below b); clear b
  go_wp2_with (first | (refine wpList_store_partV rfl 22 _ _ rfl (w.heap.size + 1 + 1) 2 rfl [.slice (some ⟨g3, 0, none⟩) p.xs.length p.xs.length] (.slice (some ⟨g3, 0, none⟩) p.xs.length p.xs.length) rfl rfl q3 info_f32sS rfl rfl (pipC (some ⟨g1, 0, none⟩) p.rs.length p.rs.length (some ⟨g2, 0, none⟩) p.qs.length p.qs.length (some ⟨g3, 0, none⟩) p.xs.length p.xs.length filZ false 0 0 0) rfl (fun ws b q3n => ?_); replace q1 := q1.grown b (fun h => by injection h with h; omega); replace q2 := q2.grown b (fun h => by injection h with h; omega); replace hb := hb.trans (below_grownBy b hb.size (fun k hk => by cases hk; omega)); replace HP := Lib.hid (HPK.out _ hb); replace HR1 := Lib.hid (HR1.out.grown b (fun k hk => by cases hk; first | exact HB1.out | exact HB2.out)); replace HR2 := Lib.hid (HR2.out.grown b (fun k hk => by cases hk; first | exact HB1.out | exact HB2.out)); replace HR3 := Lib.hid (HR3.out.grown b (fun h => by injection h with h; exact absurd h (Nat.ne_of_gt HB3.out))); clear b q3; have q3 : Row _ (w.heap.size + 1 + 1) _ 54 := q3n; clear q3n) | (refine wpList_load_part rfl 29 _ rfl (w.heap.size) 3 rfl p.F.cells q1 T3.out Try.underlying29 rfl info_fill ?_))
  refine (c_toFil _ _).mono ?_; rintro e w4 ⟨rfl, b⟩
  replace q1 := q1.below b q1.lt; replace q2 := q2.below b q2.lt; replace q3 := q3.below b q3.lt; replace hb := seq_below hb b; replace HP := Lib.hid (HP.out.below b); replace HR1 := Lib.hid (HR1.out.below b); replace HR2 := Lib.hid (HR2.out.below b); replace HR3 := Lib.hid (HR3.out.below b HR3.out.lt); clear b
  go_wp2_with (first
    | (refine wpList_store_partV rfl 35 _ _ rfl (w.heap.size + 1 + 1) 3 rfl p.F.cells (.agg p.F.cells.toArray) rfl rfl q3 info_filt rfl rfl (pipC (some ⟨g1, 0, none⟩) p.rs.length p.rs.length (some ⟨g2, 0, none⟩) p.qs.length p.qs.length (some ⟨g3, 0, none⟩) p.xs.length p.xs.length p.F false 0 0 0) rfl (fun ws b q3n => ?_); replace q1 := q1.grown b (fun h => by injection h with h; omega); replace q2 := q2.grown b (fun h => by injection h with h; omega); replace hb := hb.trans (below_grownBy b hb.size (fun k hk => by cases hk; omega)); replace HP := Lib.hid (HPK.out _ hb); replace HR1 := Lib.hid (HR1.out.grown b (fun k hk => by cases hk; first | exact HB1.out | exact HB2.out)); replace HR2 := Lib.hid (HR2.out.grown b (fun k hk => by cases hk; first | exact HB1.out | exact HB2.out)); replace HR3 := Lib.hid (HR3.out.grown b (fun h => by injection h with h; exact absurd h (Nat.ne_of_gt HB3.out))); clear b q3; have q3 : Row _ (w.heap.size + 1 + 1) _ 54 := q3n; clear q3n)
    | (refine wpList_load_one rfl 4 _ rfl ⟨w.heap.size, 9, none⟩ rfl (.bool p.o) (cell_row q1 T9.out) Try.underlying4 rfl ?_)
    | (refine wpList_store_partV rfl 4 _ _ rfl (w.heap.size + 1 + 1) 9 rfl [.bool p.o] (.bool p.o) rfl rfl q3 info_boolS rfl rfl (pipC (some ⟨g1, 0, none⟩) p.rs.length p.rs.length (some ⟨g2, 0, none⟩) p.qs.length p.qs.length (some ⟨g3, 0, none⟩) p.xs.length p.xs.length p.F p.o 0 0 0) rfl (fun ws b q3n => ?_); replace q1 := q1.grown b (fun h => by injection h with h; omega); replace q2 := q2.grown b (fun h => by injection h with h; omega); replace hb := hb.trans (below_grownBy b hb.size (fun k hk => by cases hk; omega)); replace HP := Lib.hid (HPK.out _ hb); replace HR1 := Lib.hid (HR1.out.grown b (fun k hk => by cases hk; first | exact HB1.out | exact HB2.out)); replace HR2 := Lib.hid (HR2.out.grown b (fun k hk => by cases hk; first | exact HB1.out | exact HB2.out)); replace HR3 := Lib.hid (HR3.out.grown b (fun h => by injection h with h; exact absurd h (Nat.ne_of_gt HB3.out))); clear b q3; have q3 : Row _ (w.heap.size + 1 + 1) _ 54 := q3n; clear q3n)
    | (refine wpList_load_one rfl 25 _ rfl ⟨w.heap.size, 10, none⟩ rfl (.float .f32 p.l) (cell_row q1 T10.out) Try.underlying25 rfl ?_)
    | (refine wpList_store_partV rfl 25 _ _ rfl (w.heap.size + 1 + 1) 10 rfl [.float .f32 p.l] (.float .f32 p.l) rfl rfl q3 info_f32S rfl rfl (pipC (some ⟨g1, 0, none⟩) p.rs.length p.rs.length (some ⟨g2, 0, none⟩) p.qs.length p.qs.length (some ⟨g3, 0, none⟩) p.xs.length p.xs.length p.F p.o p.l 0 0) rfl (fun ws b q3n => ?_); replace q1 := q1.grown b (fun h => by injection h with h; omega); replace q2 := q2.grown b (fun h => by injection h with h; omega); replace hb := hb.trans (below_grownBy b hb.size (fun k hk => by cases hk; omega)); replace HP := Lib.hid (HPK.out _ hb); replace HR1 := Lib.hid (HR1.out.grown b (fun k hk => by cases hk; first | exact HB1.out | exact HB2.out)); replace HR2 := Lib.hid (HR2.out.grown b (fun k hk => by cases hk; first | exact HB1.out | exact HB2.out)); replace HR3 := Lib.hid (HR3.out.grown b (fun h => by injection h with h; exact absurd h (Nat.ne_of_gt HB3.out))); clear b q3; have q3 : Row _ (w.heap.size + 1 + 1) _ 54 := q3n; clear q3n)
    | (refine wpList_load_one rfl 25 _ rfl ⟨w.heap.size, 11, none⟩ rfl (.float .f32 p.r) (cell_row q1 T11.out) Try.underlying25 rfl ?_)
    | (refine wpList_store_partV rfl 25 _ _ rfl (w.heap.size + 1 + 1) 11 rfl [.float .f32 p.r] (.float .f32 p.r) rfl rfl q3 info_f32S rfl rfl (pipC (some ⟨g1, 0, none⟩) p.rs.length p.rs.length (some ⟨g2, 0, none⟩) p.qs.length p.qs.length (some ⟨g3, 0, none⟩) p.xs.length p.xs.length p.F p.o p.l p.r 0) rfl (fun ws b q3n => ?_); replace q1 := q1.grown b (fun h => by injection h with h; omega); replace q2 := q2.grown b (fun h => by injection h with h; omega); replace hb := hb.trans (below_grownBy b hb.size (fun k hk => by cases hk; omega)); replace HP := Lib.hid (HPK.out _ hb); replace HR1 := Lib.hid (HR1.out.grown b (fun k hk => by cases hk; first | exact HB1.out | exact HB2.out)); replace HR2 := Lib.hid (HR2.out.grown b (fun k hk => by cases hk; first | exact HB1.out | exact HB2.out)); replace HR3 := Lib.hid (HR3.out.grown b (fun h => by injection h with h; exact absurd h (Nat.ne_of_gt HB3.out))); clear b q3; have q3 : Row _ (w.heap.size + 1 + 1) _ 54 := q3n; clear q3n)
    | (refine wpList_load_one rfl 25 _ rfl ⟨w.heap.size, 12, none⟩ rfl (.float .f32 p.s) (cell_row q1 T12.out) Try.underlying25 rfl ?_)
    | (refine wpList_store_partV rfl 25 _ _ rfl (w.heap.size + 1 + 1) 12 rfl [.float .f32 p.s] (.float .f32 p.s) rfl rfl q3 info_f32S rfl rfl (pipC (some ⟨g1, 0, none⟩) p.rs.length p.rs.length (some ⟨g2, 0, none⟩) p.qs.length p.qs.length (some ⟨g3, 0, none⟩) p.xs.length p.xs.length p.F p.o p.l p.r p.s) rfl (fun ws b q3n => ?_); replace q1 := q1.grown b (fun h => by injection h with h; omega); replace q2 := q2.grown b (fun h => by injection h with h; omega); replace hb := hb.trans (below_grownBy b hb.size (fun k hk => by cases hk; omega)); replace HP := Lib.hid (HPK.out _ hb); replace HR1 := Lib.hid (HR1.out.grown b (fun k hk => by cases hk; first | exact HB1.out | exact HB2.out)); replace HR2 := Lib.hid (HR2.out.grown b (fun k hk => by cases hk; first | exact HB1.out | exact HB2.out)); replace HR3 := Lib.hid (HR3.out.grown b (fun h => by injection h with h; exact absurd h (Nat.ne_of_gt HB3.out))); clear b q3; have q3 : Row _ (w.heap.size + 1 + 1) _ 54 := q3n; clear q3n)
    | (refine wpList_load_cells rfl 54 _ rfl (w.heap.size + 1 + 1) rfl q3 Try.underlying54 rfl info_pip ?_)
    | (refine wpList_store_partV rfl 54 _ _ rfl (w.heap.size + 1) 0 rfl (pipC (some ⟨g1, 0, none⟩) p.rs.length p.rs.length (some ⟨g2, 0, none⟩) p.qs.length p.qs.length (some ⟨g3, 0, none⟩) p.xs.length p.xs.length p.F p.o p.l p.r p.s) (.agg (pipC (some ⟨g1, 0, none⟩) p.rs.length p.rs.length (some ⟨g2, 0, none⟩) p.qs.length p.qs.length (some ⟨g3, 0, none⟩) p.xs.length p.xs.length p.F p.o p.l p.r p.s).toArray) rfl rfl q2 info_pip rfl rfl (pipC (some ⟨g1, 0, none⟩) p.rs.length p.rs.length (some ⟨g2, 0, none⟩) p.qs.length p.qs.length (some ⟨g3, 0, none⟩) p.xs.length p.xs.length p.F p.o p.l p.r p.s) rfl (fun ws b q2n => ?_); replace HR1 := Lib.hid (HR1.out.grown b (fun k hk => by cases hk; have := HB1.out; omega)); replace HR2 := Lib.hid (HR2.out.grown b (fun k hk => by cases hk; have := HB2.out; omega)); replace HR3 := Lib.hid (HR3.out.grown b (fun h => by injection h with h; have := HB3.out; omega)); replace hb := hb.trans (below_grownBy b hb.size (fun k hk => by cases hk; omega)); clear b))
  refine bodyPost_ret (results_cells (cs := (pipC (some ⟨g1, 0, none⟩) p.rs.length p.rs.length (some ⟨g2, 0, none⟩) p.qs.length p.qs.length (some ⟨g3, 0, none⟩) p.xs.length p.xs.length p.F p.o p.l p.r p.s).toArray) rfl _ _ _ rfl q2n Try.underlying54 rfl info_pip) rfl ⟨⟨some ⟨g1, 0, none⟩, p.rs.length, rs1, some ⟨g2, 0, none⟩, p.qs.length, rs2, some ⟨g3, 0, none⟩, p.xs.length, p.xs, p.F, p.o, p.l, p.r, p.s⟩, ?_, ⟨HR1.out.1, HR2.out.1, Sl.of_blk HR3.out⟩, ⟨HE1.out, HE2.out, ⟨rfl, fun _ _ => rfl⟩, FilEq.refl _, rfl, rfl, rfl, rfl⟩, hb⟩
  unfold PipV.cells
  simp only
  rw [HE1.out.1, HE2.out.1]
set_option maxRecDepth 20000 in
set_option maxHeartbeats 4000000 in
theorem c_eqPipe (p q : PipV) (w : World) (hp : PipAt w p) (hq : PipAt w q) (hz : PipSz p) (h : PipEq p q) :
    Calls Try.prog 30 #[.agg p.cells.toArray, .agg q.cells.toArray] w fun e w' => e = .returned (.bool true) ∧ Below w.heap.size w w' := by
  have q1 : Row ((w.alloc (.cells p.cells.toArray 54)).alloc (.cells q.cells.toArray 54)) (w.heap.size) p.cells.toArray 54 := (Row.new _ _ _ _ rfl).alloc _
  have q2 : Row ((w.alloc (.cells p.cells.toArray 54)).alloc (.cells q.cells.toArray 54)) (w.heap.size + 1) q.cells.toArray 54 := Row.new _ _ _ _ (by simp)
  have hb := Go.Joins.below_alloc2 w (.cells p.cells.toArray 54) (.cells q.cells.toArray 54)
  have HP := Lib.hid (hp.below hb); have HQ := Lib.hid (hq.below hb); have HZ := Lib.hid hz; have HE := Lib.hid h
  clear hp hq hz
  have T0 := Lib.hid (p_c0 p)
  have T1 := Lib.hid (p_c1 p)
  have T2 := Lib.hid (p_c2 p)
  have T3 := Lib.hid (p_c3 p)
  have T9 := Lib.hid (p_c9 p)
  have T10 := Lib.hid (p_c10 p)
  have T11 := Lib.hid (p_c11 p)
  have T12 := Lib.hid (p_c12 p)
  have V0 := Lib.hid (p_c0 q)
  have V1 := Lib.hid (p_c1 q)
  have V2 := Lib.hid (p_c2 q)
  have V3 := Lib.hid (p_c3 q)
  have V9 := Lib.hid (p_c9 q)
  have V10 := Lib.hid (p_c10 q)
  have V11 := Lib.hid (p_c11 q)
  have V12 := Lib.hid (p_c12 q)
  replace V9 := Lib.hid (show q.cells[9]? = some (.bool p.o) from by rw [h.2.2.2.2.1]; exact p_c9 q)
  clear h
  generalize p.cells = TT at *
  generalize q.cells = VV at *
  go_enter Try.func30, Try.ntmps30
  go_wp2_with (first | (refine wpList_load_one rfl 52 _ rfl ⟨w.heap.size, 0, none⟩ rfl (.slice p.A1 p.rs.length p.c1) (cell_row q1 T0.out) Try.underlying52 rfl ?_) | (refine wpList_load_one rfl 52 _ rfl ⟨w.heap.size + 1, 0, none⟩ rfl (.slice q.A1 q.rs.length q.c1) (cell_row q2 V0.out) Try.underlying52 rfl ?_))
  rw [HE.out.1.1]
  refine (c_eqRingS _ _ _ _ _ _ _ _ HP.out.1 HQ.out.1 rfl HE.out.1.1 HZ.out.1.1 (fun k hk => Nat.le_trans (HZ.out.1.2 k hk) (by decide)) HE.out.1.2).mono ?_; rintro e w1 ⟨rfl, b⟩; replace q1 := q1.below b q1.lt; replace q2 := q2.below b q2.lt; replace hb := seq_below hb b; replace HP := Lib.hid (HP.out.below b); replace HQ := Lib.hid (HQ.out.below b); clear b
  go_wp2_with (first | (refine wpList_load_one rfl 52 _ rfl ⟨w.heap.size, 1, none⟩ rfl (.slice p.A2 p.qs.length p.c2) (cell_row q1 T1.out) Try.underlying52 rfl ?_) | (refine wpList_load_one rfl 52 _ rfl ⟨w.heap.size + 1, 1, none⟩ rfl (.slice q.A2 q.qs.length q.c2) (cell_row q2 V1.out) Try.underlying52 rfl ?_))
  rw [HE.out.2.1.1]
  refine (c_eqRingS _ _ _ _ _ _ _ _ HP.out.2.1 HQ.out.2.1 rfl HE.out.2.1.1 HZ.out.2.1.1 (fun k hk => Nat.le_trans (HZ.out.2.1.2 k hk) (by decide)) HE.out.2.1.2).mono ?_; rintro e w2 ⟨rfl, b⟩; replace q1 := q1.below b q1.lt; replace q2 := q2.below b q2.lt; replace hb := seq_below hb b; replace HP := Lib.hid (HP.out.below b); replace HQ := Lib.hid (HQ.out.below b); clear b
  go_wp2_with (first | (refine wpList_load_one rfl 22 _ rfl ⟨w.heap.size, 2, none⟩ rfl (.slice p.A3 p.xs.length p.c3) (cell_row q1 T2.out) Try.underlying22 rfl ?_) | (refine wpList_load_one rfl 22 _ rfl ⟨w.heap.size + 1, 2, none⟩ rfl (.slice q.A3 q.xs.length q.c3) (cell_row q2 V2.out) Try.underlying22 rfl ?_))
  refine (c_eqFloat32S _ _ _ _ _ _ _ HP.out.2.2 HQ.out.2.2 HE.out.2.2.1.1.symm (Nat.le_trans HZ.out.2.2 (by decide)) HE.out.2.2.1.2).mono ?_; rintro e w3 ⟨rfl, b⟩; replace q1 := q1.below b q1.lt; replace q2 := q2.below b q2.lt; replace hb := seq_below hb b; replace HP := Lib.hid (HP.out.below b); replace HQ := Lib.hid (HQ.out.below b); clear b
  go_wp2_with (first | (refine wpList_load_part rfl 35 _ rfl (w.heap.size) 3 rfl p.F.cells q1 T3.out Try.underlying35 rfl info_filt ?_) | (refine wpList_load_part rfl 35 _ rfl (w.heap.size + 1) 3 rfl q.F.cells q2 V3.out Try.underlying35 rfl info_filt ?_))
  refine (c_eqFil _ _ _ HE.out.2.2.2.1).mono ?_; rintro e w4 ⟨rfl, b⟩; replace q1 := q1.below b q1.lt; replace q2 := q2.below b q2.lt; replace hb := seq_below hb b; replace HP := Lib.hid (HP.out.below b); replace HQ := Lib.hid (HQ.out.below b); clear b
  go_wp2_with (first | (refine wpList_load_one rfl 4 _ rfl ⟨w.heap.size, 9, none⟩ rfl (.bool p.o) (cell_row q1 T9.out) Try.underlying4 rfl ?_) | (refine wpList_load_one rfl 4 _ rfl ⟨w.heap.size + 1, 9, none⟩ rfl (.bool p.o) (cell_row q2 V9.out) Try.underlying4 rfl ?_) | (refine wpList_load_one rfl 25 _ rfl ⟨w.heap.size, 10, none⟩ rfl (.float .f32 p.l) (cell_row q1 T10.out) Try.underlying25 rfl ?_) | (refine wpList_load_one rfl 25 _ rfl ⟨w.heap.size + 1, 10, none⟩ rfl (.float .f32 q.l) (cell_row q2 V10.out) Try.underlying25 rfl ?_))
  refine (c_same32b _ _ _ _ _ HE.out.2.2.2.2.2.1).mono ?_; rintro e w5 ⟨rfl, b⟩; replace b := (below_drewN (Below.refl w4.heap.size w4) _).trans b; replace q1 := q1.below b q1.lt; replace q2 := q2.below b q2.lt; replace hb := seq_below hb b; replace HP := Lib.hid (HP.out.below b); replace HQ := Lib.hid (HQ.out.below b); clear b
  go_wp2_with (first | (refine wpList_load_one rfl 25 _ rfl ⟨w.heap.size, 11, none⟩ rfl (.float .f32 p.r) (cell_row q1 T11.out) Try.underlying25 rfl ?_) | (refine wpList_load_one rfl 25 _ rfl ⟨w.heap.size + 1, 11, none⟩ rfl (.float .f32 q.r) (cell_row q2 V11.out) Try.underlying25 rfl ?_))
  refine (c_same32b _ _ _ _ _ HE.out.2.2.2.2.2.2.1).mono ?_; rintro e w6 ⟨rfl, b⟩; replace b := (below_drewN (Below.refl w5.heap.size w5) _).trans b; replace q1 := q1.below b q1.lt; replace q2 := q2.below b q2.lt; replace hb := seq_below hb b; replace HP := Lib.hid (HP.out.below b); replace HQ := Lib.hid (HQ.out.below b); clear b
  go_wp2_with (first | (refine wpList_load_one rfl 25 _ rfl ⟨w.heap.size, 12, none⟩ rfl (.float .f32 p.s) (cell_row q1 T12.out) Try.underlying25 rfl ?_) | (refine wpList_load_one rfl 25 _ rfl ⟨w.heap.size + 1, 12, none⟩ rfl (.float .f32 q.s) (cell_row q2 V12.out) Try.underlying25 rfl ?_))
  refine (c_same32b _ _ _ _ _ HE.out.2.2.2.2.2.2.2).mono ?_; rintro e w7 ⟨rfl, b⟩; replace b := (below_drewN (Below.refl w6.heap.size w6) _).trans b; replace q1 := q1.below b q1.lt; replace q2 := q2.below b q2.lt; replace hb := seq_below hb b; replace HP := Lib.hid (HP.out.below b); replace HQ := Lib.hid (HQ.out.below b); clear b
  go_wp2_with fail
  go_ret
  exact ⟨rfl, hb⟩
end Go.Proofs.Ytpchebclhjgcmaa
namespace Go.Proofs.Ytpchebclhjgcmaa
open Go.RowKit Go.Fl
/-- What rings count. -/
def sumTo (rs : List RingV) (k : Nat) : Nat := ((List.range k).map fun j => (rgs rs j).xs.length).sum
theorem sumTo_succ (rs : List RingV) (k : Nat) : sumTo rs (k + 1) = sumTo rs k + (rgs rs k).xs.length := by
  unfold sumTo; rw [List.range_succ, List.map_append, List.sum_append]; simp
def totR (rs : List RingV) : Nat := rs.length + sumTo rs rs.length
theorem sumTo_mono (rs : List RingV) : ∀ (d k : Nat), sumTo rs k ≤ sumTo rs (k + d)
  | 0, k => Nat.le_refl _
  | d + 1, k => by rw [show k + (d + 1) = (k + d) + 1 from rfl, sumTo_succ]; have := sumTo_mono rs d k; omega
theorem sumTo_le (rs : List RingV) {k n : Nat} (h : k ≤ n) : sumTo rs k ≤ sumTo rs n := by
  obtain ⟨d, rfl⟩ := Nat.le.dest h; exact sumTo_mono rs d k
theorem RsSz.of {rs : List RingV} {m : Nat} (h : totR rs ≤ m) : RsSz rs m := by
  unfold totR at h
  refine ⟨by omega, fun k hk => ?_⟩
  have := sumTo_le rs (show k + 1 ≤ rs.length from hk)
  rw [sumTo_succ] at this
  omega
def totP (p : PipV) : Nat := totR p.rs + (totR p.qs + p.xs.length)
theorem PipSz.of {p : PipV} (h : totP p ≤ 1048576) : PipSz p := by
  unfold totP at h
  exact ⟨RsSz.of (by omega), RsSz.of (by omega), by omega⟩
set_option maxRecDepth 20000 in
theorem c_szRingS (A : Option Addr) (c n : Nat) (rs : List RingV) (z : Int) (w : World) (hs : Rs w A rs) (hn : rs.length = n) (hz : z ≤ 1048576) (h : (totR rs : Int) ≤ z) :
    Calls Try.prog 78 #[.slice A n c, .int .i64 z] w fun e w' => e = .returned (.int .i64 (z - (totR rs : Int))) ∧ Below w.heap.size w w' := by
  have ht : totR rs = n + sumTo rs n := by unfold totR; rw [hn]
  have HS := Lib.hid hs; have HN := Lib.hid hn; have HT := Lib.hid ht; have HH := Lib.hid h
  have h0 : (0 : Int) ≤ n := by omega
  have h1 : ¬ (z - (n : Int) < 0) := by omega
  have hzn : z - (n : Int) ≤ 1048576 := by omega
  clear hs hn ht h
  go_enter Try.func78, Try.ntmps78
  go_wp2
  go_loopw [5, 1] (fun i y wr => ∃ (k : Nat) (v : Int), k ≤ n ∧ i = .int .i64 k ∧ y = .int .i64 v ∧ Hid (v = z - (n : Int) - (sumTo rs k : Int)) ∧ Below w.heap.size w wr) (fun i _ _ => n - (intOf i).toNat)
  case atStart => exact ⟨0, z - (n : Int), by omega, rfl, rfl, Lib.hid (by simp [sumTo]), Below.refl _ _⟩
  case round =>
    obtain ⟨k, v, hk, rfl, rfl, HV, hb⟩ := hrel
    by_cases hlt : k < n
    · obtain ⟨ad, rfl, hbl, hc, _⟩ := (HS.out.below hb).at_ (k := k) (by rw [HN.out]; exact hlt)
      have HC := Lib.hid hc; clear hc
      have hi : (0 : Int) ≤ k := by omega
      have hi2 : (k : Int) < n := by omega
      have hi3 : (n : Int) ≤ 1048576 := by omega
      have hs1 := sumTo_succ rs k
      have hs2 := sumTo_le rs (show k + 1 ≤ n from hlt)
      have hv := HV.out
      have ht := HT.out; have hh := HH.out
      have hv1 : v ≤ 1048576 := by omega
      have hv2 : ((rgs rs k).xs.length : Int) ≤ v := by omega
      have hv3 : ¬ (v - ((rgs rs k).xs.length : Int) < 0) := by omega
      have hv4 : (0 : Int) ≤ ((rgs rs k).xs.length : Int) := by omega
      have HV2 : Hid (v - ((rgs rs k).xs.length : Int) = z - (n : Int) - (sumTo rs (k + 1) : Int)) := Lib.hid (by omega)
      have HV1 := Lib.hid hv1; have HVL := Lib.hid hv2
      clear hs1 hs2 hv ht hh
      go_wp2_with (refine wpList_load_many rfl 24 _ rfl (ad.add (k * 2)) rfl (rgC (rgs rs k)) HC.out Try.underlying24 rfl info_lringS ?_)
      refine (c_szRingL _ _ _ _ _ _ HV1.out HVL.out).mono ?_; rintro e w1 ⟨rfl, b⟩
      replace hb := seq_below hb b; clear b
      go_wp2_with fail
      go_roundw
      case rel => exact ⟨k + 1, v - ((rgs rs k).xs.length : Int), by omega, by go_num, rfl, HV2, hb⟩
      case measure => simp [intOf]; omega
    · have e : k = n := by omega
      subst e
      have HR : Hid (v = z - (totR rs : Int)) := Lib.hid (by have h1 := HV.out; have h2 := HT.out; omega)
      go_wp2
      go_ret
      exact ⟨congrArg (fun x => Ending.returned (Value.int .i64 x)) HR.out, hb⟩
set_option maxRecDepth 20000 in
theorem c_szRingS_big (A : Option Addr) (c n : Nat) (rs : List RingV) (z : Int) (w : World) (hs : Rs w A rs) (hn : rs.length = n) (hm : (n : Int) ≤ 9223372036854775807) (hf : ∀ k, k < n → ((rgs rs k).xs.length : Int) ≤ 9223372036854775807) (h0z : 0 ≤ z) (hz : z ≤ 1048576) (h : z < (totR rs : Int)) :
    Calls Try.prog 78 #[.slice A n c, .int .i64 z] w fun e w' => e = .returned (.int .i64 (-1)) ∧ Below w.heap.size w w' := by
  have ht : totR rs = n + sumTo rs n := by unfold totR; rw [hn]
  have HS := Lib.hid hs; have HN := Lib.hid hn; have HT := Lib.hid ht; have HH := Lib.hid h; have HF := Lib.hid hf
  have h0 : (0 : Int) ≤ n := by omega
  by_cases hbig : z < (n : Int)
  · have h1 : z - (n : Int) < 0 := by omega
    clear hs hn ht h hf HS HN HT HH HF
    go_enter Try.func78, Try.ntmps78
    go_wp2
    go_ret
    exact ⟨rfl, Below.refl _ _⟩
  have h1 : ¬ (z - (n : Int) < 0) := by omega
  clear hs hn ht h hf
  go_enter Try.func78, Try.ntmps78
  go_wp2
  go_loopw [5, 1] (fun i y wr => ∃ (k : Nat) (v : Int), k ≤ n ∧ i = .int .i64 k ∧ y = .int .i64 v ∧ Hid (v = z - (n : Int) - (sumTo rs k : Int) ∧ 0 ≤ v) ∧ Below w.heap.size w wr) (fun i _ _ => n - (intOf i).toNat)
  case atStart => exact ⟨0, z - (n : Int), by omega, rfl, rfl, Lib.hid ⟨by simp [sumTo], by omega⟩, Below.refl _ _⟩
  case round =>
    obtain ⟨k, v, hk, rfl, rfl, HV, hb⟩ := hrel
    by_cases hlt : k < n
    · obtain ⟨ad, rfl, hbl, hc, _⟩ := (HS.out.below hb).at_ (k := k) (by rw [HN.out]; exact hlt)
      have HC := Lib.hid hc; clear hc
      have hi : (0 : Int) ≤ k := by omega
      have hi2 : (k : Int) < n := by omega
      have hi3 : (n : Int) ≤ 1048576 := by omega
      have hs1 := sumTo_succ rs k
      obtain ⟨hv, hv0⟩ := HV.out
      have hv1 : v ≤ 1048576 := by omega
      have hv4 : (0 : Int) ≤ ((rgs rs k).xs.length : Int) := by omega
      have hv5 := HF.out k hlt
      have HV5 := Lib.hid hv5
      have HV0 := Lib.hid hv0
      have HV1 := Lib.hid hv1
      by_cases hv2 : ((rgs rs k).xs.length : Int) ≤ v
      · have hv3 : ¬ (v - ((rgs rs k).xs.length : Int) < 0) := by omega
        have HV2 : Hid (v - ((rgs rs k).xs.length : Int) = z - (n : Int) - (sumTo rs (k + 1) : Int) ∧ 0 ≤ v - ((rgs rs k).xs.length : Int)) := Lib.hid (by omega)
        have HVL := Lib.hid hv2
        clear hs1 hv
        go_wp2_with (refine wpList_load_many rfl 24 _ rfl (ad.add (k * 2)) rfl (rgC (rgs rs k)) HC.out Try.underlying24 rfl info_lringS ?_)
        refine (c_szRingL _ _ _ _ _ _ HV1.out HVL.out).mono ?_; rintro e w1 ⟨rfl, b⟩
        replace hb := seq_below hb b; clear b
        go_wp2_with fail
        go_roundw
        case rel => exact ⟨k + 1, v - ((rgs rs k).xs.length : Int), by omega, by go_num, rfl, HV2, hb⟩
        case measure => simp [intOf]; omega
      · have HVL : Hid (v < ((rgs rs k).xs.length : Int)) := Lib.hid (by omega)
        clear hs1 hv hv2
        go_wp2_with (refine wpList_load_many rfl 24 _ rfl (ad.add (k * 2)) rfl (rgC (rgs rs k)) HC.out Try.underlying24 rfl info_lringS ?_)
        refine (c_szRingL_big _ _ _ _ _ _ HV0.out HV1.out HVL.out HV5.out).mono ?_; rintro e w1 ⟨rfl, b⟩
        replace hb := seq_below hb b; clear b
        go_wp2_with fail
        go_ret
        exact ⟨rfl, hb⟩
    · exfalso
      have e : k = n := by omega
      subst e
      have h1 := HV.out; have h2 := HT.out; have h3 := HH.out
      omega

theorem c_szFloat_ok (A : Option Addr) (n c : Nat) (z : Int) (w : World) (hz : z ≤ 1048576) (h : (n : Int) ≤ z) : Calls Try.prog 79 #[.slice A n c, .int .i64 z] w fun e w' => e = .returned (.int .i64 (z - n)) ∧ w' = w := by
  have h0 : (0 : Int) ≤ n := by omega
  have h1 : ¬ (z - (n : Int) < 0) := by omega
  go_enter Try.func79, Try.ntmps79
  go_wp2
  go_ret
  exact ⟨rfl, rfl⟩
theorem c_szFloat_big (A : Option Addr) (n c : Nat) (z : Int) (w : World) (h0 : 0 ≤ z) (hz : z ≤ 1048576) (h : z < (n : Int)) (hm : (n : Int) ≤ 9223372036854775807) : Calls Try.prog 79 #[.slice A n c, .int .i64 z] w fun e w' => e = .returned (.int .i64 (-1)) ∧ w' = w := by
  have h1 : z - (n : Int) < 0 := by omega
  go_enter Try.func79, Try.ntmps79
  go_wp2
  go_ret
  exact ⟨rfl, rfl⟩
set_option maxRecDepth 20000 in
set_option maxHeartbeats 1000000 in
theorem c_szPipe (p : PipV) (z : Int) (w : World) (hp : PipAt w p) (hz : z ≤ 1048576) (h : (totP p : Int) ≤ z) :
    Calls Try.prog 37 #[.agg p.cells.toArray, .int .i64 z] w fun e w' => e = .returned (.int .i64 (z - (totP p : Int))) ∧ Below w.heap.size w w' := by
  have ht : totP p = totR p.rs + (totR p.qs + p.xs.length) := rfl
  have q1 : Row ((w.alloc (.cells p.cells.toArray 68))) (w.heap.size) p.cells.toArray 68 := Row.new _ _ _ _ rfl
  have hb := Go.Joins.below_alloc1 w (.cells p.cells.toArray 68)
  have HP := Lib.hid (hp.below hb)
  have T0 := Lib.hid (p_c0 p)
  have T1 := Lib.hid (p_c1 p)
  have T2 := Lib.hid (p_c2 p)
  have T3 := Lib.hid (p_c3 p)
  have T9 := Lib.hid (p_c9 p)
  have T10 := Lib.hid (p_c10 p)
  have T11 := Lib.hid (p_c11 p)
  have T12 := Lib.hid (p_c12 p)
  generalize p.cells = TT at *
  have H1 : Hid ((totR p.rs : Int) ≤ z) := Lib.hid (by omega)
  have H2 : Hid ((totR p.qs : Int) ≤ z - (totR p.rs : Int)) := Lib.hid (by omega)
  have H3 : Hid ((p.xs.length : Int) ≤ z - (totR p.rs : Int) - (totR p.qs : Int)) := Lib.hid (by omega)
  have H4 : Hid (z - (totR p.rs : Int) - (totR p.qs : Int) - (p.xs.length : Int) = z - (totP p : Int)) := Lib.hid (by omega)
  have n1 : ¬ (z - (totR p.rs : Int) < 0) := by omega
  have n2 : ¬ (z - (totR p.rs : Int) - (totR p.qs : Int) < 0) := by omega
  have n3 : ¬ (z - (totR p.rs : Int) - (totR p.qs : Int) - (p.xs.length : Int) < 0) := by omega
  have HZ := Lib.hid hz; have Z2 : Hid (z - (totR p.rs : Int) ≤ 1048576) := Lib.hid (by omega); have Z3 : Hid (z - (totR p.rs : Int) - (totR p.qs : Int) ≤ 1048576) := Lib.hid (by omega)
  clear hp hz h ht
  go_enter Try.func37, Try.ntmps37
  go_wp2_with (refine wpList_load_one rfl 66 _ rfl ⟨w.heap.size, 0, none⟩ rfl (.slice p.A1 p.rs.length p.c1) (cell_row q1 T0.out) Try.underlying66 rfl ?_)
  refine (c_szRingS _ _ _ _ _ _ HP.out.1 rfl HZ.out H1.out).mono ?_; rintro e w1 ⟨rfl, b⟩; replace q1 := q1.below b q1.lt; replace hb := seq_below hb b; replace HP := Lib.hid (HP.out.below b); clear b
  go_wp2_with (refine wpList_load_one rfl 66 _ rfl ⟨w.heap.size, 1, none⟩ rfl (.slice p.A2 p.qs.length p.c2) (cell_row q1 T1.out) Try.underlying66 rfl ?_)
  refine (c_szRingS _ _ _ _ _ _ HP.out.2.1 rfl Z2.out H2.out).mono ?_; rintro e w2 ⟨rfl, b⟩; replace q1 := q1.below b q1.lt; replace hb := seq_below hb b; replace HP := Lib.hid (HP.out.below b); clear b
  go_wp2_with (refine wpList_load_one rfl 22 _ rfl ⟨w.heap.size, 2, none⟩ rfl (.slice p.A3 p.xs.length p.c3) (cell_row q1 T2.out) Try.underlying22 rfl ?_)
  refine (c_szFloat_ok _ _ _ _ _ Z3.out H3.out).mono ?_; rintro e w3 ⟨rfl, rfl⟩
  go_wp2_with fail
  go_ret
  exact ⟨congrArg (fun x => Ending.returned (Value.int .i64 x)) H4.out, hb⟩
/-- The pipe's lists fit. -/
def PipFit (p : PipV) : Prop := (p.rs.length ≤ maxLen ∧ RsFit p.rs) ∧ (p.qs.length ≤ maxLen ∧ RsFit p.qs) ∧ p.xs.length ≤ maxLen
set_option maxRecDepth 20000 in
set_option maxHeartbeats 1000000 in
theorem c_szPipe_big (p : PipV) (z : Int) (w : World) (hp : PipAt w p) (hf : PipFit p) (h0 : 0 ≤ z) (hz : z ≤ 1048576) (h : z < (totP p : Int)) :
    Calls Try.prog 37 #[.agg p.cells.toArray, .int .i64 z] w fun e w' => e = .returned (.int .i64 (-1)) ∧ Below w.heap.size w w' := by
  have ht : totP p = totR p.rs + (totR p.qs + p.xs.length) := rfl
  obtain ⟨⟨f1, f2⟩, ⟨f3, f4⟩, f5⟩ := hf
  unfold RsFit at f2 f4
  unfold maxLen at f1 f2 f3 f4 f5
  have q1 : Row ((w.alloc (.cells p.cells.toArray 68))) (w.heap.size) p.cells.toArray 68 := Row.new _ _ _ _ rfl
  have hb := Go.Joins.below_alloc1 w (.cells p.cells.toArray 68)
  have HP := Lib.hid (hp.below hb)
  have T0 := Lib.hid (p_c0 p)
  have T1 := Lib.hid (p_c1 p)
  have T2 := Lib.hid (p_c2 p)
  have T3 := Lib.hid (p_c3 p)
  have T9 := Lib.hid (p_c9 p)
  have T10 := Lib.hid (p_c10 p)
  have T11 := Lib.hid (p_c11 p)
  have T12 := Lib.hid (p_c12 p)
  generalize p.cells = TT at *
  have F1 := Lib.hid (show (p.rs.length : Int) ≤ 9223372036854775807 from by omega); have F2 := Lib.hid (show ∀ k, k < p.rs.length → ((rgs p.rs k).xs.length : Int) ≤ 9223372036854775807 from fun k hk => by have := f2 k hk; omega)
  have F3 := Lib.hid (show (p.qs.length : Int) ≤ 9223372036854775807 from by omega); have F4 := Lib.hid (show ∀ k, k < p.qs.length → ((rgs p.qs k).xs.length : Int) ≤ 9223372036854775807 from fun k hk => by have := f4 k hk; omega)
  have F5 := Lib.hid (show (p.xs.length : Int) ≤ 9223372036854775807 from by omega)
  clear f1 f2 f3 f4 f5 hp
  have HZ := Lib.hid hz; have H0 := Lib.hid h0
  by_cases g1 : (totR p.rs : Int) ≤ z
  case neg =>
    have G1 : Hid (z < (totR p.rs : Int)) := Lib.hid (by omega)
    clear g1 hz h ht h0
    go_enter Try.func37, Try.ntmps37
    go_wp2_with (refine wpList_load_one rfl 66 _ rfl ⟨w.heap.size, 0, none⟩ rfl (.slice p.A1 p.rs.length p.c1) (cell_row q1 T0.out) Try.underlying66 rfl ?_)
    refine (c_szRingS_big _ _ _ _ _ _ HP.out.1 rfl F1.out F2.out H0.out HZ.out G1.out).mono ?_; rintro e w1 ⟨rfl, b⟩; replace q1 := q1.below b q1.lt; replace hb := seq_below hb b; replace HP := Lib.hid (HP.out.below b); clear b
    go_wp2_with fail
    go_ret
    exact ⟨rfl, hb⟩
  have H1 := Lib.hid g1
  have Z2 : Hid (z - (totR p.rs : Int) ≤ 1048576) := Lib.hid (by omega); have Y2 : Hid (0 ≤ z - (totR p.rs : Int)) := Lib.hid (by omega)
  have n1 : ¬ (z - (totR p.rs : Int) < 0) := by omega
  by_cases g2 : (totR p.qs : Int) ≤ z - (totR p.rs : Int)
  case neg =>
    have G2 : Hid (z - (totR p.rs : Int) < (totR p.qs : Int)) := Lib.hid (by omega)
    clear g1 g2 hz h ht h0
    go_enter Try.func37, Try.ntmps37
    go_wp2_with (refine wpList_load_one rfl 66 _ rfl ⟨w.heap.size, 0, none⟩ rfl (.slice p.A1 p.rs.length p.c1) (cell_row q1 T0.out) Try.underlying66 rfl ?_)
    refine (c_szRingS _ _ _ _ _ _ HP.out.1 rfl HZ.out H1.out).mono ?_; rintro e w1 ⟨rfl, b⟩; replace q1 := q1.below b q1.lt; replace hb := seq_below hb b; replace HP := Lib.hid (HP.out.below b); clear b
    go_wp2_with (refine wpList_load_one rfl 66 _ rfl ⟨w.heap.size, 1, none⟩ rfl (.slice p.A2 p.qs.length p.c2) (cell_row q1 T1.out) Try.underlying66 rfl ?_)
    refine (c_szRingS_big _ _ _ _ _ _ HP.out.2.1 rfl F3.out F4.out Y2.out Z2.out G2.out).mono ?_; rintro e w2 ⟨rfl, b⟩; replace q1 := q1.below b q1.lt; replace hb := seq_below hb b; replace HP := Lib.hid (HP.out.below b); clear b
    go_wp2_with fail
    go_ret
    exact ⟨rfl, hb⟩
  have H2 := Lib.hid g2
  have Z3 : Hid (z - (totR p.rs : Int) - (totR p.qs : Int) ≤ 1048576) := Lib.hid (by omega); have Y3 : Hid (0 ≤ z - (totR p.rs : Int) - (totR p.qs : Int)) := Lib.hid (by omega)
  have n2 : ¬ (z - (totR p.rs : Int) - (totR p.qs : Int) < 0) := by omega
  have G3 : Hid (z - (totR p.rs : Int) - (totR p.qs : Int) < (p.xs.length : Int)) := Lib.hid (by omega)
  clear g1 g2 hz h ht h0
  go_enter Try.func37, Try.ntmps37
  go_wp2_with (refine wpList_load_one rfl 66 _ rfl ⟨w.heap.size, 0, none⟩ rfl (.slice p.A1 p.rs.length p.c1) (cell_row q1 T0.out) Try.underlying66 rfl ?_)
  refine (c_szRingS _ _ _ _ _ _ HP.out.1 rfl HZ.out H1.out).mono ?_; rintro e w1 ⟨rfl, b⟩; replace q1 := q1.below b q1.lt; replace hb := seq_below hb b; replace HP := Lib.hid (HP.out.below b); clear b
  go_wp2_with (refine wpList_load_one rfl 66 _ rfl ⟨w.heap.size, 1, none⟩ rfl (.slice p.A2 p.qs.length p.c2) (cell_row q1 T1.out) Try.underlying66 rfl ?_)
  refine (c_szRingS _ _ _ _ _ _ HP.out.2.1 rfl Z2.out H2.out).mono ?_; rintro e w2 ⟨rfl, b⟩; replace q1 := q1.below b q1.lt; replace hb := seq_below hb b; replace HP := Lib.hid (HP.out.below b); clear b
  go_wp2_with (refine wpList_load_one rfl 22 _ rfl ⟨w.heap.size, 2, none⟩ rfl (.slice p.A3 p.xs.length p.c3) (cell_row q1 T2.out) Try.underlying22 rfl ?_)
  refine (c_szFloat_big _ _ _ _ _ Y3.out Z3.out G3.out F5.out).mono ?_; rintro e w3 ⟨rfl, rfl⟩
  go_wp2_with fail
  go_ret
  exact ⟨rfl, hb⟩
end Go.Proofs.Ytpchebclhjgcmaa
