/- New strings: the walks. No condition. -/
import Derived.Test.YtpchebclhjgcmaaHl
namespace Go.Fl
open Go.RowKit
/-- A whole row, in a region that draws, known in every world that may come. -/
theorem yields_load_rowS {P : Program} {ops : Array Oper} {S : World → Prop} {o : Oper} {a : Act} (hgd : o.guard = none) (ty : TypeId) (x : Operand) (ho : o.op = .load ty x) (g : Nat) (hx : a.eval x = .pointer (some ⟨g, 0, none⟩)) {cs : Array Value} {t : TypeId} (hS : ∀ w, S w → w.heap[g]? = some (.cells cs t))
    {d : TypeDesc} (hu : P.underlying ty = some d) (hd : (match d with | .struct _ | .array _ _ => true | _ => false) = true) (hi : (P.info? ty).map (·.size) = some cs.size) : YieldsIf P ops S o (.agg cs) a :=
  .inl ⟨by simp [Region.wanted, hgd], fun w hw => by
    unfold execOp
    simp only [ho, hx, Instr.loadAt, Instr.sureAddr, Sem.run_bind, Sem.run_pure, Result.andThen_ok, run_loadVar_row w g t ty cs (0, 0) _ (hS w hw) hu hd hi]⟩
end Go.Fl
namespace Go.Proofs.Ytpchebclhjgcmaa
open Go.RowKit Go.Fl
theorem Row.belowD {w w' : World} {g m : Nat} {cs : Array Value} {t : TypeId} (h : Row w g cs t) (hb : Below (w.drewN m).heap.size (w.drewN m) w') : Row w' g cs t := Row.below (w := w.drewN m) h hb h.lt
theorem seq_belowD {w0 w w' : World} {m : Nat} (hb : Below w0.heap.size w0 w) (b : Below (w.drewN m).heap.size (w.drewN m) w') : Below w0.heap.size w0 w' := seq_below (below_drewN hb m) b
def filA (k : Int) (c : Nat) : Fil := ⟨k, c, 0, 0, 0, 0⟩
def filM (c a : Nat) : Fil := ⟨2, c, a, 0, 0, 0⟩
set_option maxRecDepth 20000 in
set_option maxHeartbeats 2000000 in
theorem c_iNewString_no (p m l : Nat) (w : World) (h : newOk p m l = false) :
    Calls Try.prog 18 #[.float .f32 p, .float .f32 m, .float .f32 l] w (NewPost p m l w) := by
  have q1 : Row (w.alloc (.cells (strC none 0 0 0 filZ filZ 0).toArray 37)) w.heap.size (strC none 0 0 0 filZ filZ 0).toArray 37 := Row.new _ _ _ _ rfl
  have hb := Go.Joins.below_alloc1 w (.cells (strC none 0 0 0 filZ filZ 0).toArray 37)
  have HN := Lib.hid (new_no h)
  unfold NewPost
  unfold newOk at h
  cases v1 : inR p 1077936128 1149239296
  · have V1 := Lib.hid v1; clear v1 h
    go_enter Try.func18, Try.ntmps18
    go_wp2_with fail
    refine (c_inside _ _ _ _ _ V1.out).mono ?_; rintro e w1 ⟨rfl, rfl⟩
    go_wp2_with (refine wpList_store_own rfl 37 _ _ rfl rfl rfl hb (Nat.le_refl _) q1 info_str rfl rfl (fun w2 b2 h2 => ?_))
    exact bodyPost_ret (results_cells_tmp rfl _ _ _ rfl rfl h2 Try.underlying37 rfl info_str) rfl ⟨none, 0, 0, filZ, filZ, 0, 2, rfl, own_nil _ _ _, HN.out, b2⟩
  rw [v1, Bool.true_and] at h
  have V1 := Lib.hid v1; clear v1
  cases v2 : inR m 0 1056964608
  · have V2 := Lib.hid v2; clear v2 h
    go_enter Try.func18, Try.ntmps18
    go_wp2_with fail
    refine (c_inside _ _ _ _ _ V1.out).mono ?_; rintro e w1 ⟨rfl, rfl⟩
    go_wp2_with fail
    refine (c_inside _ _ _ _ _ V2.out).mono ?_; rintro e w1 ⟨rfl, rfl⟩
    go_wp2_with (refine wpList_store_own rfl 37 _ _ rfl rfl rfl hb (Nat.le_refl _) q1 info_str rfl rfl (fun w2 b2 h2 => ?_))
    exact bodyPost_ret (results_cells_tmp rfl _ _ _ rfl rfl h2 Try.underlying37 rfl info_str) rfl ⟨none, 0, 0, filZ, filZ, 0, 2, rfl, own_nil _ _ _, HN.out, b2⟩
  rw [v2, Bool.true_and] at h
  have V2 := Lib.hid v2; have V3 := Lib.hid h; clear v2 h
  go_enter Try.func18, Try.ntmps18
  go_wp2_with fail
  refine (c_inside _ _ _ _ _ V1.out).mono ?_; rintro e w1 ⟨rfl, rfl⟩
  go_wp2_with fail
  refine (c_inside _ _ _ _ _ V2.out).mono ?_; rintro e w1 ⟨rfl, rfl⟩
  go_wp2_with fail
  refine (c_inside _ _ _ _ _ V3.out).mono ?_; rintro e w1 ⟨rfl, rfl⟩
  go_wp2_with (refine wpList_store_own rfl 37 _ _ rfl rfl rfl hb (Nat.le_refl _) q1 info_str rfl rfl (fun w2 b2 h2 => ?_))
  exact bodyPost_ret (results_cells_tmp rfl _ _ _ rfl rfl h2 Try.underlying37 rfl info_str) rfl ⟨none, 0, 0, filZ, filZ, 0, 2, rfl, own_nil _ _ _, HN.out, b2⟩
set_option maxRecDepth 20000 in
set_option maxHeartbeats 4000000 in
theorem c_iNewString (p m l : Nat) (w : World) (h : newOk p m l = true) :
    Calls Try.prog 18 #[.float .f32 p, .float .f32 m, .float .f32 l] w (NewPost p m l w) := by
  have q1 : Row (w.alloc (.cells (strC none 0 0 0 filZ filZ 0).toArray 37)) w.heap.size (strC none 0 0 0 filZ filZ 0).toArray 37 := Row.new _ _ _ _ rfl
  have hb := Go.Joins.below_alloc1 w (.cells (strC none 0 0 0 filZ filZ 0).toArray 37)
  unfold NewPost
  have h' := h
  unfold newOk at h
  rw [Bool.and_eq_true, Bool.and_eq_true] at h
  obtain ⟨v1, v2, v3⟩ := h
  obtain ⟨x, k, hx, k1, k2, hf, hd, ex, ek, ⟨y0, hy0, hT⟩, ⟨y, hy, hY⟩⟩ := new_walk p m v1 v2
  obtain ⟨s1, s2, _, _, s3⟩ := small_facts (show k < 1025 by omega)
  replace s3 := s3 (by omega)
  have V1 := Lib.hid v1; have V2 := Lib.hid v2; have V3 := Lib.hid v3; have HY := Lib.hid hY; have H' := Lib.hid h'
  clear v1 v2 v3 h' hf hY ex
  have HN : newN p m = if newT p m = true then k - 1 else k := by unfold newN; rw [ek]; split <;> omega
  cases hv : (ordC .f32 (cv .f32 y0) (cv .f32 1048576000) == some .lt)
  · rw [hv] at hT
    rw [hT, if_neg (by simp)] at HN
    rw [HN] at hy
    have ey : y = y0 := (hy default).symm.trans (hy0 default)
    subst ey
    have HNN := Lib.hid HN; clear HN hT ek hy0 s3
    have HB := Lib.hid (show inB (k : Int) 1 1024 = true from by simp [inB]; omega)
    go_enter Try.func18, Try.ntmps18
    go_wp2_with fail
    refine (c_inside _ _ _ _ _ V1.out).mono ?_; rintro e w1 ⟨rfl, rfl⟩
    go_wp2_with fail
    refine (c_inside _ _ _ _ _ V2.out).mono ?_; rintro e w1 ⟨rfl, rfl⟩
    go_wp2_with fail
    refine (c_inside _ _ _ _ _ V3.out).mono ?_; rintro e w1 ⟨rfl, rfl⟩
    go_wp2_with fail
    refine (c_mFloor _ _).mono ?_; rintro e w1 ⟨rfl, n1, rfl⟩
    go_wp2_with fail
    refine (c_iNewRing k _ HB.out).mono ?_; rintro e w2 ⟨gA, rfl, hA, hgA, b⟩
    have LA := Lib.hid (show w.heap.size < gA from Nat.lt_of_lt_of_le q1.lt hgA)
    replace q1 := q1.belowD b; replace hb := seq_belowD hb b; clear b hgA
    go_wp2_with (refine wpList_store_newest (cells := #[.slice (some ⟨gA, 0, none⟩) k k, .int .i64 0]) rfl 34 _ _ rfl rfl rfl info_ring rfl rfl (fun w3 b4 hr => ?_); have LR := Lib.hid q1.lt; replace q1 := q1.below b4 q1.lt; replace hb := seq_below hb b4; replace hA := hA.below b4 hA.lt; clear b4)
    refine (c_iAllpassFor _ _).mono ?_; rintro e w4 ⟨kI, cI, qI, rfl, HrI', b⟩; have HrI := Lib.hid HrI'; clear HrI'
    replace q1 := q1.belowD b; replace hb := seq_belowD hb b; replace hr := hr.belowD b; replace hA : Blk w4 gA _ _ := Blk.below (w := w3.drewN _) hA b hA.lt; clear b
    go_wp2_with (refine wpList_store_newest (cells := filt kI cI 0 0 0 0) rfl 35 _ _ rfl rfl rfl info_filter rfl rfl (fun w5 b4 hf => ?_); have LF := Lib.hid q1.lt; replace q1 := q1.below b4 q1.lt; replace hb := seq_below hb b4; replace hr := hr.below b4 hr.lt; replace hA := hA.below b4 hA.lt; clear b4)
    generalize w2.heap.size = gR at *
    generalize w4.heap.size = gF at *
    have s0 := grownBy_below (row := some w.heap.size) ((Below.refl w5.heap.size w5).drew)
    have HA := Lib.hid hA
    have KR := Lib.hid (fun W (h : w5.grownBy W (some w.heap.size)) => hr.grown h (fun e => by injection e with e; have := LR.out; omega))
    have KF := Lib.hid (fun W (h : w5.grownBy W (some w.heap.size)) => hf.grown h (fun e => by injection e with e; have := LF.out; omega))
    clear hr hf hA
    refine wp_region_seq (S := fun w' => w5.grownBy w' (some w.heap.size)) [(true, 0), (true, 1), (true, 2), (true, 4), (false, 3), (true, 5), (false, 6), (true, 7)] (by kernel_rfl) (by kernel_rfl) (by kernel_rfl) (fun _ _ d _ _ h => by cases d <;> exact h) s0 ?_
    refine wpSeq_heldD rfl rfl (yields_load_rowS rfl _ _ rfl _ rfl (fun W h => KR.out W h) Try.underlying34 rfl info_ring) _ (by simp only [List.setIfInBounds_toArray, List.set_cons_zero, List.set_cons_succ]; rfl) ?_
    refine wpSeq_heldD rfl rfl (yields_load_rowS rfl _ _ rfl _ rfl (fun W h => KF.out W h) Try.underlying35 rfl info_filter) _ (by simp only [List.setIfInBounds_toArray, List.set_cons_zero, List.set_cons_succ]; rfl) ?_
    refine wpSeq_heldD (v := .float .f32 m) rfl rfl (.inl ⟨rfl, fun w' hw => by go_simp⟩) _ (by simp only [List.setIfInBounds_toArray, List.set_cons_zero, List.set_cons_succ]; rfl) ?_
    refine wpSeq_heldD (v := .float .f32 l) rfl rfl (.inl ⟨rfl, fun w' hw => by go_simp⟩) _ (by simp only [List.setIfInBounds_toArray, List.set_cons_zero, List.set_cons_succ]; rfl) ?_
    refine wpSeq_step rfl rfl (fun K hK => ?_)
    go_wp2_with fail
    refine (c_iOneZero _ _).mono ?_; rintro e w6 ⟨cG, rfl, hG', b⟩; have HG := Lib.hid hG'; clear hG'
    have s1 : w5.grownBy w6 (some w.heap.size) := grownBy_trans s0 (grownBy_below b)
    refine hK _ _ ⟨s1, ?_⟩; clear hK
    refine wpSeq_heldD (v := .agg (strC (some ⟨gA, 0, none⟩) k k 0 (filA kI cI) (filM cG m) l).toArray) rfl rfl (.inl ⟨rfl, fun w' hw => by unfold filt; go_simp; rfl⟩) _ (by simp only [List.setIfInBounds_toArray, List.set_cons_zero, List.set_cons_succ]; rfl) ?_
    have q6 := Row.below (w := w5.drew) q1 b q1.lt
    have hb6 := seq_below (hb.drew) b
    have hA6 := Blk.below (w := w5.drew) HA.out b HA.out.lt
    refine wpSeq_step rfl rfl (fun K hK => ?_)
    refine wp_store_part 37 _ _ rfl w.heap.size 0 rfl (strC (some ⟨gA, 0, none⟩) k k 0 (filA kI cI) (filM cG m) l) rfl q6 info_str (Nat.le_of_ble_eq_true rfl) rfl ?_
    refine hK _ _ ⟨grownBy_trans s1 (grownBy_setRow _ _ _), ?_⟩; clear hK
    refine wpSeq_held rfl (yields_move rfl _ (.inr rfl)) ?_
    refine wpSeq_nil ?_
    clear s0 s1 b KR KF HA
    go_wp2_with fail
    exact bodyPost_ret (results_cells_tmp (cs := (strC (some ⟨gA, 0, none⟩) k k 0 (filA kI cI) (filM cG m) l).toArray) rfl _ _ _ rfl rfl (q6.row _) Try.underlying37 rfl info_str) rfl
      ⟨some ⟨gA, 0, none⟩, k, k, filA kI cI, filM cG m, l, 0, rfl, own_of_blk_n (hA6.rowOther (Nat.ne_of_gt LA.out) _) List.length_replicate (Nat.le_of_lt LA.out) (by unfold maxLen; omega),
        .inl ⟨H'.out, HNN.out.symm, ⟨qI, by rw [← HY.out]; exact HrI.out⟩, rfl, rfl, rfl, rfl, rfl, HG.out, rfl, rfl, rfl, rfl, rfl, rfl⟩, below_setRow hb6 (Nat.le_refl _) _⟩
  · rw [hv] at hT
    rw [hT, if_pos rfl] at HN
    obtain ⟨N, hN⟩ : ∃ N : Nat, k = N + 1 := ⟨k - 1, by omega⟩
    have eN : newN p m = N := by rw [HN]; omega
    have e3 : (k : Int) - 1 = (N : Int) := by omega
    rw [eN] at hy
    rw [e3] at s3
    have HNN := Lib.hid eN; clear HN hT ek eN
    obtain ⟨_, s4, _⟩ := small_facts (show N < 1025 by omega)
    have N1 : 1 ≤ N := by omega
    have N2 : N ≤ 1024 := by omega
    have HB := Lib.hid (show inB (N : Int) 1 1024 = true from by simp [inB]; omega)
    clear k1 k2 hN e3 s2
    go_enter Try.func18, Try.ntmps18
    go_wp2_with fail
    refine (c_inside _ _ _ _ _ V1.out).mono ?_; rintro e w1 ⟨rfl, rfl⟩
    go_wp2_with fail
    refine (c_inside _ _ _ _ _ V2.out).mono ?_; rintro e w1 ⟨rfl, rfl⟩
    go_wp2_with fail
    refine (c_inside _ _ _ _ _ V3.out).mono ?_; rintro e w1 ⟨rfl, rfl⟩
    go_wp2_with fail
    refine (c_mFloor _ _).mono ?_; rintro e w1 ⟨rfl, n1, rfl⟩
    go_wp2_with fail
    refine (c_iNewRing N _ HB.out).mono ?_; rintro e w2 ⟨gA, rfl, hA, hgA, b⟩
    have LA := Lib.hid (show w.heap.size < gA from Nat.lt_of_lt_of_le q1.lt hgA)
    replace q1 := q1.belowD b; replace hb := seq_belowD hb b; clear b hgA
    go_wp2_with (refine wpList_store_newest (cells := #[.slice (some ⟨gA, 0, none⟩) N N, .int .i64 0]) rfl 34 _ _ rfl rfl rfl info_ring rfl rfl (fun w3 b4 hr => ?_); have LR := Lib.hid q1.lt; replace q1 := q1.below b4 q1.lt; replace hb := seq_below hb b4; replace hA := hA.below b4 hA.lt; clear b4)
    refine (c_iAllpassFor _ _).mono ?_; rintro e w4 ⟨kI, cI, qI, rfl, HrI', b⟩; have HrI := Lib.hid HrI'; clear HrI'
    replace q1 := q1.belowD b; replace hb := seq_belowD hb b; replace hr := hr.belowD b; replace hA : Blk w4 gA _ _ := Blk.below (w := w3.drewN _) hA b hA.lt; clear b
    go_wp2_with (refine wpList_store_newest (cells := filt kI cI 0 0 0 0) rfl 35 _ _ rfl rfl rfl info_filter rfl rfl (fun w5 b4 hf => ?_); have LF := Lib.hid q1.lt; replace q1 := q1.below b4 q1.lt; replace hb := seq_below hb b4; replace hr := hr.below b4 hr.lt; replace hA := hA.below b4 hA.lt; clear b4)
    generalize w2.heap.size = gR at *
    generalize w4.heap.size = gF at *
    have s0 := grownBy_below (row := some w.heap.size) ((Below.refl w5.heap.size w5).drew)
    have HA := Lib.hid hA
    have KR := Lib.hid (fun W (h : w5.grownBy W (some w.heap.size)) => hr.grown h (fun e => by injection e with e; have := LR.out; omega))
    have KF := Lib.hid (fun W (h : w5.grownBy W (some w.heap.size)) => hf.grown h (fun e => by injection e with e; have := LF.out; omega))
    clear hr hf hA
    refine wp_region_seq (S := fun w' => w5.grownBy w' (some w.heap.size)) [(true, 0), (true, 1), (true, 2), (true, 4), (false, 3), (true, 5), (false, 6), (true, 7)] (by kernel_rfl) (by kernel_rfl) (by kernel_rfl) (fun _ _ d _ _ h => by cases d <;> exact h) s0 ?_
    refine wpSeq_heldD rfl rfl (yields_load_rowS rfl _ _ rfl _ rfl (fun W h => KR.out W h) Try.underlying34 rfl info_ring) _ (by simp only [List.setIfInBounds_toArray, List.set_cons_zero, List.set_cons_succ]; rfl) ?_
    refine wpSeq_heldD rfl rfl (yields_load_rowS rfl _ _ rfl _ rfl (fun W h => KF.out W h) Try.underlying35 rfl info_filter) _ (by simp only [List.setIfInBounds_toArray, List.set_cons_zero, List.set_cons_succ]; rfl) ?_
    refine wpSeq_heldD (v := .float .f32 m) rfl rfl (.inl ⟨rfl, fun w' hw => by go_simp⟩) _ (by simp only [List.setIfInBounds_toArray, List.set_cons_zero, List.set_cons_succ]; rfl) ?_
    refine wpSeq_heldD (v := .float .f32 l) rfl rfl (.inl ⟨rfl, fun w' hw => by go_simp⟩) _ (by simp only [List.setIfInBounds_toArray, List.set_cons_zero, List.set_cons_succ]; rfl) ?_
    refine wpSeq_step rfl rfl (fun K hK => ?_)
    go_wp2_with fail
    refine (c_iOneZero _ _).mono ?_; rintro e w6 ⟨cG, rfl, hG', b⟩; have HG := Lib.hid hG'; clear hG'
    have s1 : w5.grownBy w6 (some w.heap.size) := grownBy_trans s0 (grownBy_below b)
    refine hK _ _ ⟨s1, ?_⟩; clear hK
    refine wpSeq_heldD (v := .agg (strC (some ⟨gA, 0, none⟩) N N 0 (filA kI cI) (filM cG m) l).toArray) rfl rfl (.inl ⟨rfl, fun w' hw => by unfold filt; go_simp; rfl⟩) _ (by simp only [List.setIfInBounds_toArray, List.set_cons_zero, List.set_cons_succ]; rfl) ?_
    have q6 := Row.below (w := w5.drew) q1 b q1.lt
    have hb6 := seq_below (hb.drew) b
    have hA6 := Blk.below (w := w5.drew) HA.out b HA.out.lt
    refine wpSeq_step rfl rfl (fun K hK => ?_)
    refine wp_store_part 37 _ _ rfl w.heap.size 0 rfl (strC (some ⟨gA, 0, none⟩) N N 0 (filA kI cI) (filM cG m) l) rfl q6 info_str (Nat.le_of_ble_eq_true rfl) rfl ?_
    refine hK _ _ ⟨grownBy_trans s1 (grownBy_setRow _ _ _), ?_⟩; clear hK
    refine wpSeq_held rfl (yields_move rfl _ (.inr rfl)) ?_
    refine wpSeq_nil ?_
    clear s0 s1 b KR KF HA
    go_wp2_with fail
    exact bodyPost_ret (results_cells_tmp (cs := (strC (some ⟨gA, 0, none⟩) N N 0 (filA kI cI) (filM cG m) l).toArray) rfl _ _ _ rfl rfl (q6.row _) Try.underlying37 rfl info_str) rfl
      ⟨some ⟨gA, 0, none⟩, N, N, filA kI cI, filM cG m, l, 0, rfl, own_of_blk_n (hA6.rowOther (Nat.ne_of_gt LA.out) _) List.length_replicate (Nat.le_of_lt LA.out) (by unfold maxLen; omega),
        .inl ⟨H'.out, HNN.out.symm, ⟨qI, by rw [← HY.out]; exact HrI.out⟩, rfl, rfl, rfl, rfl, rfl, HG.out, rfl, rfl, rfl, rfl, rfl, rfl⟩, below_setRow hb6 (Nat.le_refl _) _⟩
end Go.Proofs.Ytpchebclhjgcmaa
