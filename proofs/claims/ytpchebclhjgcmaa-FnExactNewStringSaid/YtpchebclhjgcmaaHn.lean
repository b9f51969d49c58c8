/- New strings: the reference. Written by gennews.py. No condition. -/
import Derived.Test.YtpchebclhjgcmaaHm
import Derived.Test.YtpchebclhjgcmaaSr
namespace Go.Fl
open Go.RowKit
theorem wpRoad_heldD {P : Program} {ops : Array Oper} {Q : Exit → Act → World → Prop} {S : World → Prop} {i : Nat} {o : Oper} {v : Value} {l : Road} {a : Act} {w : World} (ho : ops[i]? = some o) {d : Tmp} (hd : o.dst = some d) (hy : YieldsIf P ops S o v a) (tm : Array Value) (ht : a.tmps.setIfInBounds d v = tm) (h : wpRoad P ops Q S l { tmps := tm, defers := a.defers } w) : wpRoad P ops Q S (.held i l) a w :=
  wpRoad_held ho hy (by unfold Act.put; rw [hd]; subst ht; exact h)
end Go.Fl
namespace Go.Proofs.Ytpchebclhjgcmaa
open Go.RowKit Go.Fl
theorem newOk_tests (p m l : Nat) : newOk p m l = (((ordC .f32 (cv .f32 p) (cv .f32 1077936128) == some .gt || ordC .f32 (cv .f32 p) (cv .f32 1077936128) == some .eq) && (ordC .f32 (cv .f32 p) (cv .f32 1149239296) == some .lt || ordC .f32 (cv .f32 p) (cv .f32 1149239296) == some .eq)) && (((ordC .f32 (cv .f32 m) (cv .f32 0) == some .gt || ordC .f32 (cv .f32 m) (cv .f32 0) == some .eq) && (ordC .f32 (cv .f32 m) (cv .f32 1056964608) == some .lt || ordC .f32 (cv .f32 m) (cv .f32 1056964608) == some .eq)) && ((ordC .f32 (cv .f32 l) (cv .f32 0) == some .gt || ordC .f32 (cv .f32 l) (cv .f32 0) == some .eq) && (ordC .f32 (cv .f32 l) (cv .f32 1065353216) == some .lt || ordC .f32 (cv .f32 l) (cv .f32 1065353216) == some .eq)))) := rfl
set_option maxRecDepth 20000 in
set_option maxHeartbeats 4000000 in
theorem c_sNewString_no (p m l : Nat) (w : World) (h : newOk p m l = false) :
    Calls Try.prog 17 #[.float .f32 p, .float .f32 m, .float .f32 l] w (NewPost p m l w) := by
  have q1 : Row (w.alloc (.cells (strC none 0 0 0 filZ filZ 0).toArray 37)) w.heap.size (strC none 0 0 0 filZ filZ 0).toArray 37 := Row.new _ _ _ _ rfl
  have hb := Go.Joins.below_alloc1 w (.cells (strC none 0 0 0 filZ filZ 0).toArray 37)
  have HN := Lib.hid (new_no h)
  unfold NewPost
  rw [newOk_tests] at h
  cases t0 : (ordC .f32 (cv .f32 p) (cv .f32 1077936128) == some .gt || ordC .f32 (cv .f32 p) (cv .f32 1077936128) == some .eq)
  · clear h
    go_enter Try.func17, Try.ntmps17
    go_wp2_with (refine wpList_store_own rfl 37 _ _ rfl rfl rfl hb (Nat.le_refl _) q1 info_str rfl rfl (fun w2 b2 h2 => ?_))
    exact bodyPost_ret (results_cells_tmp rfl _ _ _ rfl rfl h2 Try.underlying37 rfl info_str) rfl ⟨none, 0, 0, filZ, filZ, 0, 2, rfl, own_nil _ _ _, HN.out, b2⟩
  cases t1 : (ordC .f32 (cv .f32 p) (cv .f32 1149239296) == some .lt || ordC .f32 (cv .f32 p) (cv .f32 1149239296) == some .eq)
  · clear h
    go_enter Try.func17, Try.ntmps17
    go_wp2_with (refine wpList_store_own rfl 37 _ _ rfl rfl rfl hb (Nat.le_refl _) q1 info_str rfl rfl (fun w2 b2 h2 => ?_))
    exact bodyPost_ret (results_cells_tmp rfl _ _ _ rfl rfl h2 Try.underlying37 rfl info_str) rfl ⟨none, 0, 0, filZ, filZ, 0, 2, rfl, own_nil _ _ _, HN.out, b2⟩
  cases t2 : (ordC .f32 (cv .f32 m) (cv .f32 0) == some .gt || ordC .f32 (cv .f32 m) (cv .f32 0) == some .eq)
  · clear h
    go_enter Try.func17, Try.ntmps17
    go_wp2_with (refine wpList_store_own rfl 37 _ _ rfl rfl rfl hb (Nat.le_refl _) q1 info_str rfl rfl (fun w2 b2 h2 => ?_))
    exact bodyPost_ret (results_cells_tmp rfl _ _ _ rfl rfl h2 Try.underlying37 rfl info_str) rfl ⟨none, 0, 0, filZ, filZ, 0, 2, rfl, own_nil _ _ _, HN.out, b2⟩
  cases t3 : (ordC .f32 (cv .f32 m) (cv .f32 1056964608) == some .lt || ordC .f32 (cv .f32 m) (cv .f32 1056964608) == some .eq)
  · clear h
    go_enter Try.func17, Try.ntmps17
    go_wp2_with (refine wpList_store_own rfl 37 _ _ rfl rfl rfl hb (Nat.le_refl _) q1 info_str rfl rfl (fun w2 b2 h2 => ?_))
    exact bodyPost_ret (results_cells_tmp rfl _ _ _ rfl rfl h2 Try.underlying37 rfl info_str) rfl ⟨none, 0, 0, filZ, filZ, 0, 2, rfl, own_nil _ _ _, HN.out, b2⟩
  cases t4 : (ordC .f32 (cv .f32 l) (cv .f32 0) == some .gt || ordC .f32 (cv .f32 l) (cv .f32 0) == some .eq)
  · clear h
    go_enter Try.func17, Try.ntmps17
    go_wp2_with (refine wpList_store_own rfl 37 _ _ rfl rfl rfl hb (Nat.le_refl _) q1 info_str rfl rfl (fun w2 b2 h2 => ?_))
    exact bodyPost_ret (results_cells_tmp rfl _ _ _ rfl rfl h2 Try.underlying37 rfl info_str) rfl ⟨none, 0, 0, filZ, filZ, 0, 2, rfl, own_nil _ _ _, HN.out, b2⟩
  have t5 : (ordC .f32 (cv .f32 l) (cv .f32 1065353216) == some .lt || ordC .f32 (cv .f32 l) (cv .f32 1065353216) == some .eq) = false := by rw [t0, t1, t2, t3, t4] at h; simpa using h
  clear h
  go_enter Try.func17, Try.ntmps17
  go_wp2_with (refine wpList_store_own rfl 37 _ _ rfl rfl rfl hb (Nat.le_refl _) q1 info_str rfl rfl (fun w2 b2 h2 => ?_))
  exact bodyPost_ret (results_cells_tmp rfl _ _ _ rfl rfl h2 Try.underlying37 rfl info_str) rfl ⟨none, 0, 0, filZ, filZ, 0, 2, rfl, own_nil _ _ _, HN.out, b2⟩
set_option maxRecDepth 20000 in
set_option maxHeartbeats 8000000 in
theorem c_sNewString (p m l : Nat) (w : World) (h : newOk p m l = true) :
    Calls Try.prog 17 #[.float .f32 p, .float .f32 m, .float .f32 l] w (NewPost p m l w) := by
  have q1 : Row (w.alloc (.cells (strC none 0 0 0 filZ filZ 0).toArray 37)) w.heap.size (strC none 0 0 0 filZ filZ 0).toArray 37 := Row.new _ _ _ _ rfl
  have hb := Go.Joins.below_alloc1 w (.cells (strC none 0 0 0 filZ filZ 0).toArray 37)
  unfold NewPost
  have h' := h
  have ht := h
  unfold newOk at h
  rw [Bool.and_eq_true, Bool.and_eq_true] at h
  obtain ⟨v1, v2, v3⟩ := h
  rw [newOk_tests] at ht
  rw [Bool.and_eq_true, Bool.and_eq_true, Bool.and_eq_true, Bool.and_eq_true, Bool.and_eq_true] at ht
  obtain ⟨⟨t0, t1⟩, ⟨t2, t3⟩, ⟨t4, t5⟩⟩ := ht
  obtain ⟨x, k, hx, k1, k2, hf, hd, ex, ek, ⟨y0, hy0, hT⟩, ⟨y, hy, hY⟩⟩ := new_walk p m v1 v2
  have HY := Lib.hid hY; have H' := Lib.hid h'
  clear v1 v2 v3 h' hd hY ex
  have HN : newN p m = if newT p m = true then k - 1 else k := by unfold newN; rw [ek]; split <;> omega
  cases hv : (ordC .f32 (cv .f32 y0) (cv .f32 1048576000) == some .lt)
  · rw [hv] at hT
    rw [hT, if_neg (by simp)] at HN
    rw [HN] at hy
    have ey : y = y0 := (hy default).symm.trans (hy0 default)
    subst ey
    have HNN := Lib.hid HN; clear HN hT ek hy0
    have hmk := fun W => run_make_row' (P := Try.prog) 22 25 (.float .f32 0) 4 Try.underlying22 info_f32e rfl .i64 .i64 k (by omega) (by omega) W
    have HMK := Lib.hid hmk; clear hmk
    go_enter Try.func17, Try.ntmps17
    go_wp2_with fail
    refine (c_sAllpassFor _ _).mono ?_; rintro e w4 ⟨kI, cI, qI, rfl, HrI', b⟩; have HrI := Lib.hid HrI'; clear HrI'
    replace q1 := q1.belowD b; replace hb := seq_belowD hb b; clear b
    go_wp2_with (refine wpList_store_newest (cells := filt kI cI 0 0 0 0) rfl 35 _ _ rfl rfl rfl info_filter rfl rfl (fun w5 b4 hf5 => ?_); have LF := Lib.hid q1.lt; replace q1 := q1.below b4 q1.lt; replace hb := seq_below hb b4; clear b4)
    generalize w4.heap.size = gF at *
    have s0 := grownBy_below (row := some w.heap.size) ((Below.refl w5.heap.size w5).drew)
    have KF := Lib.hid (fun W (h : w5.grownBy W (some w.heap.size)) => hf5.grown h (fun e => by injection e with e; have := LF.out; omega))
    have LA5 := Lib.hid q1.lt
    clear hf5
    refine wp_region_road (S := fun w' => w5.grownBy w' (some w.heap.size)) (.held 0 (.held 3 (.held 4 (.held 6 (.two 1 5 (.held 2 (.one 5 (.held 7 (.one 8 (.held 9 .nil))))) (.one 1 (.held 2 (.held 7 (.one 8 (.held 9 .nil)))))))))) (by kernel_rfl) (by kernel_rfl) (by kernel_rfl) (fun _ _ d _ _ h => by cases d <;> exact h) s0 ?_
    refine wpRoad_heldD (v := .int .i64 (k : Nat)) rfl rfl (.inl ⟨rfl, fun w' hw => by go_simp⟩) _ (by simp only [List.setIfInBounds_toArray, List.set_cons_zero, List.set_cons_succ]; rfl) ?_
    refine wpRoad_heldD rfl rfl (yields_load_rowS rfl _ _ rfl _ rfl (fun W h => KF.out W h) Try.underlying35 rfl info_filter) _ (by simp only [List.setIfInBounds_toArray, List.set_cons_zero, List.set_cons_succ]; rfl) ?_
    refine wpRoad_heldD (v := .float .f32 m) rfl rfl (.inl ⟨rfl, fun w' hw => by go_simp⟩) _ (by simp only [List.setIfInBounds_toArray, List.set_cons_zero, List.set_cons_succ]; rfl) ?_
    refine wpRoad_heldD (v := .float .f32 l) rfl rfl (.inl ⟨rfl, fun w' hw => by go_simp⟩) _ (by simp only [List.setIfInBounds_toArray, List.set_cons_zero, List.set_cons_succ]; rfl) ?_
    have hZ : Blk (w5.alloc (.cells (madeCells #[.float .f32 0] k) 25)).drew w5.heap.size (List.replicate k 0) 25 := Blk.newRow w5 _ _ _ _ rfl (made_fl k)
    refine wpRoad_two rfl rfl rfl rfl (fun K hK => ?_) (fun K hK => ?_)
    · have hmk := HMK.out
      go_wp2_with fail
      have LA := LA5
      clear hmk
      have b0 : Below w5.heap.size w5 (w5.alloc (.cells (madeCells #[.float .f32 0] k) 25)).drew := (Go.Joins.below_alloc1 w5 _).drew
      have s1 : w5.grownBy (w5.alloc (.cells (madeCells #[.float .f32 0] k) 25)).drew (some w.heap.size) := grownBy_below b0
      have q5 := q1.below b0 q1.lt
      have hb5 := seq_below hb b0
      refine ⟨s1, ?_⟩
      refine wpRoad_heldD (v := .agg #[.slice (some ⟨w5.heap.size, 0, none⟩) k k, .int .i64 0]) rfl rfl (.inl ⟨rfl, fun w' hw => by go_simp⟩) _ (by simp only [List.setIfInBounds_toArray, List.set_cons_zero, List.set_cons_succ]; rfl) ?_
      refine wpRoad_one rfl rfl (fun K hK => ?_)
      go_wp2_with fail
      refine (c_sOneZero _ _).mono ?_; rintro e w6 ⟨cG, rfl, hG', b⟩; have HG := Lib.hid hG'; clear hG'
      have s6 : w5.grownBy w6 (some w.heap.size) := grownBy_trans s1 (grownBy_below b)
      refine hK _ _ ⟨s6, ?_⟩; clear hK
      have q6 := q5.below b q5.lt
      have hb6 := seq_below hb5 b
      have hA6 := hZ.below b hZ.lt
      clear b b0 s1 q5 hb5 hZ
      refine wpRoad_heldD (v := .agg (strC (some ⟨w5.heap.size, 0, none⟩) k k 0 (filA kI cI) (filM cG m) l).toArray) rfl rfl (.inl ⟨rfl, fun w' hw => by unfold filt; go_simp; rfl⟩) _ (by simp only [List.setIfInBounds_toArray, List.set_cons_zero, List.set_cons_succ]; rfl) ?_
      refine wpRoad_one rfl rfl (fun K hK => ?_)
      refine wp_store_part 37 _ _ rfl w.heap.size 0 rfl (strC (some ⟨w5.heap.size, 0, none⟩) k k 0 (filA kI cI) (filM cG m) l) rfl q6 info_str (Nat.le_of_ble_eq_true rfl) rfl ?_
      refine hK _ _ ⟨grownBy_trans s6 (grownBy_setRow _ _ _), ?_⟩; clear hK
      refine wpRoad_held rfl (yields_move rfl _ (.inr rfl)) ?_
      refine wpRoad_nil ?_
      clear s0 s6 KF
      go_wp2_with fail
      exact bodyPost_ret (results_cells_tmp (cs := (strC (some ⟨w5.heap.size, 0, none⟩) k k 0 (filA kI cI) (filM cG m) l).toArray) rfl _ _ _ rfl rfl (q6.row _) Try.underlying37 rfl info_str) rfl
        ⟨some ⟨w5.heap.size, 0, none⟩, k, k, filA kI cI, filM cG m, l, 0, rfl, own_of_blk_n (hA6.rowOther (Nat.ne_of_gt LA.out) _) List.length_replicate (Nat.le_of_lt LA.out) (by unfold maxLen; omega),
          .inl ⟨H'.out, HNN.out.symm, ⟨qI, by rw [← HY.out]; exact HrI.out⟩, rfl, rfl, rfl, rfl, rfl, HG.out, rfl, rfl, rfl, rfl, rfl, rfl⟩, below_setRow hb6 (Nat.le_refl _) _⟩
    · clear hZ
      go_wp2_with fail
      refine (c_sOneZero _ _).mono ?_; rintro e w6 ⟨cG, rfl, hG', b⟩; have HG := Lib.hid hG'; clear hG'
      have s5 : w5.grownBy w6 (some w.heap.size) := grownBy_trans s0 (grownBy_below b)
      have q5 := Row.below (w := w5.drew) q1 b q1.lt
      have hb5 := seq_below (hb.drew) b
      refine hK _ _ ⟨s5, ?_⟩; clear hK
      have hZ : Blk (w6.alloc (.cells (madeCells #[.float .f32 0] k) 25)) w6.heap.size (List.replicate k 0) 25 := Blk.newRow w6 _ _ _ _ rfl (made_fl k)
      refine wpRoad_one rfl rfl (fun K hK => ?_)
      have hmk := HMK.out
      go_wp2_with fail
      clear hmk
      have LA := Lib.hid q5.lt
      have b0 : Below w6.heap.size w6 (w6.alloc (.cells (madeCells #[.float .f32 0] k) 25)) := Go.Joins.below_alloc1 w6 _
      have s6 := grownBy_trans s5 (grownBy_below (row := some w.heap.size) b0)
      have q6 := q5.below b0 q5.lt
      have hb6 := seq_below hb5 b0
      have hA6 := hZ
      refine ⟨s6, ?_⟩
      clear b b0 s5 q5 hb5 hZ
      refine wpRoad_heldD (v := .agg #[.slice (some ⟨w6.heap.size, 0, none⟩) k k, .int .i64 0]) rfl rfl (.inl ⟨rfl, fun w' hw => by go_simp⟩) _ (by simp only [List.setIfInBounds_toArray, List.set_cons_zero, List.set_cons_succ]; rfl) ?_
      refine wpRoad_heldD (v := .agg (strC (some ⟨w6.heap.size, 0, none⟩) k k 0 (filA kI cI) (filM cG m) l).toArray) rfl rfl (.inl ⟨rfl, fun w' hw => by unfold filt; go_simp; rfl⟩) _ (by simp only [List.setIfInBounds_toArray, List.set_cons_zero, List.set_cons_succ]; rfl) ?_
      refine wpRoad_one rfl rfl (fun K hK => ?_)
      refine wp_store_part 37 _ _ rfl w.heap.size 0 rfl (strC (some ⟨w6.heap.size, 0, none⟩) k k 0 (filA kI cI) (filM cG m) l) rfl q6 info_str (Nat.le_of_ble_eq_true rfl) rfl ?_
      refine hK _ _ ⟨grownBy_trans s6 (grownBy_setRow _ _ _), ?_⟩; clear hK
      refine wpRoad_held rfl (yields_move rfl _ (.inr rfl)) ?_
      refine wpRoad_nil ?_
      clear s0 s6 KF
      go_wp2_with fail
      exact bodyPost_ret (results_cells_tmp (cs := (strC (some ⟨w6.heap.size, 0, none⟩) k k 0 (filA kI cI) (filM cG m) l).toArray) rfl _ _ _ rfl rfl (q6.row _) Try.underlying37 rfl info_str) rfl
        ⟨some ⟨w6.heap.size, 0, none⟩, k, k, filA kI cI, filM cG m, l, 0, rfl, own_of_blk_n (hA6.rowOther (Nat.ne_of_gt LA.out) _) List.length_replicate (Nat.le_of_lt LA.out) (by unfold maxLen; omega),
          .inl ⟨H'.out, HNN.out.symm, ⟨qI, by rw [← HY.out]; exact HrI.out⟩, rfl, rfl, rfl, rfl, rfl, HG.out, rfl, rfl, rfl, rfl, rfl, rfl⟩, below_setRow hb6 (Nat.le_refl _) _⟩
  · rw [hv] at hT
    rw [hT, if_pos rfl] at HN
    obtain ⟨N, hN⟩ : ∃ N : Nat, k = N + 1 := ⟨k - 1, by omega⟩
    have eN : newN p m = N := by rw [HN]; omega
    have e3 : (k : Int) - 1 = (N : Int) := by omega
    rw [eN] at hy
    have HNN := Lib.hid eN; clear HN hT ek eN
    have N1 : 1 ≤ N := by omega
    have N2 : N ≤ 1024 := by omega
    clear hN
    have hmk := fun W => run_make_row' (P := Try.prog) 22 25 (.float .f32 0) 4 Try.underlying22 info_f32e rfl .i64 .i64 N (by omega) (by omega) W
    have HMK := Lib.hid hmk; clear hmk
    go_enter Try.func17, Try.ntmps17
    go_wp2_with fail
    refine (c_sAllpassFor _ _).mono ?_; rintro e w4 ⟨kI, cI, qI, rfl, HrI', b⟩; have HrI := Lib.hid HrI'; clear HrI'
    replace q1 := q1.belowD b; replace hb := seq_belowD hb b; clear b
    go_wp2_with (refine wpList_store_newest (cells := filt kI cI 0 0 0 0) rfl 35 _ _ rfl rfl rfl info_filter rfl rfl (fun w5 b4 hf5 => ?_); have LF := Lib.hid q1.lt; replace q1 := q1.below b4 q1.lt; replace hb := seq_below hb b4; clear b4)
    generalize w4.heap.size = gF at *
    have s0 := grownBy_below (row := some w.heap.size) ((Below.refl w5.heap.size w5).drew)
    have KF := Lib.hid (fun W (h : w5.grownBy W (some w.heap.size)) => hf5.grown h (fun e => by injection e with e; have := LF.out; omega))
    have LA5 := Lib.hid q1.lt
    clear hf5
    refine wp_region_road (S := fun w' => w5.grownBy w' (some w.heap.size)) (.held 0 (.held 3 (.held 4 (.held 6 (.two 1 5 (.held 2 (.one 5 (.held 7 (.one 8 (.held 9 .nil))))) (.one 1 (.held 2 (.held 7 (.one 8 (.held 9 .nil)))))))))) (by kernel_rfl) (by kernel_rfl) (by kernel_rfl) (fun _ _ d _ _ h => by cases d <;> exact h) s0 ?_
    refine wpRoad_heldD (v := .int .i64 (N : Nat)) rfl rfl (.inl ⟨rfl, fun w' hw => by go_simp⟩) _ (by simp only [List.setIfInBounds_toArray, List.set_cons_zero, List.set_cons_succ]; rfl) ?_
    refine wpRoad_heldD rfl rfl (yields_load_rowS rfl _ _ rfl _ rfl (fun W h => KF.out W h) Try.underlying35 rfl info_filter) _ (by simp only [List.setIfInBounds_toArray, List.set_cons_zero, List.set_cons_succ]; rfl) ?_
    refine wpRoad_heldD (v := .float .f32 m) rfl rfl (.inl ⟨rfl, fun w' hw => by go_simp⟩) _ (by simp only [List.setIfInBounds_toArray, List.set_cons_zero, List.set_cons_succ]; rfl) ?_
    refine wpRoad_heldD (v := .float .f32 l) rfl rfl (.inl ⟨rfl, fun w' hw => by go_simp⟩) _ (by simp only [List.setIfInBounds_toArray, List.set_cons_zero, List.set_cons_succ]; rfl) ?_
    have hZ : Blk (w5.alloc (.cells (madeCells #[.float .f32 0] N) 25)).drew w5.heap.size (List.replicate N 0) 25 := Blk.newRow w5 _ _ _ _ rfl (made_fl N)
    refine wpRoad_two rfl rfl rfl rfl (fun K hK => ?_) (fun K hK => ?_)
    · have hmk := HMK.out
      go_wp2_with fail
      have LA := LA5
      clear hmk
      have b0 : Below w5.heap.size w5 (w5.alloc (.cells (madeCells #[.float .f32 0] N) 25)).drew := (Go.Joins.below_alloc1 w5 _).drew
      have s1 : w5.grownBy (w5.alloc (.cells (madeCells #[.float .f32 0] N) 25)).drew (some w.heap.size) := grownBy_below b0
      have q5 := q1.below b0 q1.lt
      have hb5 := seq_below hb b0
      refine ⟨s1, ?_⟩
      refine wpRoad_heldD (v := .agg #[.slice (some ⟨w5.heap.size, 0, none⟩) N N, .int .i64 0]) rfl rfl (.inl ⟨rfl, fun w' hw => by go_simp⟩) _ (by simp only [List.setIfInBounds_toArray, List.set_cons_zero, List.set_cons_succ]; rfl) ?_
      refine wpRoad_one rfl rfl (fun K hK => ?_)
      go_wp2_with fail
      refine (c_sOneZero _ _).mono ?_; rintro e w6 ⟨cG, rfl, hG', b⟩; have HG := Lib.hid hG'; clear hG'
      have s6 : w5.grownBy w6 (some w.heap.size) := grownBy_trans s1 (grownBy_below b)
      refine hK _ _ ⟨s6, ?_⟩; clear hK
      have q6 := q5.below b q5.lt
      have hb6 := seq_below hb5 b
      have hA6 := hZ.below b hZ.lt
      clear b b0 s1 q5 hb5 hZ
      refine wpRoad_heldD (v := .agg (strC (some ⟨w5.heap.size, 0, none⟩) N N 0 (filA kI cI) (filM cG m) l).toArray) rfl rfl (.inl ⟨rfl, fun w' hw => by unfold filt; go_simp; rfl⟩) _ (by simp only [List.setIfInBounds_toArray, List.set_cons_zero, List.set_cons_succ]; rfl) ?_
      refine wpRoad_one rfl rfl (fun K hK => ?_)
      refine wp_store_part 37 _ _ rfl w.heap.size 0 rfl (strC (some ⟨w5.heap.size, 0, none⟩) N N 0 (filA kI cI) (filM cG m) l) rfl q6 info_str (Nat.le_of_ble_eq_true rfl) rfl ?_
      refine hK _ _ ⟨grownBy_trans s6 (grownBy_setRow _ _ _), ?_⟩; clear hK
      refine wpRoad_held rfl (yields_move rfl _ (.inr rfl)) ?_
      refine wpRoad_nil ?_
      clear s0 s6 KF
      go_wp2_with fail
      exact bodyPost_ret (results_cells_tmp (cs := (strC (some ⟨w5.heap.size, 0, none⟩) N N 0 (filA kI cI) (filM cG m) l).toArray) rfl _ _ _ rfl rfl (q6.row _) Try.underlying37 rfl info_str) rfl
        ⟨some ⟨w5.heap.size, 0, none⟩, N, N, filA kI cI, filM cG m, l, 0, rfl, own_of_blk_n (hA6.rowOther (Nat.ne_of_gt LA.out) _) List.length_replicate (Nat.le_of_lt LA.out) (by unfold maxLen; omega),
          .inl ⟨H'.out, HNN.out.symm, ⟨qI, by rw [← HY.out]; exact HrI.out⟩, rfl, rfl, rfl, rfl, rfl, HG.out, rfl, rfl, rfl, rfl, rfl, rfl⟩, below_setRow hb6 (Nat.le_refl _) _⟩
    · clear hZ
      go_wp2_with fail
      refine (c_sOneZero _ _).mono ?_; rintro e w6 ⟨cG, rfl, hG', b⟩; have HG := Lib.hid hG'; clear hG'
      have s5 : w5.grownBy w6 (some w.heap.size) := grownBy_trans s0 (grownBy_below b)
      have q5 := Row.below (w := w5.drew) q1 b q1.lt
      have hb5 := seq_below (hb.drew) b
      refine hK _ _ ⟨s5, ?_⟩; clear hK
      have hZ : Blk (w6.alloc (.cells (madeCells #[.float .f32 0] N) 25)) w6.heap.size (List.replicate N 0) 25 := Blk.newRow w6 _ _ _ _ rfl (made_fl N)
      refine wpRoad_one rfl rfl (fun K hK => ?_)
      have hmk := HMK.out
      go_wp2_with fail
      clear hmk
      have LA := Lib.hid q5.lt
      have b0 : Below w6.heap.size w6 (w6.alloc (.cells (madeCells #[.float .f32 0] N) 25)) := Go.Joins.below_alloc1 w6 _
      have s6 := grownBy_trans s5 (grownBy_below (row := some w.heap.size) b0)
      have q6 := q5.below b0 q5.lt
      have hb6 := seq_below hb5 b0
      have hA6 := hZ
      refine ⟨s6, ?_⟩
      clear b b0 s5 q5 hb5 hZ
      refine wpRoad_heldD (v := .agg #[.slice (some ⟨w6.heap.size, 0, none⟩) N N, .int .i64 0]) rfl rfl (.inl ⟨rfl, fun w' hw => by go_simp⟩) _ (by simp only [List.setIfInBounds_toArray, List.set_cons_zero, List.set_cons_succ]; rfl) ?_
      refine wpRoad_heldD (v := .agg (strC (some ⟨w6.heap.size, 0, none⟩) N N 0 (filA kI cI) (filM cG m) l).toArray) rfl rfl (.inl ⟨rfl, fun w' hw => by unfold filt; go_simp; rfl⟩) _ (by simp only [List.setIfInBounds_toArray, List.set_cons_zero, List.set_cons_succ]; rfl) ?_
      refine wpRoad_one rfl rfl (fun K hK => ?_)
      refine wp_store_part 37 _ _ rfl w.heap.size 0 rfl (strC (some ⟨w6.heap.size, 0, none⟩) N N 0 (filA kI cI) (filM cG m) l) rfl q6 info_str (Nat.le_of_ble_eq_true rfl) rfl ?_
      refine hK _ _ ⟨grownBy_trans s6 (grownBy_setRow _ _ _), ?_⟩; clear hK
      refine wpRoad_held rfl (yields_move rfl _ (.inr rfl)) ?_
      refine wpRoad_nil ?_
      clear s0 s6 KF
      go_wp2_with fail
      exact bodyPost_ret (results_cells_tmp (cs := (strC (some ⟨w6.heap.size, 0, none⟩) N N 0 (filA kI cI) (filM cG m) l).toArray) rfl _ _ _ rfl rfl (q6.row _) Try.underlying37 rfl info_str) rfl
        ⟨some ⟨w6.heap.size, 0, none⟩, N, N, filA kI cI, filM cG m, l, 0, rfl, own_of_blk_n (hA6.rowOther (Nat.ne_of_gt LA.out) _) List.length_replicate (Nat.le_of_lt LA.out) (by unfold maxLen; omega),
          .inl ⟨H'.out, HNN.out.symm, ⟨qI, by rw [← HY.out]; exact HrI.out⟩, rfl, rfl, rfl, rfl, rfl, HG.out, rfl, rfl, rfl, rfl, rfl, rfl⟩, below_setRow hb6 (Nat.le_refl _) _⟩
end Go.Proofs.Ytpchebclhjgcmaa
