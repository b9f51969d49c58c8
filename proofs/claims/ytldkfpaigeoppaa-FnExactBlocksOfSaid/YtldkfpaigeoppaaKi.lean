/- BlocksOf, in the reference. No condition. -/
import Derived.Test.YtldkfpaigeoppaaKh
import Derived.Test.YtldkfpaigeoppaaSo
namespace Go.Proofs.Ytldkfpaigeoppaa
open Go.RowKit Go.Fl
/-- What both BlocksOf hand back: the blocks (none where there are too many samples), the code. -/
def BkRel (xs : List Nat) (m : Nat) (ys : List Nat) (q : Int) : Prop := (xs.length ≤ 4096 ∧ m = (xs.length + 15) / 16 ∧ ys = padB xs xs.length ∧ q = 0) ∨ (4096 < xs.length ∧ m = 0 ∧ ys = [] ∧ q = 3)
theorem BkRel.same {xs ys zs : List Nat} {m n : Nat} {q r : Int} (h : BkRel xs m ys q) (k : BkRel xs n zs r) : m = n ∧ ys = zs ∧ q = r := by
  rcases h with ⟨h1, rfl, rfl, rfl⟩ | ⟨h1, rfl, rfl, rfl⟩ <;> rcases k with ⟨k1, rfl, rfl, rfl⟩ | ⟨k1, rfl, rfl, rfl⟩
  · exact ⟨rfl, rfl, rfl⟩
  · omega
  · omega
  · exact ⟨rfl, rfl, rfl⟩
theorem BkRel.len {xs ys : List Nat} {m : Nat} {q : Int} (h : BkRel xs m ys q) : ys.length = 16 * m ∧ m ≤ 1048576 := by
  rcases h with ⟨h1, rfl, rfl, rfl⟩ | ⟨h1, rfl, rfl, rfl⟩
  · exact ⟨padB_length (Nat.le_refl _), by omega⟩
  · exact ⟨rfl, by omega⟩
theorem wrapS (p : Nat) (h : (p : Int) ≤ 100000) : IntKind.wrap .i64 (p : Int) = (p : Int) := by
  unfold IntKind.wrap
  simp only [IntKind.bits, IntKind.signed, Bool.true_and]
  split
  · rename_i h2
    have h3 := of_decide_eq_true h2
    omega
  · omega
def BkPost (xs : List Nat) (w : World) (e : Ending) (w' : World) : Prop := ∃ (A : Option Addr) (c m : Nat) (ys : List Nat) (q : Int), e = .returned (.tuple #[.slice A m c, .int .i64 q]) ∧ BO w' w.heap.size A m ys ∧ BkRel xs m ys q ∧ Below w.heap.size w w'
theorem info_blkf : (Try.prog.info? 41).map (fun i => (i.zero, i.size, i.bytes)) = some (some (.agg (fl (List.replicate 16 0))), 16, 64) := by kernel_rfl
theorem ownR_empty (w : World) (t : TypeId) (size : Nat) : OwnR (w.alloc (.cells #[] t)) w.heap.size (some ⟨w.heap.size, 0, none⟩) 0 0 [] t size :=
  ⟨by simp, .inr ⟨w.heap.size, 0, #[], rfl, Nat.le_refl _, heap_alloc_new w _, Nat.le_refl _, Nat.zero_le _, by simp, by simp⟩⟩
theorem blk_cell {w : World} {g k j : Nat} {xs : List Nat} {r : List Value} {t : TypeId} (h : w.heap[g]? = some (.cells (fll xs ++ r).toArray t)) (e : j = k) (hk : k < xs.length) : w.cell? ⟨g, j, none⟩ = some (.float .f32 (nth xs k)) := by
  subst e
  exact PreR.cell (w := w) (g := g) (xs := xs) (r := r) (t := t) h j hk
/-- A sample written into the row of blocks. -/
theorem ownR_setF {w : World} {base g c n : Nat} {xs : List Nat} {t : TypeId} (h : OwnR w base (some ⟨g, 0, none⟩) c n (fll xs) t 16) (k x : Nat) (_ : k < xs.length) : OwnR (w.setCell ⟨g, k, none⟩ (.float .f32 x)) base (some ⟨g, 0, none⟩) c n (fll (xs.set k x)) t 16 := by
  obtain ⟨h1, h2⟩ := h
  refine ⟨by rw [fll_len, List.length_set, ← fll_len]; exact h1, ?_⟩
  rcases h2 with ⟨e, _⟩ | ⟨g', cap, cur, e, hb, hg, hn, hc, hs, htk⟩
  · cases e
  · injection e with e e2 e3
    cases e; cases e3
    have hcl : (fll xs).length ≤ cur.toList.length := by rw [← htk, List.length_take]; omega
    rw [fll_len] at hcl
    refine .inr ⟨g, c, cur.setIfInBounds k (.float .f32 x), rfl, hb, ?_, hn, hc, by simpa using hs, ?_⟩
    · rw [Go.Joins.block_setCell hg]
    · rw [Array.toList_setIfInBounds, List.take_set, htk]
      unfold fll
      rw [List.map_set]
set_option maxRecDepth 20000 in
set_option maxHeartbeats 4000000 in
theorem c_sBlocksOf (A : Option Addr) (c : Nat) (xs : List Nat) (w : World) (hs : Sl w A xs) (hl : xs.length ≤ 1048576) :
    Calls Try.prog 9 #[.slice A xs.length c] w (BkPost xs w) := by
  generalize hn : xs.length = n at *
  have HN := Lib.hid hn; have HS := Lib.hid hs; have HL := Lib.hid hl; clear hn hs hl
  have hn0 : (0 : Int) ≤ n := by omega
  have hn1 : (n : Int) ≤ 1048576 := by have := HL.out; omega
  by_cases hbig : (4096 : Int) < n
  · have HR : Hid (BkRel xs 0 [] 3) := Lib.hid (.inr ⟨by have := HN.out; omega, rfl, rfl, rfl⟩)
    have hb := Go.Joins.below_alloc1 w (.cells #[] 41)
    go_enter Try.func9, Try.ntmps9
    go_wp2
    go_ret2
    exact ⟨_, _, 0, [], 3, rfl, ⟨rfl, .inl rfl⟩, HR.out, hb⟩
  have HR : Hid (BkRel xs ((n + 15) / 16) (padB xs n) 0) := Lib.hid (.inl ⟨by have := HN.out; omega, by rw [HN.out], by rw [HN.out], rfl⟩)
  go_enter Try.func9, Try.ntmps9
  go_wp2
  go_loopw [4, 5] (fun v i wr => ∃ (k : Nat) (B : Option Addr) (d : Nat), k ≤ n ∧ i = .int .i64 k ∧ v = .slice B ((k + 15) / 16) d ∧ Hid (OwnR wr w.heap.size B d ((k + 15) / 16) (fll (padB xs k)) 41 16) ∧ Hid (Below w.heap.size w wr)) (fun _ i _ => n - (intOf i).toNat)
  case atStart => exact ⟨0, some ⟨w.heap.size, 0, none⟩, 0, by omega, rfl, rfl, by rw [padB_zero]; exact ownR_empty _ _ _, Go.Joins.below_alloc1 _ _⟩
  case round =>
    obtain ⟨k, B, d, hk, rfl, rfl, HO, HB⟩ := hrel
    have hk0 : (0 : Int) ≤ k := by omega
    by_cases hlt : k < n
    · have hkx : k < xs.length := by rw [HN.out]; exact hlt
      obtain ⟨ad, rfl, hbl, c1⟩ := (HS.out.below HB.out).at_ (k := k) hkx
      have hi2 : (k : Int) < n := by omega
      have e1 : (k : Int) / 16 = ((k / 16 : Nat) : Int) := by omega
      have d1 : (k : Int).tdiv 16 = ((k / 16 : Nat) : Int) := by rw [Int.tdiv_eq_ediv_of_nonneg hk0]; exact e1
      have d5 : (0 : Int) ≤ ((k / 16 : Nat) : Int) := by omega
      have HSZ := Lib.hid HB.out.size
      have HC1 := Lib.hid (fun W (hb : Below w.heap.size w W) => show W.cell? (ad.add k) = some (.float .f32 (nth xs k)) from by
        obtain ⟨ad2, e2, _, hc⟩ := (HS.out.below hb).at_ (k := k) hkx
        cases e2; exact hc)
      by_cases h16 : k % 16 = 0
      · have HPN := Lib.hid (padB_new hkx h16)
        have e2 : (k : Int) % 16 = 0 := by omega
        have d2 : (k : Int).tmod 16 = 0 := by rw [Int.tmod_eq_emod_of_nonneg hk0]; exact e2
        have hm : (k + 1 + 15) / 16 = k / 16 + 1 := by omega
        have hm0 : (k + 15) / 16 = k / 16 := by omega
        have hpk : k / 16 * 16 = k := by omega
        have HPL := Lib.hid (padB_length (xs := xs) (i := k) (by omega))
        rw [hm0] at HO HPL
        have HMM := Lib.hid hm; have HPK := Lib.hid hpk
        have hp1 : ((k / 16 : Nat) : Int) < ((k / 16 + 1 : Nat) : Int) := by omega
        have hp2 : ((k / 16 : Nat) : Int) ≤ 65536 := by omega
        have HP8 : Hid (k / 16 ≤ 8388608) := Lib.hid (by omega)
        have WP := Lib.hid (wrapS (k / 16) (by omega))
        clear c1 h16 hm hpk
        rw [hm0]
        clear hm0
        generalize k / 16 = p at *
        go_wp2_with (at_builtin; refine wpList_append_oneR rfl _ _ 23 rfl w.heap.size 41 (.agg (fl (List.replicate 16 0))) 16 64 Try.underlying23 info_blkf rfl (by decide) rfl HO.out (fll (List.replicate 16 0)) rfl (fll_one _) rfl HP8.out (by decide) HSZ.out ?_; intro A2 c2 w2 ho2 hg2 hA2; obtain ⟨g2, rfl, hgb, hgl⟩ := ho2.head (Nat.succ_pos _); have HO2 := Lib.hid ho2; have HB2 := Lib.hid (HB.out.grown hg2 HSZ.out HO.out.ge); clear ho2 hg2 hA2; have c1 := HC1.out _ HB2.out; obtain ⟨r2, hr2⟩ := HO2.out.blk; have c3 : w2.cell? ⟨g2, p * 16, none⟩ = some (.float .f32 (nth (padB xs k ++ List.replicate 16 0) k)) := blk_cell (by rw [fll_append]; exact hr2) HPK.out (by rw [List.length_append, HPL.out, List.length_replicate]; have := HPK.out; omega); have f3 := Go.Joins.unfrozen_of_block hr2 (p * 16); have HGB := Lib.hid hgb; clear hgb hgl hr2)
        have z0 := (Below.refl w.heap.size w2).drew
        refine wp_region_seq (S := fun w' => Below w.heap.size w2 w') [(true, 0), (true, 1), (true, 2), (true, 3), (true, 4), (true, 5), (true, 6), (true, 7), (true, 8), (true, 9), (true, 10), (false, 11)] (by kernel_rfl) (by kernel_rfl) (by kernel_rfl) (fun _ _ d _ _ h => by cases d <;> exact h) z0 ?_
        refine wpSeq_heldE (v := .slice (some ⟨g2, 0, none⟩) (p + 1) c2) rfl rfl (.inl ⟨rfl, fun w' hw => by go_simp⟩) _ (by simp only [List.setIfInBounds_toArray, List.set_cons_zero, List.set_cons_succ]; rfl) ?_
        refine wpSeq_heldE (v := .int .i64 (k : Int)) rfl rfl (.inl ⟨rfl, fun w' hw => by go_simp⟩) _ (by simp only [List.setIfInBounds_toArray, List.set_cons_zero, List.set_cons_succ]; rfl) ?_
        refine wpSeq_heldE (v := .int .i64 (p : Int)) rfl rfl (.inl ⟨rfl, fun w' hw => by have k := WP.out; go_simp⟩) _ (by simp only [List.setIfInBounds_toArray, List.set_cons_zero, List.set_cons_succ]; rfl) ?_
        refine wpSeq_heldE (v := .int .i64 (k : Int)) rfl rfl (.inl ⟨rfl, fun w' hw => by go_simp⟩) _ (by simp only [List.setIfInBounds_toArray, List.set_cons_zero, List.set_cons_succ]; rfl) ?_
        refine wpSeq_heldE (v := .int .i64 0) rfl rfl (.inl ⟨rfl, fun w' hw => by go_simp⟩) _ (by simp only [List.setIfInBounds_toArray, List.set_cons_zero, List.set_cons_succ]; rfl) ?_
        refine wpSeq_heldE (v := .slice (some ad) n c) rfl rfl (.inl ⟨rfl, fun w' hw => by go_simp⟩) _ (by simp only [List.setIfInBounds_toArray, List.set_cons_zero, List.set_cons_succ]; rfl) ?_
        refine wpSeq_heldE (v := .int .i64 (k : Int)) rfl rfl (.inl ⟨rfl, fun w' hw => by go_simp⟩) _ (by simp only [List.setIfInBounds_toArray, List.set_cons_zero, List.set_cons_succ]; rfl) ?_
        refine wpSeq_heldE (v := .pointer (some (ad.add k))) rfl rfl (.inl ⟨rfl, fun w' hw => by go_simp⟩) _ (by simp only [List.setIfInBounds_toArray, List.set_cons_zero, List.set_cons_succ]; rfl) ?_
        refine wpSeq_heldE (v := .float .f32 (nth xs k)) rfl rfl (.inl ⟨rfl, fun w' hw => by have k := HC1.out w' (HB2.out.trans hw); go_simp⟩) _ (by simp only [List.setIfInBounds_toArray, List.set_cons_zero, List.set_cons_succ]; rfl) ?_
        refine wpSeq_heldE (v := .pointer (some ⟨g2, p * 16, none⟩)) rfl rfl (.inl ⟨rfl, fun w' hw => by have k := (show ¬ ((p : Int) + 1 ≤ (p : Int)) from by omega); go_simp⟩) _ (by simp only [List.setIfInBounds_toArray, List.set_cons_zero, List.set_cons_succ]; rfl) ?_
        refine wpSeq_heldE (v := .pointer (some ⟨g2, p * 16, none⟩)) rfl rfl (.inl ⟨rfl, fun w' hw => by go_simp⟩) _ (by simp only [List.setIfInBounds_toArray, List.set_cons_zero, List.set_cons_succ]; rfl) ?_
        refine wpSeq_step rfl rfl (fun K hK => ?_)
        have c4 : w2.drew.cell? ⟨g2, p * 16, none⟩ = some (.float .f32 (nth (padB xs k ++ List.replicate 16 0) k)) := c3
        have f4 : w2.drew.frozen? ⟨g2, p * 16, none⟩ = false := f3
        go_wp2_with fail
        refine ⟨below_setCell z0 HGB.out _, ?_⟩
        refine wpSeq_nil ?_
        go_wp2_with fail
        go_roundw
        case rel =>
          refine ⟨k + 1, some ⟨g2, 0, none⟩, c2, by omega, by go_num, by rw [HMM.out], ?_, (below_setCell HB2.out HGB.out _).drew⟩
          rw [HMM.out, ← HPN.out, HPK.out]
          have h2 := HO2.out
          rw [← fll_append] at h2
          exact ownR_setF h2 k _ (by rw [List.length_append, HPL.out, List.length_replicate]; have := HPK.out; omega)
        case measure => simp [intOf]; omega
      · have HPN := Lib.hid (padB_old hkx h16)
        have e2 : (k : Int) % 16 = ((k % 16 : Nat) : Int) := by omega
        have d2 : (k : Int).tmod 16 = ((k % 16 : Nat) : Int) := by rw [Int.tmod_eq_emod_of_nonneg hk0]; exact e2
        have hm : (k + 1 + 15) / 16 = (k + 15) / 16 := by omega
        have hq1 : ((k % 16 : Nat) : Int) < 16 := by omega
        have hq0 : (0 : Int) ≤ ((k % 16 : Nat) : Int) := by omega
        have hqz : ¬ ((k % 16 : Nat) : Int) = 0 := by omega
        have hp1 : ((k / 16 : Nat) : Int) < (((k + 15) / 16 : Nat) : Int) := by omega
        have hp2 : (((k + 15) / 16 : Nat) : Int) ≤ 65537 := by omega
        obtain ⟨g, rfl, hgb, hgl⟩ := HO.out.head (by omega)
        obtain ⟨r2, hr2⟩ := HO.out.blk
        have hpk : k / 16 * 16 + k % 16 = k := by omega
        have hkl : k < (padB xs k).length := by rw [padB_length (by omega)]; omega
        have c3 : wr.cell? ⟨g, k / 16 * 16 + k % 16, none⟩ = some (.float .f32 (nth (padB xs k) k)) := blk_cell hr2 hpk hkl
        have f3 := Go.Joins.unfrozen_of_block hr2 (k / 16 * 16 + k % 16)
        have HGB := Lib.hid hgb; have HMM := Lib.hid hm; have HPK := Lib.hid hpk; have HKL := Lib.hid hkl
        have WP := Lib.hid (wrapS (k / 16) (by omega))
        clear hgb hr2 hm hpk hkl h16
        generalize k / 16 = p at *
        generalize k % 16 = q at *
        generalize (k + 15) / 16 = M at *
        go_wp2
        have z0 := (Below.refl w.heap.size wr).drew
        refine wp_region_seq (S := fun w' => Below w.heap.size wr w') [(true, 0), (true, 1), (true, 2), (true, 3), (true, 4), (true, 5), (true, 6), (true, 7), (true, 8), (true, 9), (true, 10), (false, 11)] (by kernel_rfl) (by kernel_rfl) (by kernel_rfl) (fun _ _ d _ _ h => by cases d <;> exact h) z0 ?_
        refine wpSeq_heldE (v := .slice (some ⟨g, 0, none⟩) (M) d) rfl rfl (.inl ⟨rfl, fun w' hw => by go_simp⟩) _ (by simp only [List.setIfInBounds_toArray, List.set_cons_zero, List.set_cons_succ]; rfl) ?_
        refine wpSeq_heldE (v := .int .i64 (k : Int)) rfl rfl (.inl ⟨rfl, fun w' hw => by go_simp⟩) _ (by simp only [List.setIfInBounds_toArray, List.set_cons_zero, List.set_cons_succ]; rfl) ?_
        refine wpSeq_heldE (v := .int .i64 (p : Int)) rfl rfl (.inl ⟨rfl, fun w' hw => by have k := WP.out; go_simp⟩) _ (by simp only [List.setIfInBounds_toArray, List.set_cons_zero, List.set_cons_succ]; rfl) ?_
        refine wpSeq_heldE (v := .int .i64 (k : Int)) rfl rfl (.inl ⟨rfl, fun w' hw => by go_simp⟩) _ (by simp only [List.setIfInBounds_toArray, List.set_cons_zero, List.set_cons_succ]; rfl) ?_
        refine wpSeq_heldE (v := .int .i64 (q : Int)) rfl rfl (.inl ⟨rfl, fun w' hw => by go_simp⟩) _ (by simp only [List.setIfInBounds_toArray, List.set_cons_zero, List.set_cons_succ]; rfl) ?_
        refine wpSeq_heldE (v := .slice (some ad) n c) rfl rfl (.inl ⟨rfl, fun w' hw => by go_simp⟩) _ (by simp only [List.setIfInBounds_toArray, List.set_cons_zero, List.set_cons_succ]; rfl) ?_
        refine wpSeq_heldE (v := .int .i64 (k : Int)) rfl rfl (.inl ⟨rfl, fun w' hw => by go_simp⟩) _ (by simp only [List.setIfInBounds_toArray, List.set_cons_zero, List.set_cons_succ]; rfl) ?_
        refine wpSeq_heldE (v := .pointer (some (ad.add k))) rfl rfl (.inl ⟨rfl, fun w' hw => by go_simp⟩) _ (by simp only [List.setIfInBounds_toArray, List.set_cons_zero, List.set_cons_succ]; rfl) ?_
        refine wpSeq_heldE (v := .float .f32 (nth xs k)) rfl rfl (.inl ⟨rfl, fun w' hw => by have k := HC1.out w' (HB.out.trans hw); go_simp⟩) _ (by simp only [List.setIfInBounds_toArray, List.set_cons_zero, List.set_cons_succ]; rfl) ?_
        refine wpSeq_heldE (v := .pointer (some ⟨g, p * 16, none⟩)) rfl rfl (.inl ⟨rfl, fun w' hw => by go_simp⟩) _ (by simp only [List.setIfInBounds_toArray, List.set_cons_zero, List.set_cons_succ]; rfl) ?_
        refine wpSeq_heldE (v := .pointer (some ⟨g, p * 16 + q, none⟩)) rfl rfl (.inl ⟨rfl, fun w' hw => by go_simp⟩) _ (by simp only [List.setIfInBounds_toArray, List.set_cons_zero, List.set_cons_succ]; rfl) ?_
        refine wpSeq_step rfl rfl (fun K hK => ?_)
        have c4 : wr.drew.cell? ⟨g, p * 16 + q, none⟩ = some (.float .f32 (nth (padB xs k) k)) := c3
        have f4 : wr.drew.frozen? ⟨g, p * 16 + q, none⟩ = false := f3
        go_wp2_with fail
        refine ⟨below_setCell z0 HGB.out _, ?_⟩
        refine wpSeq_nil ?_
        go_wp2_with fail
        go_roundw
        case rel =>
          refine ⟨k + 1, some ⟨g, 0, none⟩, d, by omega, by go_num, by rw [HMM.out], ?_, (below_setCell HB.out HGB.out _).drew⟩
          rw [HMM.out, ← HPN.out, HPK.out]
          exact ownR_setF HO.out k _ HKL.out
        case measure => simp [intOf]; omega
    · have e : k = n := by omega
      subst e
      have HO2 := Lib.hid (BO.of HO.out (padB_length (by rw [HN.out]; exact Nat.le_refl _)))
      go_wp2
      go_ret2
      exact ⟨_, _, _, _, 0, rfl, HO2.out, HR.out, HB.out⟩
end Go.Proofs.Ytldkfpaigeoppaa
