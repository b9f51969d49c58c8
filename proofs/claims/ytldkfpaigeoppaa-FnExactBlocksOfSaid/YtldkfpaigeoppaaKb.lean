/- Slices of blocks: copied and compared. No condition. -/
import Derived.Test.YtldkfpaigeoppaaKa
import Derived.Test.YtldkfpaigeoppaaC5
namespace Go.Proofs.Ytldkfpaigeoppaa
open Go.RowKit Go.Fl
theorem info_blke : (Try.prog.info? 41).map (fun i => (i.zero, i.size, i.bytes)) = some (some (.agg (fl (List.replicate 16 0))), 16, 64) := by kernel_rfl
set_option maxRecDepth 20000 in
theorem c_toBlockS (A : Option Addr) (c n : Nat) (xs : List Nat) (w : World) (hs : Sl w A xs) (hx : xs.length = 16 * n) (hl : n ≤ 1048576) :
    Calls Try.prog 19 #[.slice A n c] w fun e w' => ∃ g, e = .returned (.slice (some ⟨g, 0, none⟩) n n) ∧ Blk w' g xs 41 ∧ w.heap.size ≤ g ∧ Below w.heap.size w w' := by
  have hmk := fun W => run_make_blocks (P := Try.prog) 23 41 64 Try.underlying23 info_blke n (by omega) (by omega) W
  have HS := Lib.hid hs; have HX := Lib.hid hx; clear hs hx
  go_enter Try.func19, Try.ntmps19
  go_wp2
  go_loopw [4] (fun i wr => ∃ k : Nat, k ≤ n ∧ i = .int .i64 k ∧ Below w.heap.size w wr ∧ Blk wr w.heap.size (mix xs (List.replicate (n * 16) 0) (16 * k)) 41) (fun i _ => n - (intOf i).toNat)
  case atStart => exact ⟨0, by omega, rfl, Go.Joins.below_alloc1 _ _, by rw [mix_zero]; exact Blk.newRow _ _ _ _ _ rfl rfl⟩
  case round =>
    clear hmk
    obtain ⟨k, hk, rfl, hb, h3⟩ := hrel
    have hsz := hb.size
    by_cases hlt : k < n
    · obtain ⟨ad, rfl, hbl, _⟩ := (HS.out.below hb).at_ (k := 16 * k) (by rw [HX.out]; omega)
      have hi : (0 : Int) ≤ k := by omega
      have hi2 : (k : Int) < n := by omega
      have hi3 : (n : Int) ≤ 1048576 := by omega
      go_wp2_with (refine wpList_load_blk16 rfl 40 _ rfl ad k rfl (HS.out.below hb) HX.out hlt Try.underlying40 info_a16 ?_)
      refine (c_toBlock _ _ (blk16_length HX.out hlt)).mono ?_; rintro e w1 ⟨rfl, b⟩
      replace h3 := h3.below b h3.lt; replace hb := seq_below hb b; clear b
      go_wp2_with (refine wpList_store_part (cs := fll (mix xs (List.replicate (n * 16) 0) (16 * k))) rfl 41 _ _ rfl w.heap.size (k * 16) rfl (fll (blk16 xs k)) rfl h3 (by rw [fll_len, blk16_length HX.out hlt]; exact info_blk) (by rw [fll_len, fll_len, blk16_length HX.out hlt, mix_length _ _ _ (by rw [HX.out, List.length_replicate]; omega), List.length_replicate]; omega) (List.all_eq_true.2 (fll_one _)) ?_; rw [over_mix HX.out hlt])
      go_roundw
      case rel => exact ⟨k + 1, by omega, by go_num, below_setRow hb (by omega) _, h3.row _⟩
      case measure => simp [intOf]; omega
    · have e : k = n := by omega
      subst e
      have h4 : Blk wr w.heap.size xs 41 := by
        have := mix_full xs (List.replicate (k * 16) 0) (by rw [HX.out, List.length_replicate]; omega)
        rw [List.length_replicate, Nat.mul_comm] at this
        rw [Nat.mul_comm k 16, this] at h3; exact h3
      clear h3
      go_wp2
      go_ret
      exact ⟨_, rfl, h4, Nat.le_refl _, hb⟩
theorem c_szBlockS (A : Option Addr) (c n : Nat) (w : World) (hl : (n : Int) ≤ 1048576) : Calls Try.prog 17 #[.slice A n c, .int .i64 1048576] w fun e w' => e = .returned (.int .i64 (1048576 - (n : Int))) ∧ Below w.heap.size w w' := by
  have hb := Below.refl w.heap.size w
  have h0 : ¬ (1048576 - (n : Int) < 0) := by omega
  go_enter Try.func17, Try.ntmps17
  go_wp2
  go_ret
  exact ⟨rfl, hb⟩
theorem c_szBlockS_big (A : Option Addr) (c n : Nat) (w : World) (hl : 1048576 < (n : Int)) (hm : (n : Int) ≤ 9223372036854775807) : Calls Try.prog 17 #[.slice A n c, .int .i64 1048576] w fun e w' => e = .returned (.int .i64 (-1)) ∧ Below w.heap.size w w' := by
  have hb := Below.refl w.heap.size w
  have h0 : 1048576 - (n : Int) < 0 := by omega
  go_enter Try.func17, Try.ntmps17
  go_wp2
  go_ret
  exact ⟨rfl, hb⟩
set_option maxRecDepth 20000 in
set_option maxHeartbeats 4000000 in
theorem c_eqBlockS (A B : Option Addr) (c d n : Nat) (xs ys : List Nat) (w : World) (hs : Sl w A xs) (ht : Sl w B ys) (hx : xs.length = 16 * n) (hy : ys.length = 16 * n) (hl2 : n ≤ 1048576) (h : ∀ j, j < 16 * n → cv .f32 (nth xs j) = cv .f32 (nth ys j)) :
    Calls Try.prog 12 #[.slice A n c, .slice B n d] w fun e w' => e = .returned (.bool true) ∧ Below w.heap.size w w' := by
  have HS := Lib.hid hs; have HT := Lib.hid ht; have H := Lib.hid h; have HX := Lib.hid hx; have HY := Lib.hid hy; clear hs ht h hx hy
  go_enter Try.func12, Try.ntmps12
  go_wp2
  go_loopw [5] (fun i wr => ∃ k : Nat, k ≤ n ∧ i = .int .i64 k ∧ Below w.heap.size w wr) (fun i _ => n - (intOf i).toNat)
  case atStart => exact ⟨0, by omega, rfl, Below.refl _ _⟩
  case round =>
    obtain ⟨k, hk, rfl, hb⟩ := hrel
    by_cases hlt : k < n
    · obtain ⟨ad, rfl, hbl, _⟩ := (HS.out.below hb).at_ (k := 16 * k) (by rw [HX.out]; omega)
      obtain ⟨bd, rfl, hbl2, _⟩ := (HT.out.below hb).at_ (k := 16 * k) (by rw [HY.out]; omega)
      have hi : (0 : Int) ≤ k := by omega
      have hi2 : (k : Int) < n := by omega
      have hi3 : (n : Int) ≤ 1048576 := by omega
      have hq : ∀ j, j < 16 → cv .f32 (nth (blk16 xs k) j) = cv .f32 (nth (blk16 ys k) j) := fun j hj => by
        rw [blk16_nth hj, blk16_nth hj]; exact H.out _ (by omega)
      have HK := Lib.hid hq; clear hq
      go_wp2_with fail
      have s0 := (Below.refl wr.heap.size wr).drew
      refine wp_region_seq (S := fun w' => Below wr.heap.size wr w') [(true, 0), (true, 1), (true, 2), (true, 3), (true, 4), (true, 5), (true, 6), (true, 7), (false, 8), (false, 9)] (by kernel_rfl) (by kernel_rfl) (by kernel_rfl) (fun _ _ d _ _ h => by cases d <;> exact h) s0 ?_
      refine wpSeq_heldE (v := .slice (some ad) n c) rfl rfl (.inl ⟨rfl, fun w' hw => by go_simp⟩) _ (by simp only [List.setIfInBounds_toArray, List.set_cons_zero, List.set_cons_succ]; rfl) ?_
      refine wpSeq_heldE (v := .int .i64 (k : Int)) rfl rfl (.inl ⟨rfl, fun w' hw => by go_simp⟩) _ (by simp only [List.setIfInBounds_toArray, List.set_cons_zero, List.set_cons_succ]; rfl) ?_
      refine wpSeq_heldE (v := .pointer (some (ad.add (k * 16)))) rfl rfl (.inl ⟨rfl, fun w' hw => by go_simp⟩) _ (by simp only [List.setIfInBounds_toArray, List.set_cons_zero, List.set_cons_succ]; rfl) ?_
      refine wpSeq_heldE rfl rfl (yields_load_blk16 rfl _ _ rfl ad k rfl (HS.out.below hb) (fun _ h => h) HX.out hlt Try.underlying41 info_blk) _ (by simp only [List.setIfInBounds_toArray, List.set_cons_zero, List.set_cons_succ]; rfl) ?_
      refine wpSeq_heldE (v := .slice (some bd) n d) rfl rfl (.inl ⟨rfl, fun w' hw => by go_simp⟩) _ (by simp only [List.setIfInBounds_toArray, List.set_cons_zero, List.set_cons_succ]; rfl) ?_
      refine wpSeq_heldE (v := .int .i64 (k : Int)) rfl rfl (.inl ⟨rfl, fun w' hw => by go_simp⟩) _ (by simp only [List.setIfInBounds_toArray, List.set_cons_zero, List.set_cons_succ]; rfl) ?_
      refine wpSeq_heldE (v := .pointer (some (bd.add (k * 16)))) rfl rfl (.inl ⟨rfl, fun w' hw => by go_simp⟩) _ (by simp only [List.setIfInBounds_toArray, List.set_cons_zero, List.set_cons_succ]; rfl) ?_
      refine wpSeq_heldE rfl rfl (yields_load_blk16 rfl _ _ rfl bd k rfl (HT.out.below hb) (fun _ h => h) HY.out hlt Try.underlying41 info_blk) _ (by simp only [List.setIfInBounds_toArray, List.set_cons_zero, List.set_cons_succ]; rfl) ?_
      refine wpSeq_step rfl rfl (fun K hK => ?_)
      go_wp2_with fail
      refine (c_eqBlock _ _ _ (blk16_length HX.out hlt) (blk16_length HY.out hlt) HK.out).mono ?_; rintro e w1 ⟨rfl, b⟩
      have s1 := seq_below s0 b
      refine hK _ _ ⟨s1, ?_⟩; clear hK
      refine wpSeq_step rfl rfl (fun K hK => ?_)
      go_wp2_with fail
      refine ⟨s1, ?_⟩
      refine wpSeq_nil ?_
      go_wp2_with fail
      go_roundw
      case rel => exact ⟨k + 1, by omega, by go_num, seq_below hb s1⟩
      case measure => simp [intOf]; omega
    · have e : k = n := by omega
      subst e
      go_wp2
      go_ret
      exact ⟨rfl, hb⟩
end Go.Proofs.Ytldkfpaigeoppaa
