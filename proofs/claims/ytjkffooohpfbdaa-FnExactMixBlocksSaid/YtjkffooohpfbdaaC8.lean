/- Contracts: arrays of integers, noise, peaks, blocks told the same. No condition. -/
import Derived.Test.YtjkffooohpfbdaaC7
namespace Go.Proofs.Ytjkffooohpfbdaa
open Go.RowKit Go.Fl

theorem info_i16a : (Try.prog.info? 36).map (·.size) = some 16 := by kernel_rfl
def mixi (xs ys : List Int) (k : Nat) : List Int := xs.take k ++ ys.drop k
theorem mixi_zero (xs ys : List Int) : mixi xs ys 0 = ys := by simp [mixi]
theorem mixi_full (xs ys : List Int) (h : xs.length = ys.length) : mixi xs ys ys.length = xs := by simp [mixi, ← h]
theorem mixi_length (xs ys : List Int) (k : Nat) (h : xs.length = ys.length) : (mixi xs ys k).length = ys.length := by simp [mixi]; omega
theorem mixi_set (xs ys : List Int) (k : Nat) (h : xs.length = ys.length) (hk : k < ys.length) : (mixi xs ys k).set k (nthi xs k) = mixi xs ys (k + 1) := by
  apply List.ext_getElem?
  intro i
  have hx : k < xs.length := by omega
  simp only [mixi, List.getElem?_set, List.getElem?_append, List.length_take, List.length_append, List.length_drop, List.getElem?_take, List.getElem?_drop]
  by_cases h1 : k = i
  · subst h1
    have e1 : k < min k xs.length + (ys.length - k) := by omega
    have e2 : k < min (k + 1) xs.length := by omega
    simp [e1, e2, hx, nthi]
  · by_cases h2 : i < k
    · have e1 : i < min k xs.length := by omega
      have e2 : i < min (k + 1) xs.length := by omega
      have e3 : i < k + 1 := by omega
      simp [h1, e1, e2, h2, e3]
    · have e1 : ¬ i < min k xs.length := by omega
      have e2 : ¬ i < min (k + 1) xs.length := by omega
      simp only [h1, e1, e2, if_false]
      congr 1; omega
theorem c_toInt16A16 (xs : List Int) (w : World) (hx : xs.length = 16) :
    Calls Try.prog 26 #[.agg (il xs)] w fun e w' => e = .returned (.agg (il xs)) ∧ Below w.heap.size w w' := by
  have HX := Lib.hid hx; clear hx
  go_enter Try.func26, Try.ntmps26
  go_wp2
  go_loopw [4] (fun i wr => ∃ k : Nat, k ≤ 16 ∧ i = .int .i64 k ∧ Below w.heap.size w wr ∧ Bli wr w.heap.size xs 36 ∧ Bli wr (w.heap.size + 1) (List.replicate 16 0) 36 ∧ Bli wr (w.heap.size + 1 + 1) (mixi xs (List.replicate 16 0) k) 36) (fun i _ => 16 - (intOf i).toNat)
  case atStart =>
    refine ⟨0, by omega, rfl, ?_, ?_, ?_, ?_⟩
    · exact Go.Joins.below_alloc3 _ _ _ _
    · exact ((Bli.new _ _ _ _ rfl).alloc _).alloc _
    · refine (Bli.newRow _ _ _ _ _ ?_ ?_).alloc _
      · simp
      · rfl
    · rw [mixi_zero]; refine Bli.newRow _ _ _ _ _ ?_ ?_
      · simp
      · rfl
  case round =>
    obtain ⟨k, hk, rfl, hb, h1, h2, h3⟩ := hrel
    have hsz := hb.size
    by_cases hlt : k < 16
    · have c1 := h1.cell k (by rw [HX.out]; exact hlt)
      have c3 := h3.cell k (by rw [mixi_length _ _ _ (by rw [HX.out]; rfl)]; simpa using hlt)
      have f3 := h3.free k
      go_wp2
      go_roundw
      case rel =>
        refine ⟨k + 1, by omega, by go_num, below_setCell hb (by omega) _, h1.other (by omega) _, h2.other (by omega) _, ?_⟩
        rw [← mixi_set _ _ _ (by rw [HX.out]; rfl) (by simpa using hlt)]
        exact h3.set _ _
      case measure => simp [intOf]; omega
    · have hk16 : k = 16 := by omega
      subst hk16
      have h3' : Bli wr (w.heap.size + 1 + 1) xs 36 := by
        have := mixi_full xs (List.replicate 16 0) (by rw [HX.out]; rfl)
        rw [List.length_replicate] at this
        rw [this] at h3; exact h3
      clear h3
      go_wp2_with (first | (refine wpList_load_bli rfl 36 _ rfl _ rfl h3' Try.underlying36 info_i16a HX.out ?_) | (refine wpList_store_bli rfl 36 _ _ rfl _ rfl rfl h2 info_i16a HX.out rfl ?_))
      exact bodyPost_ret (results_bli rfl _ _ _ rfl (h2.row xs) Try.underlying36 info_i16a HX.out) rfl ⟨rfl, below_setRow hb (by omega) _⟩
theorem c_eqInt16A16 (xs ys : List Int) (w : World) (hx : xs.length = 16) (hy : ys.length = 16) (h : ∀ j, j < 16 → nthi xs j = nthi ys j) :
    Calls Try.prog 39 #[.agg (il xs), .agg (il ys)] w fun e w' => e = .returned (.bool true) ∧ Below w.heap.size w w' := by
  have h1 : Bli ((w.alloc (.cells (il xs) 36)).alloc (.cells (il ys) 36)) w.heap.size xs 36 := (Bli.new _ _ _ _ rfl).alloc _
  have h2 : Bli ((w.alloc (.cells (il xs) 36)).alloc (.cells (il ys) 36)) (w.heap.size + 1) ys 36 := Bli.new _ _ _ _ (by simp)
  have hb : Below w.heap.size w ((w.alloc (.cells (il xs) 36)).alloc (.cells (il ys) 36)) := Go.Joins.below_alloc2 _ _ _
  have HX := Lib.hid hx; have HY := Lib.hid hy; have H := Lib.hid h; clear hx hy h
  go_enter Try.func39, Try.ntmps39
  go_wp2
  generalize hW : (w.alloc (.cells (il xs) 36)).alloc (.cells (il ys) 36) = W at *
  clear hW
  go_loopw [5] (fun i wr => ∃ k : Nat, k ≤ 16 ∧ i = .int .i64 k ∧ Below w.heap.size w wr ∧ Bli wr w.heap.size xs 36 ∧ Bli wr (w.heap.size + 1) ys 36) (fun i _ => 16 - (intOf i).toNat)
  case atStart => exact ⟨0, by omega, rfl, hb, h1, h2⟩
  case round =>
    clear hb h1 h2
    obtain ⟨k, hk, rfl, hb, h1, h2⟩ := hrel
    by_cases hlt : k < 16
    · have c1 := h1.cell k (by rw [HX.out]; exact hlt)
      have c2 := h2.cell k (by rw [HY.out]; exact hlt)
      rw [H.out k hlt] at c1
      have hi : (0 : Int) ≤ k := by omega
      have hi2 : (k : Int) < 16 := by omega
      go_wp2
      go_region
      go_wp2
      go_roundw
      case rel => exact ⟨k + 1, by omega, by go_num, by first | exact hb | exact below_drewN hb _ | exact hb.drew, h1, h2⟩
      case measure => simp [intOf]; omega
    · have e : k = 16 := by omega
      subst e
      go_wp2
      go_ret
      exact ⟨rfl, hb⟩

/-! ### Blocks told the same -/
def sameUpTo (xs ys : List Nat) (n : Nat) : Bool := (List.range n).all fun i => sameB (nth xs i) (nth ys i)
theorem sameUpTo_no (xs ys : List Nat) (n k : Nat) (hk : k < n) (h : sameB (nth xs k) (nth ys k) = false) : sameUpTo xs ys n = false := by
  unfold sameUpTo; rw [List.all_eq_false]; exact ⟨k, by simpa using hk, by rw [h]; exact Bool.false_ne_true⟩
theorem sameUpTo_yes (xs ys : List Nat) (n : Nat) (h : ∀ j, j < n → sameB (nth xs j) (nth ys j) = true) : sameUpTo xs ys n = true := by
  unfold sameUpTo; rw [List.all_eq_true]; intro k hk; exact h k (by simpa using hk)
theorem c_l01SameBlock (xs ys : List Nat) (w : World) (hx : xs.length = 16) (hy : ys.length = 16) :
    Calls Try.prog 48 #[.agg (fl xs), .agg (fl ys)] w fun e w' => e = .returned (.bool (sameUpTo xs ys 16)) ∧ Below w.heap.size w w' := by
  have h1 : Blk ((w.alloc (.cells (fl xs) 24)).alloc (.cells (fl ys) 24)) w.heap.size xs 24 := (Blk.new _ _ _ _ rfl).alloc _
  have h2 : Blk ((w.alloc (.cells (fl xs) 24)).alloc (.cells (fl ys) 24)) (w.heap.size + 1) ys 24 := Blk.new _ _ _ _ (by simp)
  have hb : Below w.heap.size w ((w.alloc (.cells (fl xs) 24)).alloc (.cells (fl ys) 24)) := Go.Joins.below_alloc2 _ _ _
  have HX := Lib.hid hx; have HY := Lib.hid hy; clear hx hy
  go_enter Try.func48, Try.ntmps48
  go_wp2
  generalize hW : (w.alloc (.cells (fl xs) 24)).alloc (.cells (fl ys) 24) = W at *
  clear hW
  go_loopw [5] (fun i wr => ∃ k : Nat, k ≤ 16 ∧ i = .int .i64 k ∧ Below w.heap.size w wr ∧ Blk wr w.heap.size xs 24 ∧ Blk wr (w.heap.size + 1) ys 24 ∧ Hid (∀ j, j < k → sameB (nth xs j) (nth ys j) = true)) (fun i _ => 16 - (intOf i).toNat)
  case atStart => exact ⟨0, by omega, rfl, hb, h1, h2, fun j hj => by omega⟩
  case round =>
    clear hb h1 h2
    obtain ⟨k, hk, rfl, hb, h1, h2, HL⟩ := hrel
    by_cases hlt : k < 16
    · have c1 := h1.cell k (by rw [HX.out]; exact hlt)
      have c2 := h2.cell k (by rw [HY.out]; exact hlt)
      have hi : (0 : Int) ≤ k := by omega
      have hi2 : (k : Int) < 16 := by omega
      cases hs : sameB (nth xs k) (nth ys k)
      · have HS := Lib.hid (sameUpTo_no xs ys 16 k hlt hs)
        go_wp2
        go_quiet (((go_at_call 65; exact Calls.quiet_of_same (c_l01Same_v _ _ _ _ hs))))
        go_wp2
        go_ret
        exact ⟨ret_bool HS.out.symm, by first | exact hb | exact below_drewN hb _⟩
      · have HS := Lib.hid hs
        go_wp2
        go_quiet (((go_at_call 65; exact Calls.quiet_of_same (c_l01Same_v _ _ _ _ hs))))
        go_wp2
        go_roundw
        case rel => exact ⟨k + 1, by omega, by go_num, by first | exact hb | exact below_drewN hb _, h1, h2, fun j hj => by
          by_cases e : j = k
          · subst e; exact HS.out
          · exact HL.out j (by omega)⟩
        case measure => simp [intOf]; omega
    · have e : k = 16 := by omega
      subst e
      have HS := Lib.hid (sameUpTo_yes xs ys 16 HL.out)
      clear HL
      go_wp2
      go_ret
      exact ⟨ret_bool HS.out.symm, hb⟩
theorem c_iSameBlock (xs ys : List Nat) (w : World) (hx : xs.length = 16) (hy : ys.length = 16) :
    Calls Try.prog 22 #[.agg (fl xs), .agg (fl ys)] w fun e w' => e = .returned (.bool (sameUpTo xs ys 16)) ∧ Below w.heap.size w w' := by
  have h1 : Blk ((w.alloc (.cells (fl xs) 24)).alloc (.cells (fl ys) 24)) w.heap.size xs 24 := (Blk.new _ _ _ _ rfl).alloc _
  have h2 : Blk ((w.alloc (.cells (fl xs) 24)).alloc (.cells (fl ys) 24)) (w.heap.size + 1) ys 24 := Blk.new _ _ _ _ (by simp)
  have hb : Below w.heap.size w ((w.alloc (.cells (fl xs) 24)).alloc (.cells (fl ys) 24)) := Go.Joins.below_alloc2 _ _ _
  have HX := Lib.hid hx; have HY := Lib.hid hy; clear hx hy
  go_enter Try.func22, Try.ntmps22
  go_wp2_with (refine wpList_load_blk rfl 24 _ rfl _ rfl h1 Try.underlying24 info_blk HX.out ?_)
  generalize hW : (w.alloc (.cells (fl xs) 24)).alloc (.cells (fl ys) 24) = W at *
  clear hW h1
  go_loopw [8] (fun i wr => ∃ k : Nat, k ≤ 16 ∧ i = .int .i64 k ∧ Below w.heap.size w wr ∧ Blk wr (w.heap.size + 1) ys 24 ∧ Hid (∀ j, j < k → sameB (nth xs j) (nth ys j) = true)) (fun i _ => 16 - (intOf i).toNat)
  case atStart => exact ⟨0, by omega, rfl, hb, h2, fun j hj => by omega⟩
  case round =>
    clear hb h2
    obtain ⟨k, hk, rfl, hb, h2, HL⟩ := hrel
    by_cases hlt : k < 16
    · have hix := fun W => run_index_fl (P := Try.prog) (w := W) 24 22 16 xs k Try.underlying24 Try.underlying22 info_f32 (by rw [HX.out]; exact hlt) hlt
      have c2 := h2.cell k (by rw [HY.out]; exact hlt)
      have hi : (0 : Int) ≤ k := by omega
      have hi2 : (k : Int) < 16 := by omega
      cases hs : sameB (nth xs k) (nth ys k)
      · have HS := Lib.hid (sameUpTo_no xs ys 16 k hlt hs)
        go_wp2_with (go_at_call 49; refine (c_SameSample _ _ _).mono ?_; rintro e w' ⟨rfl, rfl⟩; rw [hs])
        go_ret
        exact ⟨ret_bool HS.out.symm, hb⟩
      · have HS := Lib.hid hs
        go_wp2_with (go_at_call 49; refine (c_SameSample _ _ _).mono ?_; rintro e w' ⟨rfl, rfl⟩; rw [hs])
        go_roundw
        case rel => exact ⟨k + 1, by omega, by go_num, hb, h2, fun j hj => by
          by_cases e : j = k
          · subst e; exact HS.out
          · exact HL.out j (by omega)⟩
        case measure => simp [intOf]; omega
    · have e : k = 16 := by omega
      subst e
      have HS := Lib.hid (sameUpTo_yes xs ys 16 HL.out)
      clear HL
      go_wp2
      go_ret
      exact ⟨ret_bool HS.out.symm, hb⟩
end Go.Proofs.Ytjkffooohpfbdaa
