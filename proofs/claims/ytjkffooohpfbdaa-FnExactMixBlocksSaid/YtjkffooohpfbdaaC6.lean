/- Contracts: the block functions of the program (by 'made') and of the reference (in place). Written by genblk.py. No condition. -/
import Derived.Test.YtjkffooohpfbdaaC5
import Derived.Test.YtjkffooohpfbdaaAi
import Derived.Test.YtjkffooohpfbdaaC3
namespace Go.Proofs.Ytjkffooohpfbdaa
open Go.RowKit Go.Fl
theorem below_allocs1 (w : World) (a : Obj) : Below w.heap.size w (w.alloc a) := Go.Joins.below_alloc1 _ _
theorem below_allocs2 (w : World) (a b : Obj) : Below w.heap.size w ((w.alloc a).alloc b) := Go.Joins.below_alloc2 _ _ _
theorem below_allocs3 (w : World) (a b c : Obj) : Below w.heap.size w (((w.alloc a).alloc b).alloc c) := Go.Joins.below_alloc3 _ _ _ _
theorem below_allocs4 (w : World) (a b c d : Obj) : Below w.heap.size w ((((w.alloc a).alloc b).alloc c).alloc d) := (below_allocs3 w a b c).alloc (by simp; omega) d
theorem ret_i16 {a b : Int} (h : a = b) : Ending.returned (.int .i16 a) = .returned (.int .i16 b) := by rw [h]

def cfMixBlocks (xs : List Nat) (ys : List Nat) (i : Nat) : CF := cop .add .f32 (cv .f32 (nth xs i)) (cv .f32 (nth ys i))
theorem c_iMixBlocksAt (ga gb : Nat) (xs : List Nat) (ys : List Nat) (i : Nat) (w : World) (h0 : Blk w ga xs 24) (h1 : Blk w gb ys 24) (l0 : xs.length = 16) (l1 : ys.length = 16) (hi : i < 16) :
    Calls Try.prog 46 #[.int .i64 (i : Int), .pointer (some ⟨ga, 0, none⟩), .pointer (some ⟨gb, 0, none⟩)] w (SamPost (cfMixBlocks xs ys i) w) := by
  have c0 := h0.cell i (by rw [l0]; exact hi)
  have c1 := h1.cell i (by rw [l1]; exact hi)
  have hi0 : (0 : Int) ≤ i := by omega
  have hi2 : (i : Int) < 16 := by omega
  clear l0 l1
  go_enter Try.func46, Try.ntmps46
  go_wp2
  go_region
  go_wp2
  all_goals (go_ret; exact ⟨_, rfl, by simp only [cv_fval]; rfl, below_drewN (Below.refl _ _) _⟩)
theorem c_iMixBlocks (xs : List Nat) (ys : List Nat) (w : World) (l0 : xs.length = 16) (l1 : ys.length = 16) : Calls Try.prog 17 #[.agg (fl xs), .agg (fl ys)] w (BlkPost (cfMixBlocks xs ys) w) := by
  have h0 : Blk (((w.alloc (.cells (fl xs) 24)).alloc (.cells (fl ys) 24)).alloc (.cells #[.float .f32 0, .float .f32 0, .float .f32 0, .float .f32 0, .float .f32 0, .float .f32 0, .float .f32 0, .float .f32 0, .float .f32 0, .float .f32 0, .float .f32 0, .float .f32 0, .float .f32 0, .float .f32 0, .float .f32 0, .float .f32 0] 24)) w.heap.size xs 24 := by
    refine ((Blk.newRow _ _ _ _ _ ?_ ?_).alloc _).alloc _
    · rfl
    · rfl
  have h1 : Blk (((w.alloc (.cells (fl xs) 24)).alloc (.cells (fl ys) 24)).alloc (.cells #[.float .f32 0, .float .f32 0, .float .f32 0, .float .f32 0, .float .f32 0, .float .f32 0, .float .f32 0, .float .f32 0, .float .f32 0, .float .f32 0, .float .f32 0, .float .f32 0, .float .f32 0, .float .f32 0, .float .f32 0, .float .f32 0] 24)) (w.heap.size + 1) ys 24 := by
    refine (Blk.newRow _ _ _ _ _ ?_ ?_).alloc _
    · simp
    · rfl
  have hR : Blk (((w.alloc (.cells (fl xs) 24)).alloc (.cells (fl ys) 24)).alloc (.cells #[.float .f32 0, .float .f32 0, .float .f32 0, .float .f32 0, .float .f32 0, .float .f32 0, .float .f32 0, .float .f32 0, .float .f32 0, .float .f32 0, .float .f32 0, .float .f32 0, .float .f32 0, .float .f32 0, .float .f32 0, .float .f32 0] 24)) (w.heap.size + 1 + 1) (List.replicate 16 0) 24 := by
    refine Blk.newRow _ _ _ _ _ ?_ ?_
    · simp
    · rfl
  have hb : Below w.heap.size w (((w.alloc (.cells (fl xs) 24)).alloc (.cells (fl ys) 24)).alloc (.cells #[.float .f32 0, .float .f32 0, .float .f32 0, .float .f32 0, .float .f32 0, .float .f32 0, .float .f32 0, .float .f32 0, .float .f32 0, .float .f32 0, .float .f32 0, .float .f32 0, .float .f32 0, .float .f32 0, .float .f32 0, .float .f32 0] 24)) := below_allocs3 ..
  have L0 := Lib.hid l0; clear l0
  have L1 := Lib.hid l1; clear l1
  go_enter Try.func17, Try.ntmps17
  go_wp2_with fail
  generalize hW : (((w.alloc (.cells (fl xs) 24)).alloc (.cells (fl ys) 24)).alloc (.cells #[.float .f32 0, .float .f32 0, .float .f32 0, .float .f32 0, .float .f32 0, .float .f32 0, .float .f32 0, .float .f32 0, .float .f32 0, .float .f32 0, .float .f32 0, .float .f32 0, .float .f32 0, .float .f32 0, .float .f32 0, .float .f32 0] 24)) = W at *
  clear hW
  have hK : ∀ (i : Nat) (wr : World), i < 16 → Below W.heap.size W wr → Calls Try.prog 46 (#[.int .i64 (i : Int)] ++ #[.pointer (some ⟨w.heap.size, 0, none⟩), .pointer (some ⟨w.heap.size + 1, 0, none⟩)]) wr (SamPost (cfMixBlocks xs ys i) wr) := by
    intro i wr hi b
    rw [show (#[.int .i64 (i : Int)] ++ #[.pointer (some ⟨w.heap.size, 0, none⟩), .pointer (some ⟨w.heap.size + 1, 0, none⟩)] : Array Value) = #[.int .i64 (i : Int), .pointer (some ⟨w.heap.size, 0, none⟩), .pointer (some ⟨w.heap.size + 1, 0, none⟩)] from rfl]
    exact c_iMixBlocksAt _ _ _ _ i wr (h0.below b h0.lt) (h1.below b h1.lt) L0.out L1.out hi
  refine (c_made 46 _ (cfMixBlocks xs ys) _ (run_enter Try.func46 (by kernel_rfl) (by kernel_rfl)) hK).mono ?_
  clear hK
  rintro e w1 ⟨rs, rfl, hd, b⟩
  have hl := Lib.hid hd.1; have HD := Lib.hid hd; clear hd
  replace hR := hR.below b hR.lt; replace hb := seq_below hb b; clear b h0 h1
  go_wp2_with (refine wpList_store_blk rfl 24 _ _ rfl _ rfl rfl hR info_blk hl.out rfl ?_)
  exact bodyPost_ret (results_blk rfl _ _ _ rfl (hR.row rs) Try.underlying24 info_blk hl.out) rfl ⟨rs, rfl, HD.out, below_setRow hb (by omega) _⟩
def cfScaleBlock (xs : List Nat) (by0 : Nat) (i : Nat) : CF := cop .mul .f32 (cv .f32 (nth xs i)) (cv .f32 (nth [by0] 0))
theorem c_iScaleBlockAt (ga gb : Nat) (xs : List Nat) (by0 : Nat) (i : Nat) (w : World) (h0 : Blk w ga xs 24) (h1 : Blk w gb [by0] 22) (l0 : xs.length = 16) (hi : i < 16) :
    Calls Try.prog 47 #[.int .i64 (i : Int), .pointer (some ⟨ga, 0, none⟩), .pointer (some ⟨gb, 0, none⟩)] w (SamPost (cfScaleBlock xs by0 i) w) := by
  have c0 := h0.cell i (by rw [l0]; exact hi)
  have c1 := h1.cell 0 (by simp)
  have hi0 : (0 : Int) ≤ i := by omega
  have hi2 : (i : Int) < 16 := by omega
  clear l0
  go_enter Try.func47, Try.ntmps47
  go_wp2
  go_region
  go_wp2
  all_goals (go_ret; exact ⟨_, rfl, by simp only [cv_fval]; rfl, below_drewN (Below.refl _ _) _⟩)
theorem c_iScaleBlock (xs : List Nat) (by0 : Nat) (w : World) (l0 : xs.length = 16) : Calls Try.prog 20 #[.agg (fl xs), .float .f32 by0] w (BlkPost (cfScaleBlock xs by0) w) := by
  have h0 : Blk (((w.alloc (.cells (fl xs) 24)).alloc (.cells #[.float .f32 by0] 22)).alloc (.cells #[.float .f32 0, .float .f32 0, .float .f32 0, .float .f32 0, .float .f32 0, .float .f32 0, .float .f32 0, .float .f32 0, .float .f32 0, .float .f32 0, .float .f32 0, .float .f32 0, .float .f32 0, .float .f32 0, .float .f32 0, .float .f32 0] 24)) w.heap.size xs 24 := by
    refine ((Blk.newRow _ _ _ _ _ ?_ ?_).alloc _).alloc _
    · rfl
    · rfl
  have h1 : Blk (((w.alloc (.cells (fl xs) 24)).alloc (.cells #[.float .f32 by0] 22)).alloc (.cells #[.float .f32 0, .float .f32 0, .float .f32 0, .float .f32 0, .float .f32 0, .float .f32 0, .float .f32 0, .float .f32 0, .float .f32 0, .float .f32 0, .float .f32 0, .float .f32 0, .float .f32 0, .float .f32 0, .float .f32 0, .float .f32 0] 24)) (w.heap.size + 1) [by0] 22 := by
    refine (Blk.newRow _ _ _ _ _ ?_ ?_).alloc _
    · simp
    · rfl
  have hR : Blk (((w.alloc (.cells (fl xs) 24)).alloc (.cells #[.float .f32 by0] 22)).alloc (.cells #[.float .f32 0, .float .f32 0, .float .f32 0, .float .f32 0, .float .f32 0, .float .f32 0, .float .f32 0, .float .f32 0, .float .f32 0, .float .f32 0, .float .f32 0, .float .f32 0, .float .f32 0, .float .f32 0, .float .f32 0, .float .f32 0] 24)) (w.heap.size + 1 + 1) (List.replicate 16 0) 24 := by
    refine Blk.newRow _ _ _ _ _ ?_ ?_
    · simp
    · rfl
  have hb : Below w.heap.size w (((w.alloc (.cells (fl xs) 24)).alloc (.cells #[.float .f32 by0] 22)).alloc (.cells #[.float .f32 0, .float .f32 0, .float .f32 0, .float .f32 0, .float .f32 0, .float .f32 0, .float .f32 0, .float .f32 0, .float .f32 0, .float .f32 0, .float .f32 0, .float .f32 0, .float .f32 0, .float .f32 0, .float .f32 0, .float .f32 0] 24)) := below_allocs3 ..
  have L0 := Lib.hid l0; clear l0
  go_enter Try.func20, Try.ntmps20
  go_wp2_with fail
  generalize hW : (((w.alloc (.cells (fl xs) 24)).alloc (.cells #[.float .f32 by0] 22)).alloc (.cells #[.float .f32 0, .float .f32 0, .float .f32 0, .float .f32 0, .float .f32 0, .float .f32 0, .float .f32 0, .float .f32 0, .float .f32 0, .float .f32 0, .float .f32 0, .float .f32 0, .float .f32 0, .float .f32 0, .float .f32 0, .float .f32 0] 24)) = W at *
  clear hW
  have hK : ∀ (i : Nat) (wr : World), i < 16 → Below W.heap.size W wr → Calls Try.prog 47 (#[.int .i64 (i : Int)] ++ #[.pointer (some ⟨w.heap.size, 0, none⟩), .pointer (some ⟨w.heap.size + 1, 0, none⟩)]) wr (SamPost (cfScaleBlock xs by0 i) wr) := by
    intro i wr hi b
    rw [show (#[.int .i64 (i : Int)] ++ #[.pointer (some ⟨w.heap.size, 0, none⟩), .pointer (some ⟨w.heap.size + 1, 0, none⟩)] : Array Value) = #[.int .i64 (i : Int), .pointer (some ⟨w.heap.size, 0, none⟩), .pointer (some ⟨w.heap.size + 1, 0, none⟩)] from rfl]
    exact c_iScaleBlockAt _ _ _ _ i wr (h0.below b h0.lt) (h1.below b h1.lt) L0.out hi
  refine (c_made 47 _ (cfScaleBlock xs by0) _ (run_enter Try.func47 (by kernel_rfl) (by kernel_rfl)) hK).mono ?_
  clear hK
  rintro e w1 ⟨rs, rfl, hd, b⟩
  have hl := Lib.hid hd.1; have HD := Lib.hid hd; clear hd
  replace hR := hR.below b hR.lt; replace hb := seq_below hb b; clear b h0 h1
  go_wp2_with (refine wpList_store_blk rfl 24 _ _ rfl _ rfl rfl hR info_blk hl.out rfl ?_)
  exact bodyPost_ret (results_blk rfl _ _ _ rfl (hR.row rs) Try.underlying24 info_blk hl.out) rfl ⟨rs, rfl, HD.out, below_setRow hb (by omega) _⟩
def cfRampBlock (xs : List Nat) (fr0 : Nat) (to0 : Nat) (i : Nat) : CF := cop .mul .f32 (cv .f32 (nth xs i)) (cop .add .f32 (cv .f32 (nth [fr0] 0)) (cop .mul .f32 (cop .sub .f32 (cv .f32 (nth [to0] 0)) (cv .f32 (nth [fr0] 0))) (cop .quo .f32 (cv .f32 (floatOfInt .f32 (i : Int))) (cv .f32 1098907648))))
theorem c_iRampBlockAt (ga gb gc : Nat) (xs : List Nat) (fr0 : Nat) (to0 : Nat) (i : Nat) (w : World) (h0 : Blk w ga xs 24) (h1 : Blk w gb [fr0] 22) (h2 : Blk w gc [to0] 22) (l0 : xs.length = 16) (hi : i < 16) :
    Calls Try.prog 55 #[.int .i64 (i : Int), .pointer (some ⟨ga, 0, none⟩), .pointer (some ⟨gb, 0, none⟩), .pointer (some ⟨gc, 0, none⟩)] w (SamPost (cfRampBlock xs fr0 to0 i) w) := by
  have c0 := h0.cell i (by rw [l0]; exact hi)
  have c1 := h1.cell 0 (by simp)
  have c2 := h2.cell 0 (by simp)
  have hi0 : (0 : Int) ≤ i := by omega
  have hi2 : (i : Int) < 16 := by omega
  clear l0
  go_enter Try.func55, Try.ntmps55
  go_wp2
  go_region
  go_wp2
  all_goals (go_ret; exact ⟨_, rfl, by simp only [cv_fval]; rfl, below_drewN (Below.refl _ _) _⟩)
theorem c_iRampBlock (xs : List Nat) (fr0 : Nat) (to0 : Nat) (w : World) (l0 : xs.length = 16) : Calls Try.prog 29 #[.agg (fl xs), .float .f32 fr0, .float .f32 to0] w (BlkPost (cfRampBlock xs fr0 to0) w) := by
  have h0 : Blk ((((w.alloc (.cells (fl xs) 24)).alloc (.cells #[.float .f32 fr0] 22)).alloc (.cells #[.float .f32 to0] 22)).alloc (.cells #[.float .f32 0, .float .f32 0, .float .f32 0, .float .f32 0, .float .f32 0, .float .f32 0, .float .f32 0, .float .f32 0, .float .f32 0, .float .f32 0, .float .f32 0, .float .f32 0, .float .f32 0, .float .f32 0, .float .f32 0, .float .f32 0] 24)) w.heap.size xs 24 := by
    refine (((Blk.newRow _ _ _ _ _ ?_ ?_).alloc _).alloc _).alloc _
    · rfl
    · rfl
  have h1 : Blk ((((w.alloc (.cells (fl xs) 24)).alloc (.cells #[.float .f32 fr0] 22)).alloc (.cells #[.float .f32 to0] 22)).alloc (.cells #[.float .f32 0, .float .f32 0, .float .f32 0, .float .f32 0, .float .f32 0, .float .f32 0, .float .f32 0, .float .f32 0, .float .f32 0, .float .f32 0, .float .f32 0, .float .f32 0, .float .f32 0, .float .f32 0, .float .f32 0, .float .f32 0] 24)) (w.heap.size + 1) [fr0] 22 := by
    refine ((Blk.newRow _ _ _ _ _ ?_ ?_).alloc _).alloc _
    · simp
    · rfl
  have h2 : Blk ((((w.alloc (.cells (fl xs) 24)).alloc (.cells #[.float .f32 fr0] 22)).alloc (.cells #[.float .f32 to0] 22)).alloc (.cells #[.float .f32 0, .float .f32 0, .float .f32 0, .float .f32 0, .float .f32 0, .float .f32 0, .float .f32 0, .float .f32 0, .float .f32 0, .float .f32 0, .float .f32 0, .float .f32 0, .float .f32 0, .float .f32 0, .float .f32 0, .float .f32 0] 24)) (w.heap.size + 1 + 1) [to0] 22 := by
    refine (Blk.newRow _ _ _ _ _ ?_ ?_).alloc _
    · simp
    · rfl
  have hR : Blk ((((w.alloc (.cells (fl xs) 24)).alloc (.cells #[.float .f32 fr0] 22)).alloc (.cells #[.float .f32 to0] 22)).alloc (.cells #[.float .f32 0, .float .f32 0, .float .f32 0, .float .f32 0, .float .f32 0, .float .f32 0, .float .f32 0, .float .f32 0, .float .f32 0, .float .f32 0, .float .f32 0, .float .f32 0, .float .f32 0, .float .f32 0, .float .f32 0, .float .f32 0] 24)) (w.heap.size + 1 + 1 + 1) (List.replicate 16 0) 24 := by
    refine Blk.newRow _ _ _ _ _ ?_ ?_
    · simp
    · rfl
  have hb : Below w.heap.size w ((((w.alloc (.cells (fl xs) 24)).alloc (.cells #[.float .f32 fr0] 22)).alloc (.cells #[.float .f32 to0] 22)).alloc (.cells #[.float .f32 0, .float .f32 0, .float .f32 0, .float .f32 0, .float .f32 0, .float .f32 0, .float .f32 0, .float .f32 0, .float .f32 0, .float .f32 0, .float .f32 0, .float .f32 0, .float .f32 0, .float .f32 0, .float .f32 0, .float .f32 0] 24)) := below_allocs4 ..
  have L0 := Lib.hid l0; clear l0
  go_enter Try.func29, Try.ntmps29
  go_wp2_with fail
  generalize hW : ((((w.alloc (.cells (fl xs) 24)).alloc (.cells #[.float .f32 fr0] 22)).alloc (.cells #[.float .f32 to0] 22)).alloc (.cells #[.float .f32 0, .float .f32 0, .float .f32 0, .float .f32 0, .float .f32 0, .float .f32 0, .float .f32 0, .float .f32 0, .float .f32 0, .float .f32 0, .float .f32 0, .float .f32 0, .float .f32 0, .float .f32 0, .float .f32 0, .float .f32 0] 24)) = W at *
  clear hW
  have hK : ∀ (i : Nat) (wr : World), i < 16 → Below W.heap.size W wr → Calls Try.prog 55 (#[.int .i64 (i : Int)] ++ #[.pointer (some ⟨w.heap.size, 0, none⟩), .pointer (some ⟨w.heap.size + 1, 0, none⟩), .pointer (some ⟨w.heap.size + 1 + 1, 0, none⟩)]) wr (SamPost (cfRampBlock xs fr0 to0 i) wr) := by
    intro i wr hi b
    rw [show (#[.int .i64 (i : Int)] ++ #[.pointer (some ⟨w.heap.size, 0, none⟩), .pointer (some ⟨w.heap.size + 1, 0, none⟩), .pointer (some ⟨w.heap.size + 1 + 1, 0, none⟩)] : Array Value) = #[.int .i64 (i : Int), .pointer (some ⟨w.heap.size, 0, none⟩), .pointer (some ⟨w.heap.size + 1, 0, none⟩), .pointer (some ⟨w.heap.size + 1 + 1, 0, none⟩)] from rfl]
    exact c_iRampBlockAt _ _ _ _ _ _ i wr (h0.below b h0.lt) (h1.below b h1.lt) (h2.below b h2.lt) L0.out hi
  refine (c_made 55 _ (cfRampBlock xs fr0 to0) _ (run_enter Try.func55 (by kernel_rfl) (by kernel_rfl)) hK).mono ?_
  clear hK
  rintro e w1 ⟨rs, rfl, hd, b⟩
  have hl := Lib.hid hd.1; have HD := Lib.hid hd; clear hd
  replace hR := hR.below b hR.lt; replace hb := seq_below hb b; clear b h0 h1 h2
  go_wp2_with (refine wpList_store_blk rfl 24 _ _ rfl _ rfl rfl hR info_blk hl.out rfl ?_)
  exact bodyPost_ret (results_blk rfl _ _ _ rfl (hR.row rs) Try.underlying24 info_blk hl.out) rfl ⟨rs, rfl, HD.out, below_setRow hb (by omega) _⟩
theorem c_sMixBlocks (xs : List Nat) (ys : List Nat) (w : World) (l0 : xs.length = 16) (l1 : ys.length = 16) : Calls Try.prog 15 #[.agg (fl xs), .agg (fl ys)] w (BlkPost (cfMixBlocks xs ys) w) := by
  have h0 : Blk (((w.alloc (.cells (fl xs) 24)).alloc (.cells (fl ys) 24)).alloc (.cells #[.float .f32 0, .float .f32 0, .float .f32 0, .float .f32 0, .float .f32 0, .float .f32 0, .float .f32 0, .float .f32 0, .float .f32 0, .float .f32 0, .float .f32 0, .float .f32 0, .float .f32 0, .float .f32 0, .float .f32 0, .float .f32 0] 24)) w.heap.size xs 24 := by
    refine ((Blk.newRow _ _ _ _ _ ?_ ?_).alloc _).alloc _
    · rfl
    · rfl
  have h1 : Blk (((w.alloc (.cells (fl xs) 24)).alloc (.cells (fl ys) 24)).alloc (.cells #[.float .f32 0, .float .f32 0, .float .f32 0, .float .f32 0, .float .f32 0, .float .f32 0, .float .f32 0, .float .f32 0, .float .f32 0, .float .f32 0, .float .f32 0, .float .f32 0, .float .f32 0, .float .f32 0, .float .f32 0, .float .f32 0] 24)) (w.heap.size + 1) ys 24 := by
    refine (Blk.newRow _ _ _ _ _ ?_ ?_).alloc _
    · simp
    · rfl
  have hR : Blk (((w.alloc (.cells (fl xs) 24)).alloc (.cells (fl ys) 24)).alloc (.cells #[.float .f32 0, .float .f32 0, .float .f32 0, .float .f32 0, .float .f32 0, .float .f32 0, .float .f32 0, .float .f32 0, .float .f32 0, .float .f32 0, .float .f32 0, .float .f32 0, .float .f32 0, .float .f32 0, .float .f32 0, .float .f32 0] 24)) (w.heap.size + 1 + 1) (List.replicate 16 0) 24 := by
    refine Blk.newRow _ _ _ _ _ ?_ ?_
    · simp
    · rfl
  have hb : Below w.heap.size w (((w.alloc (.cells (fl xs) 24)).alloc (.cells (fl ys) 24)).alloc (.cells #[.float .f32 0, .float .f32 0, .float .f32 0, .float .f32 0, .float .f32 0, .float .f32 0, .float .f32 0, .float .f32 0, .float .f32 0, .float .f32 0, .float .f32 0, .float .f32 0, .float .f32 0, .float .f32 0, .float .f32 0, .float .f32 0] 24)) := below_allocs3 ..
  have L0 := Lib.hid l0; clear l0
  have L1 := Lib.hid l1; clear l1
  go_enter Try.func15, Try.ntmps15
  go_wp2
  generalize hW : (((w.alloc (.cells (fl xs) 24)).alloc (.cells (fl ys) 24)).alloc (.cells #[.float .f32 0, .float .f32 0, .float .f32 0, .float .f32 0, .float .f32 0, .float .f32 0, .float .f32 0, .float .f32 0, .float .f32 0, .float .f32 0, .float .f32 0, .float .f32 0, .float .f32 0, .float .f32 0, .float .f32 0, .float .f32 0] 24)) = W at *
  clear hW
  go_loopw [5] (fun i wr => ∃ (k : Nat) (zs : List Nat), k ≤ 16 ∧ i = .int .i64 k ∧ Below w.heap.size w wr ∧ Blk wr w.heap.size zs 24 ∧ Blk wr (w.heap.size + 1) ys 24 ∧ Blk wr (w.heap.size + 1 + 1) (List.replicate 16 0) 24 ∧ DoneTo (cfMixBlocks xs ys) k zs ∧ RestFrom xs k zs) (fun i _ => 16 - (intOf i).toNat)
  case atStart => exact ⟨0, _, by omega, rfl, hb, h0, h1, hR, DoneTo.zero _ _ L0.out, RestFrom.self _⟩
  case round =>
    clear hb hR h0 h1
    obtain ⟨k, zs, hk, rfl, hb, h0, h1, hR, hd, hr⟩ := hrel
    by_cases hlt : k < 16
    · have c0 := h0.cell k (by rw [hd.1]; exact hlt)
      rw [hr k (Nat.le_refl _)] at c0
      have f0 := h0.free k
      have c1 := h1.cell k (by rw [L1.out]; exact hlt)
      have hi : (0 : Int) ≤ k := by omega
      have hi2 : (k : Int) < 16 := by omega
      have HD := Lib.hid hd; have HR := Lib.hid hr; clear hd hr
      go_wp2
      go_region
      go_wp2
      all_goals
        go_roundw
        case rel => exact ⟨k + 1, zs.set k _, by omega, by go_num, (by first | exact below_setCell hb (by omega) _ | exact below_drewN (below_setCell hb (by omega) _) _ | exact below_setCell (below_drewN hb _) (by omega) _), h0.set _ _, h1.other (by omega) _, hR.other (by omega) _, HD.out.set hlt (by simp only [cv_fval]; rfl), HR.out.set _⟩
        case measure => simp [intOf]; omega
    · have e : k = 16 := by omega
      subst e
      have hl := Lib.hid hd.1; have HD := Lib.hid hd; clear hd hr
      go_wp2_with (first | (refine wpList_load_blk rfl 24 _ rfl _ rfl h0 Try.underlying24 info_blk hl.out ?_) | (refine wpList_store_blk rfl 24 _ _ rfl _ rfl rfl hR info_blk hl.out rfl ?_))
      exact bodyPost_ret (results_blk rfl _ _ _ rfl (hR.row zs) Try.underlying24 info_blk hl.out) rfl ⟨zs, rfl, HD.out, below_setRow hb (by omega) _⟩
theorem c_sScaleBlock (xs : List Nat) (by0 : Nat) (w : World) (l0 : xs.length = 16) : Calls Try.prog 19 #[.agg (fl xs), .float .f32 by0] w (BlkPost (cfScaleBlock xs by0) w) := by
  have h0 : Blk ((w.alloc (.cells (fl xs) 24)).alloc (.cells #[.float .f32 0, .float .f32 0, .float .f32 0, .float .f32 0, .float .f32 0, .float .f32 0, .float .f32 0, .float .f32 0, .float .f32 0, .float .f32 0, .float .f32 0, .float .f32 0, .float .f32 0, .float .f32 0, .float .f32 0, .float .f32 0] 24)) w.heap.size xs 24 := by
    refine (Blk.newRow _ _ _ _ _ ?_ ?_).alloc _
    · rfl
    · rfl
  have hR : Blk ((w.alloc (.cells (fl xs) 24)).alloc (.cells #[.float .f32 0, .float .f32 0, .float .f32 0, .float .f32 0, .float .f32 0, .float .f32 0, .float .f32 0, .float .f32 0, .float .f32 0, .float .f32 0, .float .f32 0, .float .f32 0, .float .f32 0, .float .f32 0, .float .f32 0, .float .f32 0] 24)) (w.heap.size + 1) (List.replicate 16 0) 24 := by
    refine Blk.newRow _ _ _ _ _ ?_ ?_
    · simp
    · rfl
  have hb : Below w.heap.size w ((w.alloc (.cells (fl xs) 24)).alloc (.cells #[.float .f32 0, .float .f32 0, .float .f32 0, .float .f32 0, .float .f32 0, .float .f32 0, .float .f32 0, .float .f32 0, .float .f32 0, .float .f32 0, .float .f32 0, .float .f32 0, .float .f32 0, .float .f32 0, .float .f32 0, .float .f32 0] 24)) := below_allocs2 ..
  have L0 := Lib.hid l0; clear l0
  go_enter Try.func19, Try.ntmps19
  go_wp2
  generalize hW : ((w.alloc (.cells (fl xs) 24)).alloc (.cells #[.float .f32 0, .float .f32 0, .float .f32 0, .float .f32 0, .float .f32 0, .float .f32 0, .float .f32 0, .float .f32 0, .float .f32 0, .float .f32 0, .float .f32 0, .float .f32 0, .float .f32 0, .float .f32 0, .float .f32 0, .float .f32 0] 24)) = W at *
  clear hW
  go_loopw [5] (fun i wr => ∃ (k : Nat) (zs : List Nat), k ≤ 16 ∧ i = .int .i64 k ∧ Below w.heap.size w wr ∧ Blk wr w.heap.size zs 24 ∧ Blk wr (w.heap.size + 1) (List.replicate 16 0) 24 ∧ DoneTo (cfScaleBlock xs by0) k zs ∧ RestFrom xs k zs) (fun i _ => 16 - (intOf i).toNat)
  case atStart => exact ⟨0, _, by omega, rfl, hb, h0, hR, DoneTo.zero _ _ L0.out, RestFrom.self _⟩
  case round =>
    clear hb hR h0
    obtain ⟨k, zs, hk, rfl, hb, h0, hR, hd, hr⟩ := hrel
    by_cases hlt : k < 16
    · have c0 := h0.cell k (by rw [hd.1]; exact hlt)
      rw [hr k (Nat.le_refl _)] at c0
      have f0 := h0.free k
      have hi : (0 : Int) ≤ k := by omega
      have hi2 : (k : Int) < 16 := by omega
      have HD := Lib.hid hd; have HR := Lib.hid hr; clear hd hr
      go_wp2
      all_goals
        go_roundw
        case rel => exact ⟨k + 1, zs.set k _, by omega, by go_num, (by first | exact below_setCell hb (by omega) _ | exact below_drewN (below_setCell hb (by omega) _) _ | exact below_setCell (below_drewN hb _) (by omega) _), h0.set _ _, hR.other (by omega) _, HD.out.set hlt (by simp only [cv_fval]; rfl), HR.out.set _⟩
        case measure => simp [intOf]; omega
    · have e : k = 16 := by omega
      subst e
      have hl := Lib.hid hd.1; have HD := Lib.hid hd; clear hd hr
      go_wp2_with (first | (refine wpList_load_blk rfl 24 _ rfl _ rfl h0 Try.underlying24 info_blk hl.out ?_) | (refine wpList_store_blk rfl 24 _ _ rfl _ rfl rfl hR info_blk hl.out rfl ?_))
      exact bodyPost_ret (results_blk rfl _ _ _ rfl (hR.row zs) Try.underlying24 info_blk hl.out) rfl ⟨zs, rfl, HD.out, below_setRow hb (by omega) _⟩
theorem c_sRampBlock (xs : List Nat) (fr0 : Nat) (to0 : Nat) (w : World) (l0 : xs.length = 16) : Calls Try.prog 28 #[.agg (fl xs), .float .f32 fr0, .float .f32 to0] w (BlkPost (cfRampBlock xs fr0 to0) w) := by
  have h0 : Blk ((w.alloc (.cells (fl xs) 24)).alloc (.cells #[.float .f32 0, .float .f32 0, .float .f32 0, .float .f32 0, .float .f32 0, .float .f32 0, .float .f32 0, .float .f32 0, .float .f32 0, .float .f32 0, .float .f32 0, .float .f32 0, .float .f32 0, .float .f32 0, .float .f32 0, .float .f32 0] 24)) w.heap.size xs 24 := by
    refine (Blk.newRow _ _ _ _ _ ?_ ?_).alloc _
    · rfl
    · rfl
  have hR : Blk ((w.alloc (.cells (fl xs) 24)).alloc (.cells #[.float .f32 0, .float .f32 0, .float .f32 0, .float .f32 0, .float .f32 0, .float .f32 0, .float .f32 0, .float .f32 0, .float .f32 0, .float .f32 0, .float .f32 0, .float .f32 0, .float .f32 0, .float .f32 0, .float .f32 0, .float .f32 0] 24)) (w.heap.size + 1) (List.replicate 16 0) 24 := by
    refine Blk.newRow _ _ _ _ _ ?_ ?_
    · simp
    · rfl
  have hb : Below w.heap.size w ((w.alloc (.cells (fl xs) 24)).alloc (.cells #[.float .f32 0, .float .f32 0, .float .f32 0, .float .f32 0, .float .f32 0, .float .f32 0, .float .f32 0, .float .f32 0, .float .f32 0, .float .f32 0, .float .f32 0, .float .f32 0, .float .f32 0, .float .f32 0, .float .f32 0, .float .f32 0] 24)) := below_allocs2 ..
  have L0 := Lib.hid l0; clear l0
  go_enter Try.func28, Try.ntmps28
  go_wp2
  generalize hW : ((w.alloc (.cells (fl xs) 24)).alloc (.cells #[.float .f32 0, .float .f32 0, .float .f32 0, .float .f32 0, .float .f32 0, .float .f32 0, .float .f32 0, .float .f32 0, .float .f32 0, .float .f32 0, .float .f32 0, .float .f32 0, .float .f32 0, .float .f32 0, .float .f32 0, .float .f32 0] 24)) = W at *
  clear hW
  go_loopw [7] (fun i wr => ∃ (k : Nat) (zs : List Nat), k ≤ 16 ∧ i = .int .i64 k ∧ Below w.heap.size w wr ∧ Blk wr w.heap.size zs 24 ∧ Blk wr (w.heap.size + 1) (List.replicate 16 0) 24 ∧ DoneTo (cfRampBlock xs fr0 to0) k zs ∧ RestFrom xs k zs) (fun i _ => 16 - (intOf i).toNat)
  case atStart => exact ⟨0, _, by omega, rfl, hb, h0, hR, DoneTo.zero _ _ L0.out, RestFrom.self _⟩
  case round =>
    clear hb hR h0
    obtain ⟨k, zs, hk, rfl, hb, h0, hR, hd, hr⟩ := hrel
    by_cases hlt : k < 16
    · have c0 := h0.cell k (by rw [hd.1]; exact hlt)
      rw [hr k (Nat.le_refl _)] at c0
      have f0 := h0.free k
      have hi : (0 : Int) ≤ k := by omega
      have hi2 : (k : Int) < 16 := by omega
      have HD := Lib.hid hd; have HR := Lib.hid hr; clear hd hr
      go_wp2
      all_goals
        go_roundw
        case rel => exact ⟨k + 1, zs.set k _, by omega, by go_num, (by first | exact below_setCell hb (by omega) _ | exact below_drewN (below_setCell hb (by omega) _) _ | exact below_setCell (below_drewN hb _) (by omega) _), h0.set _ _, hR.other (by omega) _, HD.out.set hlt (by simp only [cv_fval]; rfl), HR.out.set _⟩
        case measure => simp [intOf]; omega
    · have e : k = 16 := by omega
      subst e
      have hl := Lib.hid hd.1; have HD := Lib.hid hd; clear hd hr
      go_wp2_with (first | (refine wpList_load_blk rfl 24 _ rfl _ rfl h0 Try.underlying24 info_blk hl.out ?_) | (refine wpList_store_blk rfl 24 _ _ rfl _ rfl rfl hR info_blk hl.out rfl ?_))
      exact bodyPost_ret (results_blk rfl _ _ _ rfl (hR.row zs) Try.underlying24 info_blk hl.out) rfl ⟨zs, rfl, HD.out, below_setRow hb (by omega) _⟩
def flushC (c : CF) : CF := if (ordC .f32 (absC32 c) (cv .f32 8388608) == some .lt) = true then cv .f32 0 else c
theorem c_iFlushSample (a : Nat) (w : World) : Calls Try.prog 62 #[.float .f32 a] w (SamPost (flushC (cv .f32 a)) w) := by
  by_cases h : (ordC .f32 (absC32 (cv .f32 a)) (cv .f32 8388608) == some .lt) = true
  · go_enter Try.func62, Try.ntmps62
    go_wp2_with (go_at_call 57; refine (c_absolute _ _).mono ?_; rintro e w' ⟨r, n, rfl, HR, rfl⟩)
    go_ret
    exact ⟨_, rfl, by unfold flushC; rw [if_pos h], below_drewN (Below.refl _ _) _⟩
  · have h' : (ordC .f32 (absC32 (cv .f32 a)) (cv .f32 8388608) == some .lt) = false := by simpa using h
    go_enter Try.func62, Try.ntmps62
    go_wp2_with (go_at_call 57; refine (c_absolute _ _).mono ?_; rintro e w' ⟨r, n, rfl, HR, rfl⟩)
    go_ret
    exact ⟨_, rfl, by unfold flushC; rw [if_neg h], below_drewN (Below.refl _ _) _⟩
theorem c_l01Flush (a : Nat) (w : World) : Calls Try.prog 60 #[.float .f32 a] w (SamPost (flushC (cv .f32 a)) w) := by
  by_cases h : (ordC .f32 (absC32 (cv .f32 a)) (cv .f32 8388608) == some .lt) = true
  · go_enter Try.func60, Try.ntmps60
    go_wp2_with (first | (go_at_call 56; refine (c_l01Abs _ _).mono ?_; rintro e w' ⟨rfl, rfl⟩) | go_in)
    go_ret
    exact ⟨_, rfl, by unfold flushC; rw [if_pos h], Below.refl _ _⟩
  · have h' : (ordC .f32 (absC32 (cv .f32 a)) (cv .f32 8388608) == some .lt) = false := by simpa using h
    go_enter Try.func60, Try.ntmps60
    go_wp2_with (first | (go_at_call 56; refine (c_l01Abs _ _).mono ?_; rintro e w' ⟨rfl, rfl⟩) | go_in)
    go_ret
    exact ⟨_, rfl, by unfold flushC; rw [if_neg h], Below.refl _ _⟩

def cfFlushBlock (xs : List Nat) (i : Nat) : CF := flushC (cv .f32 (nth xs i))
theorem c_iFlushBlockAt (ga : Nat) (xs : List Nat) (i : Nat) (w : World) (h0 : Blk w ga xs 24) (l0 : xs.length = 16) (hi : i < 16) :
    Calls Try.prog 61 #[.int .i64 (i : Int), .pointer (some ⟨ga, 0, none⟩)] w (SamPost (cfFlushBlock xs i) w) := by
  have c0 := h0.cell i (by rw [l0]; exact hi)
  have hi0 : (0 : Int) ≤ i := by omega
  have hi2 : (i : Int) < 16 := by omega
  clear l0
  go_enter Try.func61, Try.ntmps61
  go_wp2_with (go_at_call 62; refine (c_iFlushSample _ _).mono ?_; rintro e w1 ⟨r, rfl, hr, b⟩; have HC := Lib.hid hr; clear hr)
  go_ret
  exact ⟨_, rfl, HC.out, b⟩
theorem c_iFlushBlock (xs : List Nat) (w : World) (l0 : xs.length = 16) : Calls Try.prog 36 #[.agg (fl xs)] w (BlkPost (cfFlushBlock xs) w) := by
  have h0 : Blk ((w.alloc (.cells (fl xs) 24)).alloc (.cells #[.float .f32 0, .float .f32 0, .float .f32 0, .float .f32 0, .float .f32 0, .float .f32 0, .float .f32 0, .float .f32 0, .float .f32 0, .float .f32 0, .float .f32 0, .float .f32 0, .float .f32 0, .float .f32 0, .float .f32 0, .float .f32 0] 24)) w.heap.size xs 24 := by
    refine (Blk.newRow _ _ _ _ _ ?_ ?_).alloc _
    · rfl
    · rfl
  have hR : Blk ((w.alloc (.cells (fl xs) 24)).alloc (.cells #[.float .f32 0, .float .f32 0, .float .f32 0, .float .f32 0, .float .f32 0, .float .f32 0, .float .f32 0, .float .f32 0, .float .f32 0, .float .f32 0, .float .f32 0, .float .f32 0, .float .f32 0, .float .f32 0, .float .f32 0, .float .f32 0] 24)) (w.heap.size + 1) (List.replicate 16 0) 24 := by
    refine Blk.newRow _ _ _ _ _ ?_ ?_
    · simp
    · rfl
  have hb : Below w.heap.size w ((w.alloc (.cells (fl xs) 24)).alloc (.cells #[.float .f32 0, .float .f32 0, .float .f32 0, .float .f32 0, .float .f32 0, .float .f32 0, .float .f32 0, .float .f32 0, .float .f32 0, .float .f32 0, .float .f32 0, .float .f32 0, .float .f32 0, .float .f32 0, .float .f32 0, .float .f32 0] 24)) := below_allocs2 ..
  have L0 := Lib.hid l0; clear l0
  go_enter Try.func36, Try.ntmps36
  go_wp2_with fail
  generalize hW : ((w.alloc (.cells (fl xs) 24)).alloc (.cells #[.float .f32 0, .float .f32 0, .float .f32 0, .float .f32 0, .float .f32 0, .float .f32 0, .float .f32 0, .float .f32 0, .float .f32 0, .float .f32 0, .float .f32 0, .float .f32 0, .float .f32 0, .float .f32 0, .float .f32 0, .float .f32 0] 24)) = W at *
  clear hW
  have hK : ∀ (i : Nat) (wr : World), i < 16 → Below W.heap.size W wr → Calls Try.prog 61 (#[.int .i64 (i : Int)] ++ #[.pointer (some ⟨w.heap.size, 0, none⟩)]) wr (SamPost (cfFlushBlock xs i) wr) := by
    intro i wr hi b
    rw [show (#[.int .i64 (i : Int)] ++ #[.pointer (some ⟨w.heap.size, 0, none⟩)] : Array Value) = #[.int .i64 (i : Int), .pointer (some ⟨w.heap.size, 0, none⟩)] from rfl]
    exact c_iFlushBlockAt _ _ i wr (h0.below b h0.lt) L0.out hi
  refine (c_made 61 _ (cfFlushBlock xs) _ (run_enter Try.func61 (by kernel_rfl) (by kernel_rfl)) hK).mono ?_
  clear hK
  rintro e w1 ⟨rs, rfl, hd, b⟩
  have hl := Lib.hid hd.1; have HD := Lib.hid hd; clear hd
  replace hR := hR.below b hR.lt; replace hb := seq_below hb b; clear b h0
  go_wp2_with (refine wpList_store_blk rfl 24 _ _ rfl _ rfl rfl hR info_blk hl.out rfl ?_)
  exact bodyPost_ret (results_blk rfl _ _ _ rfl (hR.row rs) Try.underlying24 info_blk hl.out) rfl ⟨rs, rfl, HD.out, below_setRow hb (by omega) _⟩
theorem c_sFlushBlock (xs : List Nat) (w : World) (l0 : xs.length = 16) : Calls Try.prog 35 #[.agg (fl xs)] w (BlkPost (cfFlushBlock xs) w) := by
  have h0 : Blk ((w.alloc (.cells (fl xs) 24)).alloc (.cells #[.float .f32 0, .float .f32 0, .float .f32 0, .float .f32 0, .float .f32 0, .float .f32 0, .float .f32 0, .float .f32 0, .float .f32 0, .float .f32 0, .float .f32 0, .float .f32 0, .float .f32 0, .float .f32 0, .float .f32 0, .float .f32 0] 24)) w.heap.size xs 24 := by
    refine (Blk.newRow _ _ _ _ _ ?_ ?_).alloc _
    · rfl
    · rfl
  have hR : Blk ((w.alloc (.cells (fl xs) 24)).alloc (.cells #[.float .f32 0, .float .f32 0, .float .f32 0, .float .f32 0, .float .f32 0, .float .f32 0, .float .f32 0, .float .f32 0, .float .f32 0, .float .f32 0, .float .f32 0, .float .f32 0, .float .f32 0, .float .f32 0, .float .f32 0, .float .f32 0] 24)) (w.heap.size + 1) (List.replicate 16 0) 24 := by
    refine Blk.newRow _ _ _ _ _ ?_ ?_
    · simp
    · rfl
  have hb : Below w.heap.size w ((w.alloc (.cells (fl xs) 24)).alloc (.cells #[.float .f32 0, .float .f32 0, .float .f32 0, .float .f32 0, .float .f32 0, .float .f32 0, .float .f32 0, .float .f32 0, .float .f32 0, .float .f32 0, .float .f32 0, .float .f32 0, .float .f32 0, .float .f32 0, .float .f32 0, .float .f32 0] 24)) := below_allocs2 ..
  have L0 := Lib.hid l0; clear l0
  go_enter Try.func35, Try.ntmps35
  go_wp2
  generalize hW : ((w.alloc (.cells (fl xs) 24)).alloc (.cells #[.float .f32 0, .float .f32 0, .float .f32 0, .float .f32 0, .float .f32 0, .float .f32 0, .float .f32 0, .float .f32 0, .float .f32 0, .float .f32 0, .float .f32 0, .float .f32 0, .float .f32 0, .float .f32 0, .float .f32 0, .float .f32 0] 24)) = W at *
  clear hW
  go_loopw [3] (fun i wr => ∃ (k : Nat) (zs : List Nat), k ≤ 16 ∧ i = .int .i64 k ∧ Below w.heap.size w wr ∧ Blk wr w.heap.size zs 24 ∧ Blk wr (w.heap.size + 1) (List.replicate 16 0) 24 ∧ DoneTo (cfFlushBlock xs) k zs ∧ RestFrom xs k zs) (fun i _ => 16 - (intOf i).toNat)
  case atStart => exact ⟨0, _, by omega, rfl, hb, h0, hR, DoneTo.zero _ _ L0.out, RestFrom.self _⟩
  case round =>
    clear hb hR h0
    obtain ⟨k, zs, hk, rfl, hb, h0, hR, hd, hr⟩ := hrel
    by_cases hlt : k < 16
    · have c0 := h0.cell k (by rw [hd.1]; exact hlt)
      rw [hr k (Nat.le_refl _)] at c0
      have f0 := h0.free k
      have hi : (0 : Int) ≤ k := by omega
      have hi2 : (k : Int) < 16 := by omega
      have HD := Lib.hid hd; have HR := Lib.hid hr; clear hd hr
      go_wp2_with fail
      refine (c_l01Flush _ _).mono ?_; rintro e w1 ⟨r, rfl, hr, b⟩
      have HC := Lib.hid hr; clear hr
      replace h0 := h0.below b h0.lt; replace hR := hR.below b hR.lt; replace hb := seq_below hb b; clear b
      replace c0 := h0.cell k (by rw [HD.out.1]; exact hlt)
      replace f0 := h0.free k
      go_wp2
      all_goals
        go_roundw
        case rel => exact ⟨k + 1, zs.set k _, by omega, by go_num, (by first | exact below_setCell hb (by omega) _ | exact below_drewN (below_setCell hb (by omega) _) _ | exact below_setCell (below_drewN hb _) (by omega) _), h0.set _ _, hR.other (by omega) _, HD.out.set hlt HC.out, HR.out.set _⟩
        case measure => simp [intOf]; omega
    · have e : k = 16 := by omega
      subst e
      have hl := Lib.hid hd.1; have HD := Lib.hid hd; clear hd hr
      go_wp2_with (first | (refine wpList_load_blk rfl 24 _ rfl _ rfl h0 Try.underlying24 info_blk hl.out ?_) | (refine wpList_store_blk rfl 24 _ _ rfl _ rfl rfl hR info_blk hl.out rfl ?_))
      exact bodyPost_ret (results_blk rfl _ _ _ rfl (hR.row zs) Try.underlying24 info_blk hl.out) rfl ⟨zs, rfl, HD.out, below_setRow hb (by omega) _⟩
def cfFromShorts (zs : List Int) (i : Nat) : CF := cop .quo .f32 (cv .f32 (floatOfInt .f32 (nthi zs i))) (cv .f32 1191182336)
theorem c_iFromShortsAt (ga : Nat) (zs : List Int) (i : Nat) (w : World) (h0 : Bli w ga zs 36) (l0 : zs.length = 16) (hi : i < 16) :
    Calls Try.prog 53 #[.int .i64 (i : Int), .pointer (some ⟨ga, 0, none⟩)] w (SamPost (cfFromShorts zs i) w) := by
  have c0 := h0.cell i (by rw [l0]; exact hi)
  have hi0 : (0 : Int) ≤ i := by omega
  have hi2 : (i : Int) < 16 := by omega
  clear l0
  go_enter Try.func53, Try.ntmps53
  go_wp2
  all_goals (go_ret; exact ⟨_, rfl, by simp only [cv_fval]; rfl, below_drewN (Below.refl _ _) _⟩)
theorem c_iFromShorts (zs : List Int) (w : World) (l0 : zs.length = 16) : Calls Try.prog 27 #[.agg (il zs)] w (BlkPost (cfFromShorts zs) w) := by
  have h0 : Bli ((w.alloc (.cells (il zs) 36)).alloc (.cells #[.float .f32 0, .float .f32 0, .float .f32 0, .float .f32 0, .float .f32 0, .float .f32 0, .float .f32 0, .float .f32 0, .float .f32 0, .float .f32 0, .float .f32 0, .float .f32 0, .float .f32 0, .float .f32 0, .float .f32 0, .float .f32 0] 24)) w.heap.size zs 36 := by
    refine (Bli.newRow _ _ _ _ _ ?_ ?_).alloc _
    · rfl
    · rfl
  have hR : Blk ((w.alloc (.cells (il zs) 36)).alloc (.cells #[.float .f32 0, .float .f32 0, .float .f32 0, .float .f32 0, .float .f32 0, .float .f32 0, .float .f32 0, .float .f32 0, .float .f32 0, .float .f32 0, .float .f32 0, .float .f32 0, .float .f32 0, .float .f32 0, .float .f32 0, .float .f32 0] 24)) (w.heap.size + 1) (List.replicate 16 0) 24 := by
    refine Blk.newRow _ _ _ _ _ ?_ ?_
    · simp
    · rfl
  have hb : Below w.heap.size w ((w.alloc (.cells (il zs) 36)).alloc (.cells #[.float .f32 0, .float .f32 0, .float .f32 0, .float .f32 0, .float .f32 0, .float .f32 0, .float .f32 0, .float .f32 0, .float .f32 0, .float .f32 0, .float .f32 0, .float .f32 0, .float .f32 0, .float .f32 0, .float .f32 0, .float .f32 0] 24)) := below_allocs2 ..
  have L0 := Lib.hid l0; clear l0
  go_enter Try.func27, Try.ntmps27
  go_wp2_with fail
  generalize hW : ((w.alloc (.cells (il zs) 36)).alloc (.cells #[.float .f32 0, .float .f32 0, .float .f32 0, .float .f32 0, .float .f32 0, .float .f32 0, .float .f32 0, .float .f32 0, .float .f32 0, .float .f32 0, .float .f32 0, .float .f32 0, .float .f32 0, .float .f32 0, .float .f32 0, .float .f32 0] 24)) = W at *
  clear hW
  have hK : ∀ (i : Nat) (wr : World), i < 16 → Below W.heap.size W wr → Calls Try.prog 53 (#[.int .i64 (i : Int)] ++ #[.pointer (some ⟨w.heap.size, 0, none⟩)]) wr (SamPost (cfFromShorts zs i) wr) := by
    intro i wr hi b
    rw [show (#[.int .i64 (i : Int)] ++ #[.pointer (some ⟨w.heap.size, 0, none⟩)] : Array Value) = #[.int .i64 (i : Int), .pointer (some ⟨w.heap.size, 0, none⟩)] from rfl]
    exact c_iFromShortsAt _ _ i wr (h0.below b h0.lt) L0.out hi
  refine (c_made 53 _ (cfFromShorts zs) _ (run_enter Try.func53 (by kernel_rfl) (by kernel_rfl)) hK).mono ?_
  clear hK
  rintro e w1 ⟨rs, rfl, hd, b⟩
  have hl := Lib.hid hd.1; have HD := Lib.hid hd; clear hd
  replace hR := hR.below b hR.lt; replace hb := seq_below hb b; clear b h0
  go_wp2_with (refine wpList_store_blk rfl 24 _ _ rfl _ rfl rfl hR info_blk hl.out rfl ?_)
  exact bodyPost_ret (results_blk rfl _ _ _ rfl (hR.row rs) Try.underlying24 info_blk hl.out) rfl ⟨rs, rfl, HD.out, below_setRow hb (by omega) _⟩
end Go.Proofs.Ytjkffooohpfbdaa
