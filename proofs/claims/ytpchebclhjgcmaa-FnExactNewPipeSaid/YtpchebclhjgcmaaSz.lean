/- New rings. Marks of rings. Rings made and marked: the same with the length apart. No condition. -/
import Derived.Test.YtpchebclhjgcmaaSw
namespace Go.Proofs.Ytpchebclhjgcmaa
open Go.RowKit Go.Fl
theorem inB_true' {a b c : Int} (h : inB a b c = true) : b ≤ a ∧ a ≤ c := by simpa [inB] using h
set_option maxRecDepth 20000 in
theorem c_iNewRing_no (n : Int) (w : World) (h : inB n 1 1024 = false) : Calls Try.prog 60 #[.int .i64 n] w fun e w' => e = .returned (.tuple #[.agg #[.slice none 0 0, .int .i64 0], .int .i64 2]) ∧ Below w.heap.size w w' := by
  have hR := Row.new w #[.slice none 0 0, .int .i64 0] 34 _ rfl
  have hb0 := Go.Joins.below_alloc1 w (.cells #[.slice none 0 0, .int .i64 0] 34)
  go_enter Try.func60, Try.ntmps60
  go_wp2_with (first
    | (go_at_call 69; refine (c_within _ _ _ _ _ h).mono ?_; rintro e w1 ⟨rfl, rfl⟩)
    | (refine wpList_store_own rfl 34 _ _ rfl rfl rfl hb0 (Nat.le_refl _) hR info_ring rfl rfl (fun w2 b2 h2 => ?_)))
  exact bodyPost_ret (results_cells_tmp rfl _ _ _ rfl rfl h2 Try.underlying34 rfl info_ring) rfl ⟨rfl, b2⟩
set_option maxRecDepth 20000 in
theorem c_iNewRing (n : Nat) (w : World) (h : inB n 1 1024 = true) : Calls Try.prog 60 #[.int .i64 n] w fun e w' => ∃ g, e = .returned (.tuple #[.agg #[.slice (some ⟨g, 0, none⟩) n n, .int .i64 0], .int .i64 0]) ∧ Blk w' g (List.replicate n 0) 25 ∧ w.heap.size ≤ g ∧ Below w.heap.size w w' := by
  obtain ⟨hlo, hhi⟩ := inB_true' h
  have hmk := fun W => run_make_row' (P := Try.prog) 22 25 (.float .f32 0) 4 Try.underlying22 info_f32e rfl .i64 .i64 n (by omega) (by omega) W
  have hR := (Row.new w #[.slice none 0 0, .int .i64 0] 34 _ rfl).alloc (.cells (madeCells #[.float .f32 0] n) 25)
  have hb0 := Go.Joins.below_alloc2 w (.cells #[.slice none 0 0, .int .i64 0] 34) (.cells (madeCells #[.float .f32 0] n) 25)
  have hZ : Blk ((w.alloc (.cells #[.slice none 0 0, .int .i64 0] 34)).alloc (.cells (madeCells #[.float .f32 0] n) 25)) (w.heap.size + 1) (List.replicate n 0) 25 := Blk.newRow _ _ _ _ _ (by simp) (made_fl n)
  go_enter Try.func60, Try.ntmps60
  go_wp2_with (first
    | (go_at_call 69; refine (c_within _ _ _ _ _ h).mono ?_; rintro e w1 ⟨rfl, rfl⟩)
    | (refine wpList_store_cells rfl 34 _ _ rfl _ rfl rfl hR info_ring rfl rfl ?_))
  exact bodyPost_ret (results_cells_tmp rfl _ _ _ rfl rfl (hR.row _) Try.underlying34 rfl info_ring) rfl ⟨_, rfl, hZ.rowOther (by omega) _, by omega, below_setRow hb0 (Nat.le_refl _) _⟩
end Go.Proofs.Ytpchebclhjgcmaa
namespace Go.Proofs.Ytpchebclhjgcmaa
open Go.RowKit Go.Fl
theorem c_markRing (g c : Nat) (xs : List Nat) (at0 m : Int) (w : World) (hg : Blk w g xs 25) (hl : (xs.length : Int) ≤ 4294967296) (h0 : 0 ≤ m) (h1 : m ≤ 4294967296) :
    Calls Try.prog 63 #[.agg #[.slice (some ⟨g, 0, none⟩) xs.length c, .int .i64 at0], .int .i64 m] w fun e w' => e = .returned (.int .i64 (m + xs.length)) ∧ Blk w' g (markL xs.length m) 25 ∧ Below g w w' ∧ (∀ b, b < w.heap.size → b ≠ g → w'.heap[b]? = w.heap[b]?) := by
  have hg' := hg.alloc (.cells #[.slice (some ⟨g, 0, none⟩) xs.length c, .int .i64 at0] 34)
  have hlt := hg.lt
  have hb : Below g w (w.alloc (.cells #[.slice (some ⟨g, 0, none⟩) xs.length c, .int .i64 at0] 34)) := (Go.Joins.below_alloc1 w _).mono (Nat.le_of_lt hlt)
  have HL := Lib.hid hl; clear hl hg
  go_enter Try.func63, Try.ntmps63
  go_wp2_with (go_at_call 34; refine (c_markFloat32S _ _ _ _ _ hg' HL.out h0 h1).mono ?_; rintro e w1 ⟨rfl, h2, b, ho'⟩; have ho := Lib.hid ho'; clear ho')
  go_ret
  exact ⟨rfl, h2, hb.trans b, fun b hb1 hb2 => (ho.out b hb2).trans (Below.heap_alloc _ _ _ hb1)⟩
theorem c_markRing_nil (A : Option Addr) (c : Nat) (at0 m : Int) (w : World) :
    Calls Try.prog 63 #[.agg #[.slice A 0 c, .int .i64 at0], .int .i64 m] w fun e w' => e = .returned (.int .i64 m) ∧ Below w.heap.size w w' := by
  go_enter Try.func63, Try.ntmps63
  go_wp2_with (go_at_call 34; refine (c_markFloat32S_nil _ _ _ _).mono ?_; rintro e w1 ⟨rfl, rfl⟩)
  go_ret
  exact ⟨rfl, Go.Joins.below_alloc1 _ _⟩
theorem c_heldRing (g c n : Nat) (at0 m : Int) (w : World) (hg : Blk w g (markL n m) 25) (hl : (n : Int) ≤ 4294967296) (h0 : 0 ≤ m) (h1 : m ≤ 4294967296) :
    Calls Try.prog 64 #[.agg #[.slice (some ⟨g, 0, none⟩) n c, .int .i64 at0], .int .i64 m] w fun e w' => e = .returned (.int .i64 (m + n)) ∧ Below w.heap.size w w' := by
  have hg' := hg.alloc (.cells #[.slice (some ⟨g, 0, none⟩) n c, .int .i64 at0] 34)
  have hb := Go.Joins.below_alloc1 w (.cells #[.slice (some ⟨g, 0, none⟩) n c, .int .i64 at0] 34)
  have hn : ¬ (m + (n : Int) < 0) := by omega
  clear hg
  go_enter Try.func64, Try.ntmps64
  go_wp2_with (go_at_call 77; refine (c_heldFloat32S _ _ _ _ _ hg' hl h0 h1).mono ?_; rintro e w1 ⟨rfl, b⟩)
  go_ret
  exact ⟨rfl, seq_below hb b⟩
theorem c_heldRing_nil (A : Option Addr) (c : Nat) (at0 m : Int) (w : World) (h0 : 0 ≤ m) :
    Calls Try.prog 64 #[.agg #[.slice A 0 c, .int .i64 at0], .int .i64 m] w fun e w' => e = .returned (.int .i64 m) ∧ Below w.heap.size w w' := by
  have hn : ¬ (m < 0) := by omega
  go_enter Try.func64, Try.ntmps64
  go_wp2_with (go_at_call 77; refine (c_heldFloat32S_nil _ _ _ _).mono ?_; rintro e w1 ⟨rfl, rfl⟩)
  go_ret
  exact ⟨rfl, Go.Joins.below_alloc1 _ _⟩
end Go.Proofs.Ytpchebclhjgcmaa
namespace Go.Proofs.Ytpchebclhjgcmaa
open Go.RowKit Go.Fl
theorem row_keepBut {w w' : World} {g x : Nat} {cs : Array Value} {t : TypeId} (h : Row w g cs t) (hk : ∀ b, b < w.heap.size → b ≠ x → w'.heap[b]? = w.heap[b]?) (hne : g ≠ x) : Row w' g cs t := by
  have hl := h.lt
  unfold Row at *
  rw [hk g hl hne]; exact h
theorem blk_keepBut {w w' : World} {g x : Nat} {xs : List Nat} {t : TypeId} (h : Blk w g xs t) (hk : ∀ b, b < w.heap.size → b ≠ x → w'.heap[b]? = w.heap[b]?) (hne : g ≠ x) : Blk w' g xs t := by
  have hl := h.lt
  unfold Blk at *
  rw [hk g hl hne]; exact h
theorem c_eqRing_n (A B : Option Addr) (c d n : Nat) (xs ys : List Nat) (at0 : Int) (w : World) (hs : Sl w A xs) (ht : Sl w B ys) (hx : xs.length = n) (hy : ys.length = n) (hl2 : (n : Int) ≤ 4294967296) (h : ∀ j, j < n → cv .f32 (nth xs j) = cv .f32 (nth ys j)) :
    Calls Try.prog 50 #[.agg #[.slice A n c, .int .i64 at0], .agg #[.slice B n d, .int .i64 at0]] w fun e w' => e = .returned (.bool true) ∧ Below w.heap.size w w' := by
  have h1 := c_eqRing A B c d xs ys at0 w hs ht (hx.trans hy.symm) (by omega) (by rw [hx]; exact h)
  rw [hx, hy] at h1; exact h1
theorem c_markRing_n (g c n : Nat) (xs : List Nat) (at0 m : Int) (w : World) (hg : Blk w g xs 25) (hx : xs.length = n) (hl : (n : Int) ≤ 4294967296) (h0 : 0 ≤ m) (h1 : m ≤ 4294967296) :
    Calls Try.prog 63 #[.agg #[.slice (some ⟨g, 0, none⟩) n c, .int .i64 at0], .int .i64 m] w fun e w' => e = .returned (.int .i64 (m + n)) ∧ Blk w' g (markL n m) 25 ∧ Below g w w' ∧ (∀ b, b < w.heap.size → b ≠ g → w'.heap[b]? = w.heap[b]?) := by
  subst hx; exact c_markRing _ _ _ _ _ _ hg hl h0 h1
end Go.Proofs.Ytpchebclhjgcmaa
