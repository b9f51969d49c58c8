/- Rows of any cells; the laws' equality over [N]float32; filters. Written by genfe.py. No condition. -/
import Derived.Test.YtpchebclhjgcmaaC1
import Derived.Laws.ResultCell
namespace Go.Proofs.Ytpchebclhjgcmaa
open Go.RowKit Go.Fl

/-- Block g holds the cells cs. -/
def Row (w : World) (g : Nat) (cs : Array Value) (t : TypeId) : Prop := w.heap[g]? = some (.cells cs t)
namespace Row
variable {w : World} {g : Nat} {cs : Array Value} {t : TypeId}
theorem lt (h : Row w g cs t) : g < w.heap.size := by
  rcases Nat.lt_or_ge g w.heap.size with h1 | h1
  · exact h1
  · unfold Row at h; rw [Array.getElem?_eq_none h1] at h; cases h
theorem below {B : Nat} {w' : World} (h : Row w g cs t) (hb : Below B w w') (hg : g < B) : Row w' g cs t := by
  unfold Row; rw [hb.block g hg]; exact h
theorem alloc (h : Row w g cs t) (o : Obj) : Row (w.alloc o) g cs t := by
  unfold Row
  rw [Below.heap_alloc _ _ _ h.lt]; exact h
theorem new (w : World) (cs : Array Value) (t : TypeId) (n : Nat) (h : n = w.heap.size) : Row (w.alloc (.cells cs t)) n cs t := by
  subst h; exact heap_alloc_new _ _
theorem row (h : Row w g cs t) (ds : Array Value) : Row (w.setRow g ds) g ds t := setRow_heap w g _ _ t _ h
theorem cell (h : Row w g cs t) (k : Nat) (v : Value) (hk : cs[k]? = some v) : w.cell? ⟨g, k, none⟩ = some v := by
  rw [Go.Joins.cell_of_block h, hk]
end Row
section
variable {P : Program} {ops : Array Oper} {rest : List Oper} {o : Oper} {a : Act} {w : World} {Q : Exit → Act → World → Prop}
theorem wpList_store_cells (hgd : o.guard = none) (ty : TypeId) (x y : Operand) (ho : o.op = .store ty x y) (g : Nat) (hx : a.eval x = .pointer (some ⟨g, 0, none⟩)) {cells : Array Value} (hy : a.eval y = .agg cells) {old : Array Value} {t : TypeId} (hb : Row w g old t)
    (hi : (P.info? ty).map (·.size) = some cells.size) (hold : old.size = cells.size) (h1 : cells.toList.all (·.oneCell') = true) (h : wpList P ops Q rest (a.put o.dst undef) (w.setRow g cells)) : wpList P ops Q (o :: rest) a w :=
  wpList_store_row hgd ty x y ho g cells hx hy t old hb hi hold (by rw [← Array.all_toList]; exact h1) h
/-- .. into the block that was made last: only what is below it, and the new row, are kept. -/
theorem wpList_store_newest (hgd : o.guard = none) (ty : TypeId) (x y : Operand) (ho : o.op = .store ty x y) {w0 : World} (hx : a.eval x = .pointer (some ⟨w0.heap.size, 0, none⟩)) {cells : Array Value} (hy : a.eval y = .agg cells) {old : Array Value} {t : TypeId}
    (hi : (P.info? ty).map (·.size) = some cells.size) (hold : old.size = cells.size) (h1 : cells.toList.all (·.oneCell') = true) (h : ∀ w', Below w0.heap.size w0 w' → Row w' w0.heap.size cells t → wpList P ops Q rest (a.put o.dst undef) w') : wpList P ops Q (o :: rest) a (w0.alloc (.cells old t)) :=
  wpList_store_cells hgd ty x y ho _ hx hy (Row.new w0 old t _ rfl) hi hold h1 (h _ (below_setRow (Go.Joins.below_alloc1 _ _) (Nat.le_refl _) _) ((Row.new w0 old t _ rfl).row cells))
/-- .. into a block of one's own. -/
theorem wpList_store_own (hgd : o.guard = none) (ty : TypeId) (x y : Operand) (ho : o.op = .store ty x y) {g : Nat} (hx : a.eval x = .pointer (some ⟨g, 0, none⟩)) {cells : Array Value} (hy : a.eval y = .agg cells) {w0 : World} (hb0 : Below w0.heap.size w0 w) (hg : w0.heap.size ≤ g) {old : Array Value} {t : TypeId} (hb : Row w g old t)
    (hi : (P.info? ty).map (·.size) = some cells.size) (hold : old.size = cells.size) (h1 : cells.toList.all (·.oneCell') = true) (h : ∀ w', Below w0.heap.size w0 w' → Row w' g cells t → wpList P ops Q rest (a.put o.dst undef) w') : wpList P ops Q (o :: rest) a w :=
  wpList_store_cells hgd ty x y ho _ hx hy hb hi hold h1 (h _ (below_setRow hb0 hg _) (hb.row cells))
theorem wpList_load_cells (hgd : o.guard = none) (ty : TypeId) (x : Operand) (ho : o.op = .load ty x) (g : Nat) (hx : a.eval x = .pointer (some ⟨g, 0, none⟩)) {cells : Array Value} {t : TypeId} (hb : Row w g cells t) {d : TypeDesc}
    (hu : P.underlying ty = some d) (hd : (match d with | .struct _ | .array _ _ => true | _ => false) = true) (hi : (P.info? ty).map (·.size) = some cells.size) (h : wpList P ops Q rest (a.put o.dst (.agg cells)) w) : wpList P ops Q (o :: rest) a w :=
  wpList_load_row hgd ty x ho g hx t cells (0, 0) _ hb hu hd hi h
theorem results_cells {fn : Func} {p : Tmp} {ty : TypeId} (h : fn.results = #[.cell p ty]) (tmps : Array Value) (w : World) (g : Nat) {cs : Array Value} {t : TypeId} {d : TypeDesc}
    (hp : tmps.getD p undef = .pointer (some ⟨g, 0, none⟩)) (hb : Row w g cs t) (hu : P.underlying ty = some d) (hd : (match d with | .struct _ | .array _ _ => true | _ => false) = true) (hi : (P.info? ty).map (·.size) = some cs.size) :
    (results fn tmps).run P w = .ok (.agg cs) w :=
  results_cell_row h tmps w g t cs (0, 0) _ hp hb hu hd hi
theorem results_cells_tmp {fn : Func} {p u : Tmp} {ty : TypeId} (h : fn.results = #[.cell p ty, .tmp u]) (tmps : Array Value) (w : World) (g : Nat) {cs : Array Value} {t : TypeId} {d : TypeDesc} {v : Value}
    (hp : tmps.getD p undef = .pointer (some ⟨g, 0, none⟩)) (hv : tmps.getD u undef = v) (hb : Row w g cs t) (hu : P.underlying ty = some d) (hd : (match d with | .struct _ | .array _ _ => true | _ => false) = true) (hi : (P.info? ty).map (·.size) = some cs.size) :
    (results fn tmps).run P w = .ok (.tuple #[.agg cs, v]) w := by
  rw [results_cell_tmp h, hp, hv]
  simp only [asAddr, Sem.run_pure, Result.andThen_ok, run_loadVar_row w g t ty cs (0, 0) _ hb hu hd hi]
end

set_option maxHeartbeats 4000000 in
theorem c_eqFloat32A2 (xs ys : List Nat) (w : World) (hx : xs.length = 2) (hy : ys.length = 2) (h : ∀ j, j < 2 → cv .f32 (nth xs j) = cv .f32 (nth ys j)) :
    Calls Try.prog 91 #[.agg (fl xs), .agg (fl ys)] w fun e w' => e = .returned (.bool true) ∧ Below w.heap.size w w' := by
  have h1 : Blk ((w.alloc (.cells (fl xs) 27)).alloc (.cells (fl ys) 27)) w.heap.size xs 27 := (Blk.new _ _ _ _ rfl).alloc _
  have h2 : Blk ((w.alloc (.cells (fl xs) 27)).alloc (.cells (fl ys) 27)) (w.heap.size + 1) ys 27 := Blk.new _ _ _ _ (by simp)
  have hb : Below w.heap.size w ((w.alloc (.cells (fl xs) 27)).alloc (.cells (fl ys) 27)) := Go.Joins.below_alloc2 _ _ _
  have HX := Lib.hid hx; have HY := Lib.hid hy; have H := Lib.hid h; clear hx hy h
  go_enter Try.func91, Try.ntmps91
  go_wp2
  generalize hW : (w.alloc (.cells (fl xs) 27)).alloc (.cells (fl ys) 27) = W at *
  clear hW
  go_loopw [5] (fun i wr => ∃ k : Nat, k ≤ 2 ∧ i = .int .i64 k ∧ Below w.heap.size w wr ∧ Blk wr w.heap.size xs 27 ∧ Blk wr (w.heap.size + 1) ys 27) (fun i _ => 2 - (intOf i).toNat)
  case atStart => exact ⟨0, by omega, rfl, hb, h1, h2⟩
  case round =>
    clear hb h1 h2
    obtain ⟨k, hk, rfl, hb, h1, h2⟩ := hrel
    by_cases hlt : k < 2
    · have c1 := h1.cell k (by rw [HX.out]; exact hlt)
      have c2 := h2.cell k (by rw [HY.out]; exact hlt)
      have hi : (0 : Int) ≤ k := by omega
      have hi2 : (k : Int) < 2 := by omega
      have HK := Lib.hid (H.out k hlt)
      go_wp2
      go_region_with (go_at_call 23; refine (c_same32 _ _ _ _ _ HK.out).mono ?_; rintro e w' ⟨rfl, n, rfl⟩)
      all_goals go_wp2
      all_goals go_roundw
      all_goals first
        | exact ⟨k + 1, by omega, by go_num, below_drewN hb _, h1.drewN _, h2.drewN _⟩
        | (simp [intOf]; omega)
    · have e : k = 2 := by omega
      subst e
      go_wp2
      go_ret
      exact ⟨rfl, hb⟩

set_option maxHeartbeats 4000000 in
theorem c_eqFloat32A3 (xs ys : List Nat) (w : World) (hx : xs.length = 3) (hy : ys.length = 3) (h : ∀ j, j < 3 → cv .f32 (nth xs j) = cv .f32 (nth ys j)) :
    Calls Try.prog 90 #[.agg (fl xs), .agg (fl ys)] w fun e w' => e = .returned (.bool true) ∧ Below w.heap.size w w' := by
  have h1 : Blk ((w.alloc (.cells (fl xs) 26)).alloc (.cells (fl ys) 26)) w.heap.size xs 26 := (Blk.new _ _ _ _ rfl).alloc _
  have h2 : Blk ((w.alloc (.cells (fl xs) 26)).alloc (.cells (fl ys) 26)) (w.heap.size + 1) ys 26 := Blk.new _ _ _ _ (by simp)
  have hb : Below w.heap.size w ((w.alloc (.cells (fl xs) 26)).alloc (.cells (fl ys) 26)) := Go.Joins.below_alloc2 _ _ _
  have HX := Lib.hid hx; have HY := Lib.hid hy; have H := Lib.hid h; clear hx hy h
  go_enter Try.func90, Try.ntmps90
  go_wp2
  generalize hW : (w.alloc (.cells (fl xs) 26)).alloc (.cells (fl ys) 26) = W at *
  clear hW
  go_loopw [5] (fun i wr => ∃ k : Nat, k ≤ 3 ∧ i = .int .i64 k ∧ Below w.heap.size w wr ∧ Blk wr w.heap.size xs 26 ∧ Blk wr (w.heap.size + 1) ys 26) (fun i _ => 3 - (intOf i).toNat)
  case atStart => exact ⟨0, by omega, rfl, hb, h1, h2⟩
  case round =>
    clear hb h1 h2
    obtain ⟨k, hk, rfl, hb, h1, h2⟩ := hrel
    by_cases hlt : k < 3
    · have c1 := h1.cell k (by rw [HX.out]; exact hlt)
      have c2 := h2.cell k (by rw [HY.out]; exact hlt)
      have hi : (0 : Int) ≤ k := by omega
      have hi2 : (k : Int) < 3 := by omega
      have HK := Lib.hid (H.out k hlt)
      go_wp2
      go_region_with (go_at_call 23; refine (c_same32 _ _ _ _ _ HK.out).mono ?_; rintro e w' ⟨rfl, n, rfl⟩)
      all_goals go_wp2
      all_goals go_roundw
      all_goals first
        | exact ⟨k + 1, by omega, by go_num, below_drewN hb _, h1.drewN _, h2.drewN _⟩
        | (simp [intOf]; omega)
    · have e : k = 3 := by omega
      subst e
      go_wp2
      go_ret
      exact ⟨rfl, hb⟩



/-- A filter's cells. -/
def filt (k : Int) (c0 c1 c2 s0 s1 : Nat) : Array Value := #[.int .i64 k, .float .f32 c0, .float .f32 c1, .float .f32 c2, .float .f32 s0, .float .f32 s1]
theorem c_eqA3 (a0 a1 a2 b0 b1 b2 : Nat) (w : World) (h0 : cv .f32 a0 = cv .f32 b0) (h1 : cv .f32 a1 = cv .f32 b1) (h2 : cv .f32 a2 = cv .f32 b2) :
    Calls Try.prog 90 #[.agg #[.float .f32 a0, .float .f32 a1, .float .f32 a2], .agg #[.float .f32 b0, .float .f32 b1, .float .f32 b2]] w fun e w' => e = .returned (.bool true) ∧ Below w.heap.size w w' := by
  have hh : ∀ j, j < 3 → cv .f32 (nth [a0, a1, a2] j) = cv .f32 (nth [b0, b1, b2] j) := by
    intro j hj
    rcases (by omega : j = 0 ∨ j = 1 ∨ j = 2) with rfl | rfl | rfl
    · exact h0
    · exact h1
    · exact h2
  have key := c_eqFloat32A3 [a0, a1, a2] [b0, b1, b2] w rfl rfl hh
  simp only [fl, List.map_cons, List.map_nil] at key
  exact key
theorem c_eqA2 (a0 a1 b0 b1 : Nat) (w : World) (h0 : cv .f32 a0 = cv .f32 b0) (h1 : cv .f32 a1 = cv .f32 b1) :
    Calls Try.prog 91 #[.agg #[.float .f32 a0, .float .f32 a1], .agg #[.float .f32 b0, .float .f32 b1]] w fun e w' => e = .returned (.bool true) ∧ Below w.heap.size w w' := by
  have hh : ∀ j, j < 2 → cv .f32 (nth [a0, a1] j) = cv .f32 (nth [b0, b1] j) := by
    intro j hj
    rcases (by omega : j = 0 ∨ j = 1) with rfl | rfl
    · exact h0
    · exact h1
  have key := c_eqFloat32A2 [a0, a1] [b0, b1] w rfl rfl hh
  simp only [fl, List.map_cons, List.map_nil] at key
  exact key
theorem c_eqFilter (k : Int) (a0 a1 a2 s0 s1 b0 b1 b2 t0 t1 : Nat) (w : World) (h0 : cv .f32 a0 = cv .f32 b0) (h1 : cv .f32 a1 = cv .f32 b1) (h2 : cv .f32 a2 = cv .f32 b2) (g0 : cv .f32 s0 = cv .f32 t0) (g1 : cv .f32 s1 = cv .f32 t1) :
    Calls Try.prog 51 #[.agg (filt k a0 a1 a2 s0 s1), .agg (filt k b0 b1 b2 t0 t1)] w fun e w' => e = .returned (.bool true) ∧ Below w.heap.size w w' := by
  have hA : Row ((w.alloc (.cells (filt k a0 a1 a2 s0 s1) 35)).alloc (.cells (filt k b0 b1 b2 t0 t1) 35)) w.heap.size (filt k a0 a1 a2 s0 s1) 35 := (Row.new _ _ _ _ rfl).alloc _
  have hB : Row ((w.alloc (.cells (filt k a0 a1 a2 s0 s1) 35)).alloc (.cells (filt k b0 b1 b2 t0 t1) 35)) (w.heap.size + 1) (filt k b0 b1 b2 t0 t1) 35 := Row.new _ _ _ _ (by simp)
  have hb := Go.Joins.below_alloc2 w (.cells (filt k a0 a1 a2 s0 s1) 35) (.cells (filt k b0 b1 b2 t0 t1) 35)
  unfold filt at *
  have H0 := Lib.hid h0; have H1 := Lib.hid h1; have H2 := Lib.hid h2; have G0 := Lib.hid g0; have G1 := Lib.hid g1; clear h0 h1 h2 g0 g1
  go_enter Try.func51, Try.ntmps51
  go_wp2_with (go_at_call 90; refine (c_eqA3 _ _ _ _ _ _ _ H0.out H1.out H2.out).mono ?_; rintro e w1 ⟨rfl, b1⟩; replace hA := hA.below b1 hA.lt; replace hB := hB.below b1 hB.lt; replace hb := seq_below hb b1; clear b1; have p0 := hA.cell 4 _ rfl; have p1 := hA.cell 5 _ rfl; have q0 := hB.cell 4 _ rfl; have q1 := hB.cell 5 _ rfl)
  go_at_call 91
  refine (c_eqA2 _ _ _ _ _ G0.out G1.out).mono ?_; rintro e w2 ⟨rfl, b2⟩
  clear p0 p1 q0 q1
  go_wp2
  go_ret
  exact ⟨rfl, seq_below hb b2⟩

theorem info_filter : (Try.prog.info? 35).map (·.size) = some 6 := by kernel_rfl

theorem c_iOneZero (a : Nat) (w : World) : Calls Try.prog 62 #[.float .f32 a] w fun e w' => ∃ r, e = .returned (.agg (filt 2 r a 0 0 0)) ∧ cv .f32 r = cop .sub .f32 (cv .f32 1065353216) (cv .f32 a) ∧ Below w.heap.size w w' := by
  have hR := Row.new w #[.int .i64 0, .float .f32 0, .float .f32 0, .float .f32 0, .float .f32 0, .float .f32 0] 35 _ rfl
  unfold filt
  go_enter Try.func62, Try.ntmps62
  have hb0 := Go.Joins.below_alloc1 w (.cells #[.int .i64 0, .float .f32 0, .float .f32 0, .float .f32 0, .float .f32 0, .float .f32 0] 35)
  go_wp2_with (refine wpList_store_own rfl 35 _ _ rfl rfl rfl (by first | exact hb0 | exact below_drewN hb0 _) (Nat.le_refl _) hR info_filter rfl rfl (fun w1 b1 h1 => ?_))
  exact bodyPost_ret (results_cells rfl _ _ _ rfl h1 Try.underlying35 rfl info_filter) rfl ⟨_, rfl, cv_fval .., b1⟩
theorem c_sOneZero (a : Nat) (w : World) : Calls Try.prog 57 #[.float .f32 a] w fun e w' => ∃ r, e = .returned (.agg (filt 2 r a 0 0 0)) ∧ cv .f32 r = cop .sub .f32 (cv .f32 1065353216) (cv .f32 a) ∧ Below w.heap.size w w' := by
  have hR := Row.new w #[.int .i64 0, .float .f32 0, .float .f32 0, .float .f32 0, .float .f32 0, .float .f32 0] 35 _ rfl
  unfold filt
  go_enter Try.func57, Try.ntmps57
  have hb0 := Go.Joins.below_alloc1 w (.cells #[.int .i64 0, .float .f32 0, .float .f32 0, .float .f32 0, .float .f32 0, .float .f32 0] 35)
  go_wp2_with (refine wpList_store_own rfl 35 _ _ rfl rfl rfl (by first | exact hb0 | exact below_drewN hb0 _) (Nat.le_refl _) hR info_filter rfl rfl (fun w1 b1 h1 => ?_))
  exact bodyPost_ret (results_cells rfl _ _ _ rfl h1 Try.underlying35 rfl info_filter) rfl ⟨_, rfl, cv_fval .., b1⟩

theorem c_iOnePole (a : Nat) (w : World) : Calls Try.prog 73 #[.float .f32 a] w fun e w' => ∃ r, e = .returned (.agg (filt 1 r a 0 0 0)) ∧ cv .f32 r = cop .sub .f32 (cv .f32 1065353216) (cv .f32 a) ∧ Below w.heap.size w w' := by
  have hR := Row.new w #[.int .i64 0, .float .f32 0, .float .f32 0, .float .f32 0, .float .f32 0, .float .f32 0] 35 _ rfl
  unfold filt
  go_enter Try.func73, Try.ntmps73
  have hb0 := Go.Joins.below_alloc1 w (.cells #[.int .i64 0, .float .f32 0, .float .f32 0, .float .f32 0, .float .f32 0, .float .f32 0] 35)
  go_wp2_with (refine wpList_store_own rfl 35 _ _ rfl rfl rfl (by first | exact hb0 | exact below_drewN hb0 _) (Nat.le_refl _) hR info_filter rfl rfl (fun w1 b1 h1 => ?_))
  exact bodyPost_ret (results_cells rfl _ _ _ rfl h1 Try.underlying35 rfl info_filter) rfl ⟨_, rfl, cv_fval .., b1⟩
theorem c_sOnePole (a : Nat) (w : World) : Calls Try.prog 68 #[.float .f32 a] w fun e w' => ∃ r, e = .returned (.agg (filt 1 r a 0 0 0)) ∧ cv .f32 r = cop .sub .f32 (cv .f32 1065353216) (cv .f32 a) ∧ Below w.heap.size w w' := by
  have hR := Row.new w #[.int .i64 0, .float .f32 0, .float .f32 0, .float .f32 0, .float .f32 0, .float .f32 0] 35 _ rfl
  unfold filt
  go_enter Try.func68, Try.ntmps68
  have hb0 := Go.Joins.below_alloc1 w (.cells #[.int .i64 0, .float .f32 0, .float .f32 0, .float .f32 0, .float .f32 0, .float .f32 0] 35)
  go_wp2_with (refine wpList_store_own rfl 35 _ _ rfl rfl rfl (by first | exact hb0 | exact below_drewN hb0 _) (Nat.le_refl _) hR info_filter rfl rfl (fun w1 b1 h1 => ?_))
  exact bodyPost_ret (results_cells rfl _ _ _ rfl h1 Try.underlying35 rfl info_filter) rfl ⟨_, rfl, cv_fval .., b1⟩


end Go.Proofs.Ytpchebclhjgcmaa
