/- Rows of any cells; the laws' equality over [N]float32; filters. Written by genfe.py. No condition. -/
import Derived.Test.YtldkfpaigeoppaaC1
import Derived.Laws.ResultCell
namespace Go.Proofs.Ytldkfpaigeoppaa
open Go.RowKit Go.Fl

/-- Block g holds the cells cs. -/
def Row (w : World) (g : Nat) (cs : Array Value) (t : TypeId) : Prop := w.heap[g]? = some (.cells cs t)
namespace Row
variable {w : World} {g : Nat} {cs : Array Value} {t : TypeId}
theorem lt (h : Row w g cs t) : g < w.heap.size := by
  rcases Nat.lt_or_ge g w.heap.size with h1 | h1
  · exact h1
  · unfold Row at h; rw [Array.getElem?_eq_none h1] at h; cases h
theorem below {B : Nat} {w' : World} (h : Row w g cs t) (hb : Below B w w') (hg : g < B) : Row w' g cs t := by
  unfold Row; rw [hb.block g hg]; exact h
theorem alloc (h : Row w g cs t) (o : Obj) : Row (w.alloc o) g cs t := by
  unfold Row
  rw [Below.heap_alloc _ _ _ h.lt]; exact h
theorem new (w : World) (cs : Array Value) (t : TypeId) (n : Nat) (h : n = w.heap.size) : Row (w.alloc (.cells cs t)) n cs t := by
  subst h; exact heap_alloc_new _ _
theorem row (h : Row w g cs t) (ds : Array Value) : Row (w.setRow g ds) g ds t := setRow_heap w g _ _ t _ h
theorem cell (h : Row w g cs t) (k : Nat) (v : Value) (hk : cs[k]? = some v) : w.cell? ⟨g, k, none⟩ = some v := by
  rw [Go.Joins.cell_of_block h, hk]
end Row
section
variable {P : Program} {ops : Array Oper} {rest : List Oper} {o : Oper} {a : Act} {w : World} {Q : Exit → Act → World → Prop}
theorem wpList_store_cells (hgd : o.guard = none) (ty : TypeId) (x y : Operand) (ho : o.op = .store ty x y) (g : Nat) (hx : a.eval x = .pointer (some ⟨g, 0, none⟩)) {cells : Array Value} (hy : a.eval y = .agg cells) {old : Array Value} {t : TypeId} (hb : Row w g old t)
    (hi : (P.info? ty).map (·.size) = some cells.size) (hold : old.size = cells.size) (h1 : cells.toList.all (·.oneCell') = true) (h : wpList P ops Q rest (a.put o.dst undef) (w.setRow g cells)) : wpList P ops Q (o :: rest) a w :=
  wpList_store_row hgd ty x y ho g cells hx hy t old hb hi hold (by rw [← Array.all_toList]; exact h1) h
/-- .. into the block that was made last: only what is below it, and the new row, are kept. -/
theorem wpList_store_newest (hgd : o.guard = none) (ty : TypeId) (x y : Operand) (ho : o.op = .store ty x y) {w0 : World} (hx : a.eval x = .pointer (some ⟨w0.heap.size, 0, none⟩)) {cells : Array Value} (hy : a.eval y = .agg cells) {old : Array Value} {t : TypeId}
    (hi : (P.info? ty).map (·.size) = some cells.size) (hold : old.size = cells.size) (h1 : cells.toList.all (·.oneCell') = true) (h : ∀ w', Below w0.heap.size w0 w' → Row w' w0.heap.size cells t → wpList P ops Q rest (a.put o.dst undef) w') : wpList P ops Q (o :: rest) a (w0.alloc (.cells old t)) :=
  wpList_store_cells hgd ty x y ho _ hx hy (Row.new w0 old t _ rfl) hi hold h1 (h _ (below_setRow (Go.Joins.below_alloc1 _ _) (Nat.le_refl _) _) ((Row.new w0 old t _ rfl).row cells))
/-- .. into a block of one's own. -/
theorem wpList_store_own (hgd : o.guard = none) (ty : TypeId) (x y : Operand) (ho : o.op = .store ty x y) {g : Nat} (hx : a.eval x = .pointer (some ⟨g, 0, none⟩)) {cells : Array Value} (hy : a.eval y = .agg cells) {w0 : World} (hb0 : Below w0.heap.size w0 w) (hg : w0.heap.size ≤ g) {old : Array Value} {t : TypeId} (hb : Row w g old t)
    (hi : (P.info? ty).map (·.size) = some cells.size) (hold : old.size = cells.size) (h1 : cells.toList.all (·.oneCell') = true) (h : ∀ w', Below w0.heap.size w0 w' → Row w' g cells t → wpList P ops Q rest (a.put o.dst undef) w') : wpList P ops Q (o :: rest) a w :=
  wpList_store_cells hgd ty x y ho _ hx hy hb hi hold h1 (h _ (below_setRow hb0 hg _) (hb.row cells))
theorem wpList_load_cells (hgd : o.guard = none) (ty : TypeId) (x : Operand) (ho : o.op = .load ty x) (g : Nat) (hx : a.eval x = .pointer (some ⟨g, 0, none⟩)) {cells : Array Value} {t : TypeId} (hb : Row w g cells t) {d : TypeDesc}
    (hu : P.underlying ty = some d) (hd : (match d with | .struct _ | .array _ _ => true | _ => false) = true) (hi : (P.info? ty).map (·.size) = some cells.size) (h : wpList P ops Q rest (a.put o.dst (.agg cells)) w) : wpList P ops Q (o :: rest) a w :=
  wpList_load_row hgd ty x ho g hx t cells (0, 0) _ hb hu hd hi h
theorem results_cells {fn : Func} {p : Tmp} {ty : TypeId} (h : fn.results = #[.cell p ty]) (tmps : Array Value) (w : World) (g : Nat) {cs : Array Value} {t : TypeId} {d : TypeDesc}
    (hp : tmps.getD p undef = .pointer (some ⟨g, 0, none⟩)) (hb : Row w g cs t) (hu : P.underlying ty = some d) (hd : (match d with | .struct _ | .array _ _ => true | _ => false) = true) (hi : (P.info? ty).map (·.size) = some cs.size) :
    (results fn tmps).run P w = .ok (.agg cs) w :=
  results_cell_row h tmps w g t cs (0, 0) _ hp hb hu hd hi
theorem results_cells_tmp {fn : Func} {p u : Tmp} {ty : TypeId} (h : fn.results = #[.cell p ty, .tmp u]) (tmps : Array Value) (w : World) (g : Nat) {cs : Array Value} {t : TypeId} {d : TypeDesc} {v : Value}
    (hp : tmps.getD p undef = .pointer (some ⟨g, 0, none⟩)) (hv : tmps.getD u undef = v) (hb : Row w g cs t) (hu : P.underlying ty = some d) (hd : (match d with | .struct _ | .array _ _ => true | _ => false) = true) (hi : (P.info? ty).map (·.size) = some cs.size) :
    (results fn tmps).run P w = .ok (.tuple #[.agg cs, v]) w := by
  rw [results_cell_tmp h, hp, hv]
  simp only [asAddr, Sem.run_pure, Result.andThen_ok, run_loadVar_row w g t ty cs (0, 0) _ hb hu hd hi]
end










end Go.Proofs.Ytldkfpaigeoppaa
