/- A row stored into the block that was made last; the laws' blocks. No condition. -/
import Derived.Test.YtdhpaglcggeknaaDoorC8
namespace Go.Proofs.YtdhpaglcggeknaaDoor
open Go.RowKit Go.Fl

section
variable {P : Program} {ops : Array Oper} {rest : List Oper} {o : Oper} {a : Act} {Q : Exit → Act → World → Prop}
theorem wpList_store_last (hgd : o.guard = none) (ty : TypeId) (x y : Operand) (ho : o.op = .store ty x y) {w0 : World} (hx : a.eval x = .pointer (some ⟨w0.heap.size, 0, none⟩)) {ys : List Nat} (hy : a.eval y = .agg (fl ys)) (xs : List Nat) {cs : Array Value} {t : TypeId} (hc : cs = fl xs) {n : Nat}
    (hi : (P.info? ty).map (·.size) = some n) (hn : ys.length = n) (hn' : xs.length = n) (h : ∀ w', Below w0.heap.size w0 w' → Blk w' w0.heap.size ys t → wpList P ops Q rest (a.put o.dst undef) w') : wpList P ops Q (o :: rest) a (w0.alloc (.cells cs t)) :=
  wpList_store_blk hgd ty x y ho _ hx hy (Blk.newRow w0 xs cs t _ rfl hc) hi hn hn' (h _ (below_setRow (below_allocs1 _ _) (Nat.le_refl _) _) ((Blk.newRow w0 xs cs t _ rfl hc).row ys))
theorem wpList_store_lasti (hgd : o.guard = none) (ty : TypeId) (x y : Operand) (ho : o.op = .store ty x y) {w0 : World} (hx : a.eval x = .pointer (some ⟨w0.heap.size, 0, none⟩)) {ys : List Int} (hy : a.eval y = .agg (il ys)) (xs : List Int) {cs : Array Value} {t : TypeId} (hc : cs = il xs) {n : Nat}
    (hi : (P.info? ty).map (·.size) = some n) (hn : ys.length = n) (hn' : xs.length = n) (h : ∀ w', Below w0.heap.size w0 w' → Bli w' w0.heap.size ys t → wpList P ops Q rest (a.put o.dst undef) w') : wpList P ops Q (o :: rest) a (w0.alloc (.cells cs t)) :=
  wpList_store_bli hgd ty x y ho _ hx hy (Bli.newRow w0 xs cs t _ rfl hc) hi hn hn' (h _ (below_setRow (below_allocs1 _ _) (Nat.le_refl _) _) ((Bli.newRow w0 xs cs t _ rfl hc).row ys))
end
end Go.Proofs.YtdhpaglcggeknaaDoor
