/- One operation: a row into a block. No condition. -/
import Derived.Test.YtpbkphjnhmiocaaSr
import Derived.Deep.DeepCutAuto
namespace Go.Fl
open Go.RowKit
theorem wp_store_blk {P : Program} {o : Oper} {a : Act} {w : World} {K : Act → World → Prop} {Q : Exit → Act → World → Prop} (ty : TypeId) (x y : Operand) (ho : o.op = .store ty x y) (g : Nat) (hx : a.eval x = .pointer (some ⟨g, 0, none⟩)) {ys : List Nat} (hy : a.eval y = .agg (fl ys)) {xs : List Nat} {t : TypeId} (hb : Blk w g xs t) {n : Nat}
    (hi : (P.info? ty).map (·.size) = some n) (hn : ys.length = n) (hn' : xs.length = n) (h : K (a.put o.dst undef) (w.setRow g (fl ys))) : o.wp P a w K Q :=
  wp_store_row ty x y ho g (fl ys) hx hy t (fl xs) hb (by rw [hi, fl_size, hn]) (by rw [fl_size, fl_size, hn, hn']) (fl_one ys) h
end Go.Fl
