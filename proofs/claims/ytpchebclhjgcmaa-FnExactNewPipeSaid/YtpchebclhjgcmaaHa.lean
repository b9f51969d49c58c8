/- Parts of rows: loaded and stored. No condition. -/
import Derived.Test.YtpchebclhjgcmaaTe
import Derived.Laws.CopyRow
namespace Go.Fl
open Go.RowKit
/-- A list with a part written over. -/
def over (cs : List Value) (off : Nat) (part : List Value) : List Value := cs.take off ++ part ++ cs.drop (off + part.length)
theorem over_length (cs : List Value) (off : Nat) (part : List Value) (h : off + part.length ≤ cs.length) : (over cs off part).length = cs.length := by
  simp [over]; omega
section
variable {P : Program} {ops : Array Oper} {rest : List Oper} {o : Oper} {a : Act} {w : World} {K : Act → World → Prop} {Q : Exit → Act → World → Prop}
theorem run_loadVar_part (w : World) (g off : Nat) (t ty : TypeId) (cs part : List Value) (d : TypeDesc) (hg : w.heap[g]? = some (.cells cs.toArray t)) (hp : (cs.drop off).take part.length = part)
    (hu : P.underlying ty = some d) (hd : (match d with | .struct _ | .array _ _ => true | _ => false) = true) (hi : (P.info? ty).map (·.size) = some part.length) :
    (loadVar ty ⟨g, off, none⟩).run P w = .ok (.agg part.toArray) w := by
  have hl : (loadCells ⟨g, off, none⟩ part.length).run P w = .ok part.toArray w :=
    run_loadCells_list (P := P) w ⟨g, off, none⟩ part (fun j v hv => by
      have hadd : (⟨g, off, none⟩ : Addr).add j = ⟨g, off + j, none⟩ := by unfold Addr.add; split <;> simp_all
      rw [hadd, cell_of_row w g (off + j) cs.toArray t _ hg]
      rw [← hp, List.getElem?_take] at hv
      split at hv
      · rw [List.getElem?_drop] at hv; simpa using hv
      · cases hv)
  cases hq : P.info? ty with
  | none => simp [hq] at hi
  | some i =>
    have hs : i.size = part.length := by simpa [hq] using hi
    have hagg : (isAgg ty).run P w = .ok true w := by
      unfold isAgg
      rw [Sem.run_bind, run_underlying hu w]
      cases d <;> simp_all
    simp [loadVar, Sem.run_bind, hagg, sizeOf, typeInfo, hq, hs, hl]
theorem wp_load_part (ty : TypeId) (x : Operand) (ho : o.op = .load ty x) (g off : Nat) (hx : a.eval x = .pointer (some ⟨g, off, none⟩)) {t : TypeId} {cs : List Value} (part : List Value) {d : TypeDesc} (hg : w.heap[g]? = some (.cells cs.toArray t)) (hp : (cs.drop off).take part.length = part)
    (hu : P.underlying ty = some d) (hd : (match d with | .struct _ | .array _ _ => true | _ => false) = true) (hi : (P.info? ty).map (·.size) = some part.length)
    (h : K (a.put o.dst (.agg part.toArray)) w) : o.wp P a w K Q := by
  unfold Oper.wp execOp
  simp only [ho, hx, Instr.loadAt, Instr.sureAddr, Sem.run_bind, Sem.run_pure, Result.andThen_ok, run_loadVar_part w g off t ty cs part d hg hp hu hd hi]
  exact h
theorem wpList_load_part (hgd : o.guard = none) (ty : TypeId) (x : Operand) (ho : o.op = .load ty x) (g off : Nat) (hx : a.eval x = .pointer (some ⟨g, off, none⟩)) {t : TypeId} {cs : List Value} (part : List Value) {d : TypeDesc} (hg : w.heap[g]? = some (.cells cs.toArray t)) (hp : (cs.drop off).take part.length = part)
    (hu : P.underlying ty = some d) (hd : (match d with | .struct _ | .array _ _ => true | _ => false) = true) (hi : (P.info? ty).map (·.size) = some part.length)
    (h : wpList P ops Q rest (a.put o.dst (.agg part.toArray)) w) : wpList P ops Q (o :: rest) a w :=
  wpList_plain hgd fun _ hK => wp_load_part ty x ho g off hx part hg hp hu hd hi (hK _ _ h)
/-- .. out of an old block, in a region that draws. -/
theorem yields_load_part {S : World → Prop} {w0 : World} (hgd : o.guard = none) (ty : TypeId) (x : Operand) (ho : o.op = .load ty x) (g off : Nat) (hx : a.eval x = .pointer (some ⟨g, off, none⟩)) {t : TypeId} {cs : List Value} (part : List Value) {d : TypeDesc} (hg : w0.heap[g]? = some (.cells cs.toArray t)) {B : Nat} (hlt : g < B) (hS : ∀ w, S w → Below B w0 w) (hp : (cs.drop off).take part.length = part)
    (hu : P.underlying ty = some d) (hd : (match d with | .struct _ | .array _ _ => true | _ => false) = true) (hi : (P.info? ty).map (·.size) = some part.length) : YieldsIf P ops S o (.agg part.toArray) a :=
  .inl ⟨by simp [Region.wanted, hgd], fun w hw => by
    have hb' : w.heap[g]? = some (.cells cs.toArray t) := by rw [(hS w hw).block g hlt]; exact hg
    unfold execOp
    simp only [ho, hx, Instr.loadAt, Instr.sureAddr, Sem.run_bind, Sem.run_pure, Result.andThen_ok, run_loadVar_part w g off t ty cs part d hb' hp hu hd hi]⟩
theorem run_storeVar_part (w : World) (g off : Nat) (t ty : TypeId) (cs part : List Value) (hg : w.heap[g]? = some (.cells cs.toArray t)) (hi : (P.info? ty).map (·.size) = some part.length)
    (hfit : off + part.length ≤ cs.length) (h1 : part.all (·.oneCell') = true) :
    (storeVar ty ⟨g, off, none⟩ (.agg part.toArray)).run P w = .ok () (w.setRow g (over cs off part).toArray) := by
  have := run_storeCells_at P g off t part 0 cs.toArray w hg (by simpa using hfit) (fun v hv => (List.all_eq_true.1 h1) v hv)
  cases hq : P.info? ty with
  | none => simp [hq] at hi
  | some i =>
    have hs : part.length = i.size := by simp [hq] at hi; omega
    simp only [Nat.add_zero] at this
    simp [storeVar, sizeOf, typeInfo, hq, Value.cells, hs, this, over]
theorem wp_store_part (ty : TypeId) (x y : Operand) (ho : o.op = .store ty x y) (g off : Nat) (hx : a.eval x = .pointer (some ⟨g, off, none⟩)) (part : List Value) (hy : a.eval y = .agg part.toArray) {t : TypeId} {cs : List Value} (hg : w.heap[g]? = some (.cells cs.toArray t)) (hi : (P.info? ty).map (·.size) = some part.length)
    (hfit : off + part.length ≤ cs.length) (h1 : part.all (·.oneCell') = true) (h : K (a.put o.dst undef) (w.setRow g (over cs off part).toArray)) : o.wp P a w K Q := by
  unfold Oper.wp execOp
  simp only [ho, hx, hy, Instr.storeAt, Instr.sureAddr, Sem.run_bind, Sem.run_pure, Result.andThen_ok, run_storeVar_part w g off t ty cs part hg hi hfit h1]
  exact h
theorem wpList_store_part (hgd : o.guard = none) (ty : TypeId) (x y : Operand) (ho : o.op = .store ty x y) (g off : Nat) (hx : a.eval x = .pointer (some ⟨g, off, none⟩)) (part : List Value) (hy : a.eval y = .agg part.toArray) {t : TypeId} {cs : List Value} (hg : w.heap[g]? = some (.cells cs.toArray t)) (hi : (P.info? ty).map (·.size) = some part.length)
    (hfit : off + part.length ≤ cs.length) (h1 : part.all (·.oneCell') = true) (h : wpList P ops Q rest (a.put o.dst undef) (w.setRow g (over cs off part).toArray)) : wpList P ops Q (o :: rest) a w :=
  wpList_plain hgd fun _ hK => wp_store_part ty x y ho g off hx part hy hg hi hfit h1 (hK _ _ h)
end
end Go.Fl
