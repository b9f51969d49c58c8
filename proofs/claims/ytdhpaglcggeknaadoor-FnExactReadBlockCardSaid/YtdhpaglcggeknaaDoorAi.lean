/- Arrays of int16 as values and as rows of cells (as Ar for float32). No condition. -/
import Derived.Test.YtdhpaglcggeknaaDoorSq
namespace Go.Fl
open Go.RowKit Go.ChangeShapes Go.WideShapes Go.WideElems

/-- The cells of an array of int16. -/
def il (xs : List Int) : Array Value := (xs.map (Value.int .i16)).toArray
theorem il_size (xs : List Int) : (il xs).size = xs.length := by simp [il]
/-- Element k (0 behind the end): a name that the walk does not open. -/
def nthi (xs : List Int) (k : Nat) : Int := xs.getD k 0
theorem il_get (xs : List Int) (k : Nat) (h : k < xs.length) : (il xs)[k]? = some (.int .i16 (nthi xs k)) := by
  simp [il, nthi, h]
theorem il_set (xs : List Int) (k : Nat) (x : Int) : (il xs).setIfInBounds k (.int .i16 x) = il (xs.set k x) := by
  unfold il
  rw [List.setIfInBounds_toArray, List.map_set]

/-- Block g holds just these floats: a name that the walk does not open. -/
def Bli (w : World) (g : Nat) (xs : List Int) (t : TypeId) : Prop := w.heap[g]? = some (.cells (il xs) t)
section
variable {w : World} {g : Nat} {xs : List Int} {t : TypeId}
theorem Bli.lt (h : Bli w g xs t) : g < w.heap.size := by
  unfold Bli at h
  rcases Nat.lt_or_ge g w.heap.size with h' | h'
  · exact h'
  · rw [Array.getElem?_eq_none h'] at h; cases h
theorem Bli.cell (h : Bli w g xs t) (k : Nat) (hk : k < xs.length) : w.cell? ⟨g, k, none⟩ = some (.int .i16 (nthi xs k)) := by
  rw [Go.Joins.cell_of_block h, il_get xs k hk]
theorem Bli.free (h : Bli w g xs t) (k : Nat) : w.frozen? ⟨g, k, none⟩ = false := Go.Joins.unfrozen_of_block h k
theorem Bli.set (h : Bli w g xs t) (k : Nat) (x : Int) : Bli (w.setCell ⟨g, k, none⟩ (.int .i16 x)) g (xs.set k x) t := by
  unfold Bli
  rw [Go.Joins.block_setCell h, il_set]
theorem Bli.other (h : Bli w g xs t) {b off : Nat} (ha : g ≠ b) (v : Value) : Bli (w.setCell ⟨b, off, none⟩ v) g xs t := by
  unfold Bli
  rw [Below.heap_setCell _ _ _ _ ha]; exact h
theorem Bli.alloc (h : Bli w g xs t) (o : Obj) : Bli (w.alloc o) g xs t := by
  unfold Bli
  rw [Below.heap_alloc _ _ _ h.lt]; exact h
theorem Bli.drewN (h : Bli w g xs t) (n : Nat) : Bli (w.drewN n) g xs t := h
theorem Bli.drew (h : Bli w g xs t) : Bli w.drew g xs t := h
theorem Bli.below {B : Nat} {w' : World} (h : Bli w g xs t) (hb : Below B w w') (hg : g < B) : Bli w' g xs t := by
  unfold Bli
  rw [hb.block g hg]; exact h
theorem Bli.new (w : World) (xs : List Int) (t : TypeId) (n : Nat) (h : n = w.heap.size) : Bli (w.alloc (.cells (il xs) t)) n xs t := by
  unfold Bli; subst h; exact heap_alloc_new w _
theorem Bli.newRow (w : World) (xs : List Int) (cs : Array Value) (t : TypeId) (n : Nat) (h : n = w.heap.size) (hc : cs = il xs) : Bli (w.alloc (.cells cs t)) n xs t := by
  subst hc; exact Bli.new w xs t n h
theorem Bli.row (h : Bli w g xs t) (ys : List Int) : Bli (w.setRow g (il ys)) g ys t := setRow_heap w g _ _ t _ h
theorem Bli.rowOther (h : Bli w g xs t) {k : Nat} (hk : g ≠ k) (cs : Array Value) : Bli (w.setRow k cs) g xs t := by
  unfold Bli
  rw [setRow_other w k g cs hk]; exact h
end
theorem il_one (xs : List Int) : (il xs).all (·.oneCell') = true := by
  rw [Array.all_eq_true_iff_forall_mem]
  intro v hv
  simp only [il, List.mem_toArray, List.mem_map] at hv
  obtain ⟨x, _, rfl⟩ := hv
  rfl

section
variable {P : Program} {ops : Array Oper} {rest : List Oper} {o : Oper} {a : Act} {w : World} {Q : Exit → Act → World → Prop}
/-- A whole array out of its block. -/
theorem wpList_load_bli (hgd : o.guard = none) (ty : TypeId) (x : Operand) (ho : o.op = .load ty x) (g : Nat) (hx : a.eval x = .pointer (some ⟨g, 0, none⟩)) {xs : List Int} {t : TypeId} (hb : Bli w g xs t) {n : Nat} {e : TypeId}
    (hu : P.underlying ty = some (.array n e)) (hi : (P.info? ty).map (·.size) = some n) (hn : xs.length = n) (h : wpList P ops Q rest (a.put o.dst (.agg (il xs))) w) : wpList P ops Q (o :: rest) a w :=
  wpList_load_row hgd ty x ho g hx t (il xs) (0, 0) _ hb hu rfl (by rw [hi, il_size, hn]) h
/-- A whole array into a block. -/
theorem wpList_store_bli (hgd : o.guard = none) (ty : TypeId) (x y : Operand) (ho : o.op = .store ty x y) (g : Nat) (hx : a.eval x = .pointer (some ⟨g, 0, none⟩)) {ys : List Int} (hy : a.eval y = .agg (il ys)) {xs : List Int} {t : TypeId} (hb : Bli w g xs t) {n : Nat}
    (hi : (P.info? ty).map (·.size) = some n) (hn : ys.length = n) (hn' : xs.length = n) (h : wpList P ops Q rest (a.put o.dst undef) (w.setRow g (il ys))) : wpList P ops Q (o :: rest) a w :=
  wpList_store_row hgd ty x y ho g (il ys) hx hy t (il xs) hb (by rw [hi, il_size, hn]) (by rw [il_size, il_size, hn, hn']) (il_one ys) h
theorem results_bli {fn : Func} {p : Tmp} {ty : TypeId} (h : fn.results = #[.cell p ty]) (tmps : Array Value) (w : World) (g : Nat) {xs : List Int} {t : TypeId} {n : Nat} {e : TypeId}
    (hp : tmps.getD p undef = .pointer (some ⟨g, 0, none⟩)) (hb : Bli w g xs t) (hu : P.underlying ty = some (.array n e)) (hi : (P.info? ty).map (·.size) = some n) (hn : xs.length = n) :
    (results fn tmps).run P w = .ok (.agg (il xs)) w :=
  results_cell_row h tmps w g t (il xs) (0, 0) _ hp hb hu rfl (by rw [hi, il_size, hn])
end

def numV : Value → Int
  | .int _ b => b
  | _ => 0
theorem trod_i16 {H : Type} {enc : TypeId × Value → H} {P : Program} {w : World} {base : Nat} {spare : Nat → Bool} {held : Bool} {m : Nat} {e : TypeId} {z : Value} {y : DataW H × List MemPlace}
    (he : P.underlying e = some (.int .i16)) (h : DataW.trod enc P w base spare held m e [z] = some y) : z = .int .i16 (numV z) ∧ (Lit.int .i16 (numV z)).wf = true := by
  cases m with
  | zero => simp [DataW.trod] at h
  | succ m =>
    cases z with
    | int k b =>
      by_cases hk : k = .i16
      · subst hk
        by_cases hw : (Lit.int .i16 b).wf = true
        · exact ⟨rfl, by simpa [numV] using hw⟩
        · simp [DataW.trod, he, hw] at h
      · simp [DataW.trod, he, hk] at h
    | _ => simp [DataW.trod, he] at h

/-- A int16 array argument, opened: its bits. -/
theorem open_iarr {H : Type} {enc : TypeId × Value → H} {P : Program} {w : World} {base : Nat} {spare : Nat → Bool} {held : Bool} {r : Reach} {b0 : Nat} {t e : TypeId} {n : Nat} {v : Value} {d : DataW H} {ps : List MemPlace}
    (ht : P.underlying t = some (.array n e)) (he : P.underlying e = some (.int .i16)) (hc : P.cellsOf e = 1) (hn : P.cellsOf t = n) (hval : Value.okWide P w r b0 t v) (hd : DataW.Trod enc P w base spare held t v d ps) :
    ∃ xs : List Int, v = .agg (il xs) ∧ xs.length = n ∧ ∀ x ∈ xs, (Lit.int .i16 x).wf = true := by
  simp only [Value.okWide, ht] at hval
  obtain ⟨cs, rfl, hs, _⟩ := hval
  obtain ⟨fuel, hf⟩ := hd
  obtain ⟨ys, m, rfl, _, hl, hy, hget⟩ := DataW.trod_array ht hf
  have key : ∀ i (hi : i < cs.toList.length), cs.toList[i] = .int .i16 (numV cs.toList[i]) ∧ (Lit.int .i16 (numV cs.toList[i])).wf = true := by
    intro i hi
    have hi0 : i < n := by rw [hn] at hs; simpa [hs] using hi
    have h1 := hget i hi0
    simp only [hc, Nat.mul_one, Value.cells] at h1
    have e1 : List.take 1 (List.drop i cs.toList) = [cs.toList[i]] := by
      rw [List.drop_eq_getElem_cons hi]; rfl
    rw [e1, List.getElem?_eq_getElem (by omega)] at h1
    exact trod_i16 he h1
  refine ⟨cs.toList.map numV, ?_, by rw [hn] at hs; simpa using hs, ?_⟩
  · congr 1
    unfold il
    rw [List.map_map]
    have : cs.toList.map (Value.int .i16 ∘ numV) = cs.toList := by
      apply List.ext_getElem (by simp)
      intro i h1 h2
      rw [List.getElem_map]
      exact (key i h2).1.symm
    rw [this]
  · intro x hx
    obtain ⟨z, hz, rfl⟩ := List.mem_map.1 hx
    obtain ⟨i, hi, rfl⟩ := List.getElem_of_mem hz
    exact (key i hi).2

end Go.Fl
