/- Arrays of floats as values and as rows of cells; the frame of a law's row. No condition. -/
import Derived.Test.YtpchebclhjgcmaaFc
import Derived.ProofKit
import Derived.OpenShut
import Derived.WalkLawsBesides
import Derived.WalkSpells
import Derived.Lib.SmallJoins
import Derived.Deep.RegionHeld3
namespace Go.Fl
open Go.RowKit Go.ChangeShapes Go.WideShapes Go.WideElems

/-- The cells of an array of float32. -/
def fl (xs : List Nat) : Array Value := (xs.map (Value.float .f32)).toArray
theorem fl_size (xs : List Nat) : (fl xs).size = xs.length := by simp [fl]
/-- Element k (0 behind the end): a name that the walk does not open. -/
def nth (xs : List Nat) (k : Nat) : Nat := xs.getD k 0
theorem fl_get (xs : List Nat) (k : Nat) (h : k < xs.length) : (fl xs)[k]? = some (.float .f32 (nth xs k)) := by
  simp [fl, nth, h]
theorem fl_set (xs : List Nat) (k x : Nat) : (fl xs).setIfInBounds k (.float .f32 x) = fl (xs.set k x) := by
  unfold fl
  rw [List.setIfInBounds_toArray, List.map_set]

/-- Block g holds just these floats: a name that the walk does not open. -/
def Blk (w : World) (g : Nat) (xs : List Nat) (t : TypeId) : Prop := w.heap[g]? = some (.cells (fl xs) t)
section
variable {w : World} {g : Nat} {xs : List Nat} {t : TypeId}
theorem Blk.lt (h : Blk w g xs t) : g < w.heap.size := by
  unfold Blk at h
  rcases Nat.lt_or_ge g w.heap.size with h' | h'
  · exact h'
  · rw [Array.getElem?_eq_none h'] at h; cases h
theorem Blk.cell (h : Blk w g xs t) (k : Nat) (hk : k < xs.length) : w.cell? ⟨g, k, none⟩ = some (.float .f32 (nth xs k)) := by
  rw [Go.Joins.cell_of_block h, fl_get xs k hk]
theorem Blk.free (h : Blk w g xs t) (k : Nat) : w.frozen? ⟨g, k, none⟩ = false := Go.Joins.unfrozen_of_block h k
theorem Blk.set (h : Blk w g xs t) (k x : Nat) : Blk (w.setCell ⟨g, k, none⟩ (.float .f32 x)) g (xs.set k x) t := by
  unfold Blk
  rw [Go.Joins.block_setCell h, fl_set]
theorem Blk.other (h : Blk w g xs t) {b off : Nat} (ha : g ≠ b) (v : Value) : Blk (w.setCell ⟨b, off, none⟩ v) g xs t := by
  unfold Blk
  rw [Below.heap_setCell _ _ _ _ ha]; exact h
theorem Blk.alloc (h : Blk w g xs t) (o : Obj) : Blk (w.alloc o) g xs t := by
  unfold Blk
  rw [Below.heap_alloc _ _ _ h.lt]; exact h
theorem Blk.drewN (h : Blk w g xs t) (n : Nat) : Blk (w.drewN n) g xs t := h
theorem Blk.drew (h : Blk w g xs t) : Blk w.drew g xs t := h
theorem Blk.below {B : Nat} {w' : World} (h : Blk w g xs t) (hb : Below B w w') (hg : g < B) : Blk w' g xs t := by
  unfold Blk
  rw [hb.block g hg]; exact h
theorem Blk.new (w : World) (xs : List Nat) (t : TypeId) (n : Nat) (h : n = w.heap.size) : Blk (w.alloc (.cells (fl xs) t)) n xs t := by
  unfold Blk; subst h; exact heap_alloc_new w _
theorem Blk.newRow (w : World) (xs : List Nat) (cs : Array Value) (t : TypeId) (n : Nat) (h : n = w.heap.size) (hc : cs = fl xs) : Blk (w.alloc (.cells cs t)) n xs t := by
  subst hc; exact Blk.new w xs t n h
theorem Blk.row (h : Blk w g xs t) (ys : List Nat) : Blk (w.setRow g (fl ys)) g ys t := setRow_heap w g _ _ t _ h
theorem Blk.rowOther (h : Blk w g xs t) {k : Nat} (hk : g ≠ k) (cs : Array Value) : Blk (w.setRow k cs) g xs t := by
  unfold Blk
  rw [setRow_other w k g cs hk]; exact h
end
theorem below_setCell {B : Nat} {a w : World} (h : Below B a w) {b off : Nat} (hb : B ≤ b) (v : Value) : Below B a (w.setCell ⟨b, off, none⟩ v) := h.setCell hb v
theorem below_setRow {B : Nat} {a w : World} (h : Below B a w) {g : Nat} (hg : B ≤ g) (cs : Array Value) : Below B a (w.setRow g cs) :=
  h.trans ⟨rfl, rfl, rfl, by simp, fun k hk => setRow_other w g k cs (by omega)⟩
theorem fl_one (xs : List Nat) : (fl xs).all (·.oneCell') = true := by
  rw [Array.all_eq_true_iff_forall_mem]
  intro v hv
  simp only [fl, List.mem_toArray, List.mem_map] at hv
  obtain ⟨x, _, rfl⟩ := hv
  rfl

section
variable {P : Program} {ops : Array Oper} {rest : List Oper} {o : Oper} {a : Act} {w : World} {Q : Exit → Act → World → Prop}
/-- A whole array out of its block. -/
theorem wpList_load_blk (hgd : o.guard = none) (ty : TypeId) (x : Operand) (ho : o.op = .load ty x) (g : Nat) (hx : a.eval x = .pointer (some ⟨g, 0, none⟩)) {xs : List Nat} {t : TypeId} (hb : Blk w g xs t) {n : Nat} {e : TypeId}
    (hu : P.underlying ty = some (.array n e)) (hi : (P.info? ty).map (·.size) = some n) (hn : xs.length = n) (h : wpList P ops Q rest (a.put o.dst (.agg (fl xs))) w) : wpList P ops Q (o :: rest) a w :=
  wpList_load_row hgd ty x ho g hx t (fl xs) (0, 0) _ hb hu rfl (by rw [hi, fl_size, hn]) h
/-- A whole array into a block. -/
theorem wpList_store_blk (hgd : o.guard = none) (ty : TypeId) (x y : Operand) (ho : o.op = .store ty x y) (g : Nat) (hx : a.eval x = .pointer (some ⟨g, 0, none⟩)) {ys : List Nat} (hy : a.eval y = .agg (fl ys)) {xs : List Nat} {t : TypeId} (hb : Blk w g xs t) {n : Nat}
    (hi : (P.info? ty).map (·.size) = some n) (hn : ys.length = n) (hn' : xs.length = n) (h : wpList P ops Q rest (a.put o.dst undef) (w.setRow g (fl ys))) : wpList P ops Q (o :: rest) a w :=
  wpList_store_row hgd ty x y ho g (fl ys) hx hy t (fl xs) hb (by rw [hi, fl_size, hn]) (by rw [fl_size, fl_size, hn, hn']) (fl_one ys) h
theorem results_blk {fn : Func} {p : Tmp} {ty : TypeId} (h : fn.results = #[.cell p ty]) (tmps : Array Value) (w : World) (g : Nat) {xs : List Nat} {t : TypeId} {n : Nat} {e : TypeId}
    (hp : tmps.getD p undef = .pointer (some ⟨g, 0, none⟩)) (hb : Blk w g xs t) (hu : P.underlying ty = some (.array n e)) (hi : (P.info? ty).map (·.size) = some n) (hn : xs.length = n) :
    (results fn tmps).run P w = .ok (.agg (fl xs)) w :=
  results_cell_row h tmps w g t (fl xs) (0, 0) _ hp hb hu rfl (by rw [hi, fl_size, hn])
end

/-- The first k of xs, then those of ys. -/
def mix (xs ys : List Nat) (k : Nat) : List Nat := xs.take k ++ ys.drop k
theorem mix_zero (xs ys : List Nat) : mix xs ys 0 = ys := by simp [mix]
theorem mix_full (xs ys : List Nat) (h : xs.length = ys.length) : mix xs ys ys.length = xs := by simp [mix, ← h]
theorem mix_length (xs ys : List Nat) (k : Nat) (h : xs.length = ys.length) : (mix xs ys k).length = ys.length := by simp [mix]; omega
theorem mix_set (xs ys : List Nat) (k : Nat) (h : xs.length = ys.length) (hk : k < ys.length) : (mix xs ys k).set k (nth xs k) = mix xs ys (k + 1) := by
  apply List.ext_getElem?
  intro i
  have hx : k < xs.length := by omega
  simp only [mix, List.getElem?_set, List.getElem?_append, List.length_take, List.length_append, List.length_drop, List.getElem?_take, List.getElem?_drop]
  by_cases h1 : k = i
  · subst h1
    have e1 : k < min k xs.length + (ys.length - k) := by omega
    have e2 : k < min (k + 1) xs.length := by omega
    simp [e1, e2, hx, nth]
  · by_cases h2 : i < k
    · have e1 : i < min k xs.length := by omega
      have e2 : i < min (k + 1) xs.length := by omega
      have e3 : i < k + 1 := by omega
      simp [h1, e1, e2, h2, e3]
    · have e1 : ¬ i < min k xs.length := by omega
      have e2 : ¬ i < min (k + 1) xs.length := by omega
      simp only [h1, e1, e2, if_false]
      congr 1; omega

def bitsV : Value → Nat
  | .float _ b => b
  | _ => 0
theorem trod_f32 {H : Type} {enc : TypeId × Value → H} {P : Program} {w : World} {base : Nat} {spare : Nat → Bool} {held : Bool} {m : Nat} {e : TypeId} {z : Value} {y : DataW H × List MemPlace}
    (he : P.underlying e = some (.float .f32)) (h : DataW.trod enc P w base spare held m e [z] = some y) : z = .float .f32 (bitsV z) ∧ bitsV z < 4294967296 := by
  cases m with
  | zero => simp [DataW.trod] at h
  | succ m =>
    cases z with
    | float k b =>
      by_cases hk : k = .f32
      · subst hk
        by_cases hw : (Lit.float .f32 b).wf = true
        · exact ⟨rfl, by simpa [Lit.wf, bitsV] using hw⟩
        · simp [DataW.trod, he, hw] at h
      · simp [DataW.trod, he, hk] at h
    | _ => simp [DataW.trod, he] at h

/-- A float32 array argument, opened: its bits. -/
theorem open_farr {H : Type} {enc : TypeId × Value → H} {P : Program} {w : World} {base : Nat} {spare : Nat → Bool} {held : Bool} {r : Reach} {b0 : Nat} {t e : TypeId} {n : Nat} {v : Value} {d : DataW H} {ps : List MemPlace}
    (ht : P.underlying t = some (.array n e)) (he : P.underlying e = some (.float .f32)) (hc : P.cellsOf e = 1) (hn : P.cellsOf t = n) (hval : Value.okWide P w r b0 t v) (hd : DataW.Trod enc P w base spare held t v d ps) :
    ∃ xs : List Nat, v = .agg (fl xs) ∧ xs.length = n ∧ ∀ x ∈ xs, x < 4294967296 := by
  simp only [Value.okWide, ht] at hval
  obtain ⟨cs, rfl, hs, _⟩ := hval
  obtain ⟨fuel, hf⟩ := hd
  obtain ⟨ys, m, rfl, _, hl, hy, hget⟩ := DataW.trod_array ht hf
  have key : ∀ i (hi : i < cs.toList.length), cs.toList[i] = .float .f32 (bitsV cs.toList[i]) ∧ bitsV cs.toList[i] < 4294967296 := by
    intro i hi
    have hi0 : i < n := by rw [hn] at hs; simpa [hs] using hi
    have h1 := hget i hi0
    simp only [hc, Nat.mul_one, Value.cells] at h1
    have e1 : List.take 1 (List.drop i cs.toList) = [cs.toList[i]] := by
      rw [List.drop_eq_getElem_cons hi]; rfl
    rw [e1, List.getElem?_eq_getElem (by omega)] at h1
    exact trod_f32 he h1
  refine ⟨cs.toList.map bitsV, ?_, by rw [hn] at hs; simpa using hs, ?_⟩
  · congr 1
    unfold fl
    rw [List.map_map]
    have : cs.toList.map (Value.float .f32 ∘ bitsV) = cs.toList := by
      apply List.ext_getElem (by simp)
      intro i h1 h2
      rw [List.getElem_map]
      exact (key i h2).1.symm
    rw [this]
  · intro x hx
    obtain ⟨z, hz, rfl⟩ := List.mem_map.1 hx
    obtain ⟨i, hi, rfl⟩ := List.getElem_of_mem hz
    exact (key i hi).2

theorem heap_drewN (w : World) (n : Nat) : (w.drewN n).heap = w.heap := rfl
theorem below_drewN {B : Nat} {w w' : World} (h : Below B w w') (n : Nat) : Below B w (w'.drewN n) := h.trans ⟨rfl, rfl, rfl, Nat.le_refl _, fun _ _ => rfl⟩
theorem below_of_drewN {w w' : World} (B : Nat) (h : ∃ n, w' = w.drewN n) : Below B w w' := by obtain ⟨n, rfl⟩ := h; exact below_drewN (Below.refl _ _) n

/-- The arguments read behind the call as they did. -/
theorem trodAll_stays {H : Type} {enc : TypeId × Value → H} {P : Program} (hl : laidOutB P = true) {W W' : World} (hb : Below W.heap.size W W') {sp : Nat → Bool} : ∀ {ts : List TypeId} {vs : List Value} {ds : List (DataW H)} {ps : List MemPlace},
    (∀ t ∈ ts, P.readableRec t = true ∧ t < P.types.size) → DataW.TrodAll enc P W 0 (fun _ => true) true ts vs ds ps → (∀ x ∈ ps, x.block < W.heap.size) → (∀ x ∈ ps, sp x.block = true) → DataW.TrodAll enc P W' 0 sp true ts vs ds ps
  | [], [], [], _, _, h, _, _ => h
  | t :: ts, v :: vs, d :: ds, ps, hr, h, hlt, hsp => by
    obtain ⟨p, q, h1, h2, rfl⟩ := h
    refine ⟨p, q, ?_, trodAll_stays hl hb (fun t ht => hr t (List.mem_cons_of_mem _ ht)) h2 (fun x hx => hlt x (List.mem_append_right _ hx)) (fun x hx => hsp x (List.mem_append_right _ hx)), rfl⟩
    have h3 := hr t (List.mem_cons_self ..)
    exact Trod_stays hl h3.1 h3.2 h1 (fun x hx => hb.same (hlt x (List.mem_append_left _ hx))) (fun x hx => hsp x (List.mem_append_left _ hx))
  | [], [], _ :: _, _, _, h, _, _ => h.elim
  | [], _ :: _, _, _, _, h, _, _ => by cases ‹List (DataW H)› <;> exact h.elim
  | _ :: _, [], _, _, _, h, _, _ => by cases ‹List (DataW H)› <;> exact h.elim
  | _ :: _, _ :: _, [], _, _, h, _, _ => h.elim

/-! ### Regions with loads of whole arrays beside calls that make memory -/
def fll (xs : List Nat) : List Value := xs.map (Value.float .f32)
theorem fll_length (xs : List Nat) : (fll xs).length = xs.length := by simp [fll]
theorem Blk.range {w : World} {g : Nat} {xs : List Nat} {t : TypeId} (h : Blk w g xs t) : w.rangeAt g 0 (fll xs) := by
  intro j v hv
  rw [Nat.zero_add, Go.Joins.cell_of_block h]
  simpa [fl, fll] using hv
theorem range_below {w w' : World} {b o : Nat} {cs : List Value} (h : w.rangeAt b o cs) (hne : 0 < cs.length) (hb : Below w.heap.size w w') : w'.rangeAt b o cs := by
  have h0 := h 0 (cs[0]) (by simp [hne])
  have hlt := block_lt_of_cell h0
  intro j v hv
  rw [hb.cell (p := ⟨b, o + j, none⟩) hlt]
  exact h j v hv
/-- What a law's walk keeps: its boxed arrays, and that nothing older has turned. -/
theorem keep1 {w0 w w' : World} {b1 : Nat} {xs : List Nat} (hx : 0 < xs.length) (h : w.rangeAt b1 0 (fll xs) ∧ Below w0.heap.size w0 w) (hb : Below w.heap.size w w') : w'.rangeAt b1 0 (fll xs) ∧ Below w0.heap.size w0 w' :=
  ⟨range_below h.1 (by rw [fll_length]; exact hx) hb, h.2.trans (hb.mono h.2.size)⟩
theorem keep2 {w0 w w' : World} {b1 b2 : Nat} {xs ys : List Nat} (hx : 0 < xs.length) (hy : 0 < ys.length) (h : w.rangeAt b1 0 (fll xs) ∧ w.rangeAt b2 0 (fll ys) ∧ Below w0.heap.size w0 w) (hb : Below w.heap.size w w') : w'.rangeAt b1 0 (fll xs) ∧ w'.rangeAt b2 0 (fll ys) ∧ Below w0.heap.size w0 w' :=
  ⟨range_below h.1 (by rw [fll_length]; exact hx) hb, range_below h.2.1 (by rw [fll_length]; exact hy) hb, h.2.2.trans (hb.mono h.2.2.size)⟩

/-! ### Arrays compared, an element of an array value -/
theorem run_part_fl {P : Program} {e : TypeId} {xs : List Nat} (he : P.underlying e = some (.float .f32)) (i : Nat) (hi : i < xs.length) (w : World) : (part e (fl xs) i).run P w = .ok (.float .f32 (nth xs i)) w := by
  simp [part, isAgg, run_underlying he, fl_get xs i hi]
theorem run_eq_f32 {P : Program} {e : TypeId} (d : Nat) (he : P.underlying e = some (.float .f32)) (a b : Nat) (w : World) : (Op.equalIn (d + 1) e (.float .f32 a) (.float .f32 b)).run P w = .ok (ordC .f32 (cv .f32 a) (cv .f32 b) == some .eq) w := by
  simp [Op.equalIn, run_underlying he, Op.floatEq, order_cv]
theorem run_eq_loop {P : Program} (d : Nat) {e : TypeId} {n : Nat} {xs ys : List Nat} (he : P.underlying e = some (.float .f32)) (w : World) (hx : xs.length = n) (hy : ys.length = n) : ∀ l : List Nat, (∀ i ∈ l, i < n) →
    (Sem.run P (forIn l ((none : Option Bool), ()) fun i __s => do
              let __do_lift ← part e (fl xs) (i * 1)
              let __do_lift_1 ← part e (fl ys) (i * 1)
              let __do_lift ← Op.equalIn (d + 1) e __do_lift __do_lift_1
              if (!__do_lift) = true then pure (ForInStep.done (some false, ())) else pure (ForInStep.yield (none, ()))) w) =
      .ok (if (l.all fun i => ordC .f32 (cv .f32 (nth xs i)) (cv .f32 (nth ys i)) == some .eq) = true then (none, ()) else (some false, ())) w
  | [], _ => by simp
  | i :: l, h => by
    have hi := h i (List.mem_cons_self ..)
    rw [List.forIn_cons]
    simp only [Nat.mul_one, Sem.run_bind, run_part_fl he i (by omega : i < xs.length), run_part_fl he i (by omega : i < ys.length), Result.andThen_ok, run_eq_f32 d he]
    by_cases hb : (ordC .f32 (cv .f32 (nth xs i)) (cv .f32 (nth ys i)) == some .eq) = true
    · have := run_eq_loop d he w hx hy l (fun j hj => h j (List.mem_cons_of_mem _ hj))
      simp only [Nat.mul_one] at this
      simp only [hb, Bool.not_true, Bool.false_eq_true, if_false, Sem.run_pure, Result.andThen_ok, this, List.all_cons, Bool.true_and]
    · have hb' : (ordC .f32 (cv .f32 (nth xs i)) (cv .f32 (nth ys i)) == some .eq) = false := by simpa using hb
      simp [hb']
theorem run_equal_farr {P : Program} (d : Nat) {t e : TypeId} {n : Nat} {xs ys : List Nat} (ht : P.underlying t = some (.array n e)) (he : P.underlying e = some (.float .f32)) (hs : (P.info? e).map (·.size) = some 1) (w : World) (hx : xs.length = n) (hy : ys.length = n) :
    (Op.equalIn (d + 2) t (.agg (fl xs)) (.agg (fl ys))).run P w = .ok ((List.range n).all fun i => ordC .f32 (cv .f32 (nth xs i)) (cv .f32 (nth ys i)) == some .eq) w := by
  have h1 : (sizeOf e).run P w = .ok 1 w := by
    cases hq : P.info? e with
    | none => simp [hq] at hs
    | some i => simp [hq] at hs; simp [sizeOf, typeInfo, hq, hs]
  rw [Op.equalIn]
  simp only [Sem.run_bind, run_underlying ht, Result.andThen_ok, h1]
  simp only [Std.Legacy.Range.forIn_eq_forIn_range', Std.Legacy.Range.size, Nat.sub_zero, Nat.add_sub_cancel, Nat.div_one]
  rw [← List.range_eq_range', run_eq_loop d he w hx hy _ (fun i hi => by simpa using hi)]
  by_cases hb : ((List.range n).all fun i => ordC .f32 (cv .f32 (nth xs i)) (cv .f32 (nth ys i)) == some .eq) = true
  · simp only [hb, if_true, Result.andThen_ok, Sem.run_pure]
  · have hb' : ((List.range n).all fun i => ordC .f32 (cv .f32 (nth xs i)) (cv .f32 (nth ys i)) == some .eq) = false := by simpa using hb
    simp [hb']
def eqAll (n : Nat) (xs ys : List Nat) : Bool := (List.range n).all fun i => ordC .f32 (cv .f32 (nth xs i)) (cv .f32 (nth ys i)) == some .eq
theorem wpList_eql_farr {P : Program} {ops : Array Oper} {rest : List Oper} {o : Oper} {a : Act} {w : World} {Q : Exit → Act → World → Prop} (hgd : o.guard = none) (t tr : TypeId) (x y : Operand) (ho : o.op = .binOp .eql t x y tr)
    {xs ys : List Nat} (hx : a.eval x = .agg (fl xs)) (hy : a.eval y = .agg (fl ys)) {n : Nat} {e : TypeId} (ht : P.underlying t = some (.array n e)) (he : P.underlying e = some (.float .f32)) (hs : (P.info? e).map (·.size) = some 1)
    (hg : P.eqGuardType P.depth t = false) (hxn : xs.length = n) (hyn : ys.length = n)
    (h : wpList P ops Q rest (a.put o.dst (.bool (eqAll n xs ys))) w) : wpList P ops Q (o :: rest) a w := by
  refine wpList_plain hgd fun K hK => ?_
  unfold Oper.wp execOp
  have h1 : (eqGuard .eql t x y (.agg (fl xs)) (.agg (fl ys))).run P w = .ok () w := by simp [eqGuard, program, Sem.run, hg]
  have h2 : (binOp .eql t (.agg (fl xs)) (.agg (fl ys))).run P w = .ok (.bool (eqAll n xs ys)) w := by
    have h3 := run_equal_farr 9998 ht he hs w hxn hyn
    rw [show ((List.range n).all fun i => ordC .f32 (cv .f32 (nth xs i)) (cv .f32 (nth ys i)) == some .eq) = eqAll n xs ys from rfl] at h3
    simp [binOp, Op.equal, Op.maxDepth, h3]
  simp only [ho, hx, hy, Sem.run_bind, h1, h2, Result.andThen_ok, Sem.run_pure]
  exact hK _ _ h
theorem run_index_fl {P : Program} {w : World} (t e : TypeId) (n : Nat) (xs : List Nat) (k : Nat) (hu : P.underlying t = some (.array n e)) (he : P.underlying e = some (.float .f32)) (hs : (P.info? e).map (·.size) = some 1) (hk : k < xs.length) (hn : k < n) :
    (Instr.index t (.agg (fl xs)) (.int .i64 (k : Int))).run P w = .ok (.float .f32 (nth xs k)) w := by
  have h1 : (sizeOf e).run P w = .ok 1 w := by
    cases hq : P.info? e with
    | none => simp [hq] at hs
    | some i => simp [hq] at hs; simp [sizeOf, typeInfo, hq, hs]
  have h2 : (0 : Int) ≤ k ∧ (k : Int) < n := by omega
  simp only [Instr.index, asIntOf, Sem.run_bind, Sem.run_pure, Result.andThen_ok, run_underlying hu, if_pos h2, h1, Nat.mul_one, Int.toNat_natCast, run_part_fl he k hk w]

theorem trodAll_len {H : Type} {enc : TypeId × Value → H} {P : Program} {W : World} {base : Nat} {sp : Nat → Bool} {held : Bool} : ∀ {ts : List TypeId} {vs : List Value} {ds : List (DataW H)} {ps : List MemPlace}, DataW.TrodAll enc P W base sp held ts vs ds ps → ds.length = ts.length
  | [], [], [], _, _ => rfl
  | _ :: _, _ :: _, _ :: _, _, h => by obtain ⟨_, _, _, h2, _⟩ := h; simp [trodAll_len h2]
  | [], [], _ :: _, _, h => h.elim
  | [], _ :: _, [], _, h => h.elim
  | [], _ :: _, _ :: _, _, h => h.elim
  | _ :: _, [], [], _, h => h.elim
  | _ :: _, [], _ :: _, _, h => h.elim
  | _ :: _, _ :: _, [], _, h => h.elim

/-- THE FRAME OF A LAW's ROW: the walk returns true and turns nothing that was there. -/
theorem law_lifted {a : Assume} {C : Checked} {os : Os} {H : Type} {enc : TypeId × Value → H} {f : FuncId} {fn : Func} {s : ChangeSpec}
    (own : ownKnob C.prog.godebug = none) (started : os.Started) (noInit : C.prog.inits.idxOf? f = none) (hfn : C.prog.funcs[f]? = some fn)
    (witness : ∃ (w : World) (tape : Tape) (i : Input), w.os = os ∧ (w.forCall tape i).Shaped C.prog ∧ i.vars = [] ∧ Input.okWide C.prog (w.forCall tape i) .any w.heap.size f i ∧
      s.pre6 enc C.prog fn [] false (w.forCall tape i).memory i.args ∧ a.holds C.prog (lone (Frame.enter C.prog f i.args .normal) [] (w.forCall tape i)))
    (hv : s.vars = []) (n : Nat) (hn : fn.params.size = n) (hs : ∀ ds : List (DataW H), ds.length = n → (s.fn H (ds ++ [])).results = [.lit (.bool true)] ∧ (s.fn H (ds ++ [])).args = ds ∧ (s.fn H (ds ++ [])).vars = [])
    (hl : laidOutB C.prog = true) (hr : ∀ t ∈ fn.params.toList, C.prog.readableRec t = true ∧ t < C.prog.types.size)
    (tb : TypeId) (htb : C.prog.underlying tb = some .bool) (hres : fn.resultTypes = #[tb])
    (walk : ∀ (W : World) (base : Nat) (args : Array Value) (ds : List (DataW H)) (p : List MemPlace), (∀ (j : Nat) t v, fn.params[j]? = some t → args[j]? = some v → Value.okWide C.prog W .any base t v) →
      DataW.TrodAll enc C.prog W 0 (fun _ => true) true fn.params.toList args.toList ds p → Calls C.prog f args W fun e W' => e = .returned (.bool true) ∧ Below W.heap.size W W') :
    ReturnsInHanded a C os f .any (s.pre6 enc C.prog fn [] false) (s.post enc C.prog fn false true false false) := by
  refine returnsInHanded_of_change own started noInit hfn witness ?_
  intro W base args ds gs before hval hW _ _
  have hW' := hW
  obtain ⟨p, q, hA, hV, hps, hfz, hnd⟩ := hW
  rw [hv] at hV
  obtain ⟨rfl, rfl⟩ := trodVars_none hV
  refine (walk W base args ds p hval hA).mono fun e W' ⟨he, hb⟩ => ⟨_, he, ?_⟩
  have hlen : ds.length = n := by rw [trodAll_len hA, ← hn]; simp
  obtain ⟨h1, h2, h3⟩ := hs ds hlen
  have hlt : ∀ x ∈ p, x.block < W.heap.size := fun x hx => hW'.lt x (by rw [hps]; exact List.mem_append_left _ hx)
  refine ⟨ds, [], before, [], p, [], hW', ?_, ?_, ?_, World.keptBut_mono (fun x hx => ⟨hx, Or.inr (Or.inl (by rw [hps] at hx; simpa using hx))⟩) (hb.frame (· ∈ before)), fun h => by cases h⟩
  · rw [h1, hres]
    exact trodAll_cons_mk (shut_bool htb _) trodAll_mk0
  · rw [h2]
    exact trodAll_stays hl hb hr hA hlt (fun x hx => by simpa using hlt x hx)
  · rw [h3, hv]; rfl
end Go.Fl
