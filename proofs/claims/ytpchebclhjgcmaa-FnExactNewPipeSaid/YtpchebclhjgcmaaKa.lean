/- Slices of blocks, as flat lists of their samples: loaded, made, stored. No condition. -/
import Derived.Test.YtpchebclhjgcmaaHa
namespace Go.Fl
open Go.RowKit
def blk16 (xs : List Nat) (k : Nat) : List Nat := (xs.drop (16 * k)).take 16
theorem blk16_length {xs : List Nat} {n k : Nat} (h : xs.length = 16 * n) (hk : k < n) : (blk16 xs k).length = 16 := by
  unfold blk16; rw [List.length_take, List.length_drop]; omega
theorem blk16_nth {xs : List Nat} {k j : Nat} (hj : j < 16) : nth (blk16 xs k) j = nth xs (16 * k + j) := by
  unfold nth blk16
  simp [List.getD_eq_getElem?_getD, hj, List.getElem?_drop]
theorem fll_len (xs : List Nat) : (fll xs).length = xs.length := by simp [fll]
theorem fl_rep_get (N j : Nat) (hj : j < N) : (fl (List.replicate N 0))[j]! = Value.float .f32 0 := by
  rw [getElem!_def]
  simp [fl, hj]
theorem made_rep (N : Nat) (hN : 0 < N) (m : Nat) : madeCells (fl (List.replicate N 0)) m = fl (List.replicate m 0) := by
  have hz : (fl (List.replicate N 0)).size = N := by simp [fl]
  unfold madeCells
  rw [hz]
  apply Array.ext
  · simp [fl]
  · intro i h1 h2
    rw [Array.getElem_map, fl_rep_get N _ (Nat.mod_lt _ hN)]
    simp [fl]
theorem made16 (m : Nat) : madeCells (fl (List.replicate 16 0)) m = fl (List.replicate m 0) := made_rep 16 (by decide) m
section
variable {P : Program} {ops : Array Oper} {rest : List Oper} {o : Oper} {a : Act} {w : World} {K : Act → World → Prop} {Q : Exit → Act → World → Prop}
theorem run_loadVar_many (w : World) (ad : Addr) (ty : TypeId) (part : List Value) (d : TypeDesc) (hc : ∀ j v, part[j]? = some v → w.cell? (ad.add j) = some v)
    (hu : P.underlying ty = some d) (hd : (match d with | .struct _ | .array _ _ => true | _ => false) = true) (hi : (P.info? ty).map (·.size) = some part.length) :
    (loadVar ty ad).run P w = .ok (.agg part.toArray) w := by
  have hl : (loadCells ad part.length).run P w = .ok part.toArray w := run_loadCells_list (P := P) w ad part hc
  cases hq : P.info? ty with
  | none => simp [hq] at hi
  | some i =>
    have hs : i.size = part.length := by simpa [hq] using hi
    have hagg : (isAgg ty).run P w = .ok true w := by
      unfold isAgg
      rw [Sem.run_bind, run_underlying hu w]
      cases d <;> simp_all
    simp [loadVar, Sem.run_bind, hagg, sizeOf, typeInfo, hq, hs, hl]
theorem sl_part {w : World} {ad : Addr} {xs : List Nat} (h : Sl w (some ad) xs) {n k : Nat} (hn : xs.length = 16 * n) (hk : k < n) : ∀ j v, (fll (blk16 xs k))[j]? = some v → w.cell? ((ad.add (k * 16)).add j) = some v := by
  intro j v hv
  have hj : j < 16 := by
    have := (List.getElem?_eq_some_iff.1 hv).1
    rw [fll_len, blk16_length hn hk] at this; exact this
  rw [fll_get _ _ (by rw [blk16_length hn hk]; exact hj), blk16_nth hj] at hv
  obtain rfl := Option.some.inj hv
  obtain ⟨ad', e, _, hc⟩ := h.at_ (k := 16 * k + j) (by omega)
  cases e
  rw [addr_add_add, show k * 16 + j = 16 * k + j from by omega]
  exact hc
theorem wpList_load_blk16 (hgd : o.guard = none) (ty : TypeId) (x : Operand) (ho : o.op = .load ty x) (ad : Addr) (k : Nat) (hx : a.eval x = .pointer (some (ad.add (k * 16)))) {xs : List Nat} {n : Nat} {e : TypeId} (h : Sl w (some ad) xs) (hn : xs.length = 16 * n) (hk : k < n)
    (hu : P.underlying ty = some (.array 16 e)) (hi : (P.info? ty).map (·.size) = some 16)
    (hK : wpList P ops Q rest (a.put o.dst (.agg (fl (blk16 xs k)))) w) : wpList P ops Q (o :: rest) a w := by
  refine wpList_plain hgd fun K hK' => ?_
  have hr := run_loadVar_many (P := P) w (ad.add (k * 16)) ty (fll (blk16 xs k)) _ (sl_part h hn hk) hu rfl (by rw [fll_len, blk16_length hn hk]; exact hi)
  unfold Oper.wp execOp
  simp only [ho, hx, Instr.loadAt, Instr.sureAddr, Sem.run_bind, Sem.run_pure, Result.andThen_ok, hr]
  exact hK' _ _ hK
theorem yields_load_blk16 {S : World → Prop} {w0 : World} (hgd : o.guard = none) (ty : TypeId) (x : Operand) (ho : o.op = .load ty x) (ad : Addr) (k : Nat) (hx : a.eval x = .pointer (some (ad.add (k * 16)))) {xs : List Nat} {n : Nat} {e : TypeId} (h : Sl w0 (some ad) xs) (hS : ∀ w, S w → Below w0.heap.size w0 w) (hn : xs.length = 16 * n) (hk : k < n)
    (hu : P.underlying ty = some (.array 16 e)) (hi : (P.info? ty).map (·.size) = some 16) : YieldsIf P ops S o (.agg (fl (blk16 xs k))) a :=
  .inl ⟨by simp [Region.wanted, hgd], fun w hw => by
    have hr := run_loadVar_many (P := P) w (ad.add (k * 16)) ty (fll (blk16 xs k)) _ (sl_part (h.below (hS w hw)) hn hk) hu rfl (by rw [fll_len, blk16_length hn hk]; exact hi)
    unfold execOp
    simp only [ho, hx, Instr.loadAt, Instr.sureAddr, Sem.run_bind, Sem.run_pure, Result.andThen_ok, hr]
    rfl⟩
end
/-- 'make' of so many blocks. -/
theorem run_make_blocks {P : Program} (t e : TypeId) (bytes : Nat) (ht : P.underlying t = some (.slice e)) (hinfo : (P.info? e).map (fun i => (i.zero, i.size, i.bytes)) = some (some (.agg (fl (List.replicate 16 0))), 16, bytes))
    (n : Nat) (hbytes : bytes * n ≤ 281474976710656) (h63 : n ≤ 9223372036854775807) (w : World) :
    (Instr.makeSlice t (.int .i64 (n : Int)) (.int .i64 (n : Int))).run P w = .ok (.slice (some ⟨w.heap.size, 0, none⟩) n n) (w.alloc (.cells (fl (List.replicate (n * 16) 0)) e)) := by
  obtain ⟨i, hi, hzz⟩ := Option.map_eq_some_iff.1 hinfo
  simp only [Prod.mk.injEq] at hzz
  obtain ⟨hz, hs, hb⟩ := hzz
  have hb' : (i.bytes : Int) * (n : Int) ≤ 281474976710656 := by
    have h : ((i.bytes * n : Nat) : Int) ≤ 281474976710656 := by rw [hb]; omega
    rwa [Int.natCast_mul] at h
  have hr := run_make (P := P) w t e i _ ht hi hz .i64 .i64 n n (by omega) (Int.le_refl _) hb' (by omega)
  simp only [Int.toNat_natCast, hs, Value.cells, made16] at hr
  exact hr
/-- One block more is written. -/
theorem over_mix {xs : List Nat} {n k : Nat} (h : xs.length = 16 * n) (hk : k < n) : over (fll (mix xs (List.replicate (n * 16) 0) (16 * k))) (k * 16) (fll (blk16 xs k)) = fll (mix xs (List.replicate (n * 16) 0) (16 * (k + 1))) := by
  unfold over
  rw [fll_len, blk16_length h hk]
  unfold fll
  rw [← List.map_take, ← List.map_drop, ← List.map_append, ← List.map_append]
  congr 1
  unfold mix blk16
  have e1 : k * 16 = 16 * k := by omega
  have l1 : (xs.take (16 * k)).length = 16 * k := by rw [List.length_take]; omega
  rw [e1]
  have a1 : (xs.take (16 * k) ++ (List.replicate (n * 16) 0).drop (16 * k)).take (16 * k) = xs.take (16 * k) := List.take_left' l1
  have a2 : (xs.take (16 * k) ++ (List.replicate (n * 16) 0).drop (16 * k)).drop (16 * k + 16) = (List.replicate (n * 16) 0).drop (16 * (k + 1)) := by
    rw [← List.drop_drop, List.drop_left' l1, List.drop_drop]
    rfl
  rw [a1, a2]
  congr 1
  rw [show 16 * (k + 1) = 16 * k + 16 from by omega, List.take_add]
/-- An operation taken first: the frame written out (as wpSeq_heldD of Hi). -/
theorem wpSeq_heldE {P : Program} {ops : Array Oper} {Q : Exit → Act → World → Prop} {S : World → Prop} {i : Nat} {o : Oper} {v : Value} {l : List (Bool × Nat)} {a : Act} {w : World} (ho : ops[i]? = some o) {d : Tmp} (hd : o.dst = some d) (hy : YieldsIf P ops S o v a) (tm : Array Value) (ht : a.tmps.setIfInBounds d v = tm) (h : wpSeq P ops Q S l { tmps := tm, defers := a.defers } w) : wpSeq P ops Q S ((true, i) :: l) a w :=
  wpSeq_held ho hy (by unfold Act.put; rw [hd]; subst ht; exact h)
end Go.Fl
