/- Slices of rings. Rows of rings. Slices of rings: copied. Slices of rings: the law's copies. No condition. -/
import Derived.Test.YtpchebclhjgcmaaKa
import Derived.Test.YtpchebclhjgcmaaSv
namespace Go.Fl
open Go.RowKit
structure RingV where
  A : Option Addr
  c : Nat
  xs : List Nat
  at0 : Int
def rgC (r : RingV) : List Value := [.slice r.A r.xs.length r.c, .int .i64 r.at0]
def rgZ : RingV := ⟨none, 0, [], 0⟩
def rgs (rs : List RingV) (k : Nat) : RingV := rs.getD k rgZ
/-- A slice at A holds these rings. -/
def Rs (w : World) (A : Option Addr) (rs : List RingV) : Prop := rs = [] ∨ ∃ ad, A = some ad ∧ ad.block < w.heap.size ∧ ∀ k, k < rs.length →
  w.cell? (ad.add (k * 2)) = some (.slice (rgs rs k).A (rgs rs k).xs.length (rgs rs k).c) ∧ w.cell? (ad.add (k * 2 + 1)) = some (.int .i64 (rgs rs k).at0) ∧ Sl w (rgs rs k).A (rgs rs k).xs
theorem Rs.below {w w' : World} {A : Option Addr} {rs : List RingV} (h : Rs w A rs) (hb : Below w.heap.size w w') : Rs w' A rs := by
  rcases h with h | ⟨ad, hA, hlt, hc⟩
  · exact .inl h
  · refine .inr ⟨ad, hA, Nat.lt_of_lt_of_le hlt hb.size, fun k hk => ?_⟩
    obtain ⟨h1, h2, h3⟩ := hc k hk
    exact ⟨by rw [hb.cell (by rw [addr_add_block]; exact hlt)]; exact h1, by rw [hb.cell (by rw [addr_add_block]; exact hlt)]; exact h2, h3.below hb⟩
theorem Rs.at_ {w : World} {A : Option Addr} {rs : List RingV} (h : Rs w A rs) {k : Nat} (hk : k < rs.length) : ∃ ad, A = some ad ∧ ad.block < w.heap.size ∧
    (∀ j v, (rgC (rgs rs k))[j]? = some v → w.cell? ((ad.add (k * 2)).add j) = some v) ∧ Sl w (rgs rs k).A (rgs rs k).xs := by
  rcases h with h | ⟨ad, hA, hlt, hc⟩
  · rw [h] at hk; simp at hk
  · obtain ⟨h1, h2, h3⟩ := hc k hk
    refine ⟨ad, hA, hlt, fun j v hv => ?_, h3⟩
    rw [addr_add_add]
    match j, hv with
    | 0, hv => rw [← Option.some.inj hv]; exact h1
    | 1, hv => rw [← Option.some.inj hv]; exact h2
    | j + 2, hv => simp [rgC] at hv
section
variable {P : Program} {ops : Array Oper} {rest : List Oper} {o : Oper} {a : Act} {w : World} {K : Act → World → Prop} {Q : Exit → Act → World → Prop}
theorem wpList_load_many (hgd : o.guard = none) (ty : TypeId) (x : Operand) (ho : o.op = .load ty x) (ad : Addr) (hx : a.eval x = .pointer (some ad)) (part : List Value) {d : TypeDesc} (hc : ∀ j v, part[j]? = some v → w.cell? (ad.add j) = some v)
    (hu : P.underlying ty = some d) (hd : (match d with | .struct _ | .array _ _ => true | _ => false) = true) (hi : (P.info? ty).map (·.size) = some part.length)
    (hK : wpList P ops Q rest (a.put o.dst (.agg part.toArray)) w) : wpList P ops Q (o :: rest) a w := by
  refine wpList_plain hgd fun K hK' => ?_
  have hr := run_loadVar_many (P := P) w ad ty part _ hc hu hd hi
  unfold Oper.wp execOp
  simp only [ho, hx, Instr.loadAt, Instr.sureAddr, Sem.run_bind, Sem.run_pure, Result.andThen_ok, hr]
  exact hK' _ _ hK
theorem yields_load_many {S : World → Prop} (hgd : o.guard = none) (ty : TypeId) (x : Operand) (ho : o.op = .load ty x) (ad : Addr) (hx : a.eval x = .pointer (some ad)) (part : List Value) {d : TypeDesc} (hc : ∀ w, S w → ∀ j v, part[j]? = some v → w.cell? (ad.add j) = some v)
    (hu : P.underlying ty = some d) (hd : (match d with | .struct _ | .array _ _ => true | _ => false) = true) (hi : (P.info? ty).map (·.size) = some part.length) : YieldsIf P ops S o (.agg part.toArray) a :=
  .inl ⟨by simp [Region.wanted, hgd], fun w hw => by
    have hr := run_loadVar_many (P := P) w ad ty part _ (hc w hw) hu hd hi
    unfold execOp
    simp only [ho, hx, Instr.loadAt, Instr.sureAddr, Sem.run_bind, Sem.run_pure, Result.andThen_ok, hr]⟩
end
end Go.Fl
namespace Go.Fl
open Go.RowKit
def fl2 (rs : List RingV) : List Value := rs.flatMap rgC
theorem rgC_length (r : RingV) : (rgC r).length = 2 := rfl
theorem fl2_length : ∀ rs : List RingV, (fl2 rs).length = rs.length * 2
  | [] => rfl
  | r :: rs => by
    show (rgC r ++ fl2 rs).length = (rs.length + 1) * 2
    rw [List.length_append, fl2_length rs, rgC_length]; omega
theorem fl2_at : ∀ (rs : List RingV) (k : Nat), k < rs.length → (fl2 rs)[k * 2]? = some (.slice (rgs rs k).A (rgs rs k).xs.length (rgs rs k).c) ∧ (fl2 rs)[k * 2 + 1]? = some (.int .i64 (rgs rs k).at0)
  | r :: rs, 0, _ => ⟨rfl, rfl⟩
  | r :: rs, k + 1, h => by
    have ih := fl2_at rs k (by simpa using h)
    have e : fl2 (r :: rs) = rgC r ++ fl2 rs := rfl
    have e2 : rgs (r :: rs) (k + 1) = rgs rs k := by simp [rgs]
    rw [e, e2]
    refine ⟨?_, ?_⟩
    · rw [List.getElem?_append_right (by rw [rgC_length]; omega), rgC_length, show (k + 1) * 2 - 2 = k * 2 from by omega]; exact ih.1
    · rw [List.getElem?_append_right (by rw [rgC_length]; omega), rgC_length, show (k + 1) * 2 + 1 - 2 = k * 2 + 1 from by omega]; exact ih.2
theorem over_fl2 : ∀ (rs : List RingV) (k : Nat) (r : RingV), k < rs.length → over (fl2 rs) (k * 2) (rgC r) = fl2 (rs.set k r)
  | q :: rs, 0, r, _ => by simp [over, fl2, rgC]
  | q :: rs, k + 1, r, h => by
    have ih := over_fl2 rs k r (by simpa using h)
    have e : fl2 (q :: rs) = rgC q ++ fl2 rs := rfl
    rw [List.set_cons_succ, show fl2 (q :: rs.set k r) = rgC q ++ fl2 (rs.set k r) from rfl, ← ih, e]
    unfold over
    rw [rgC_length, show (k + 1) * 2 = 2 + k * 2 from by omega, show 2 + k * 2 + 2 = 2 + (k * 2 + 2) from by omega]
    have l2 : (rgC q).length = 2 := rfl
    rw [List.take_append, List.drop_append, l2, List.take_of_length_le (by omega), List.drop_eq_nil_of_le (by omega), List.nil_append]
    simp [List.append_assoc]
/-- Block g holds these rings. -/
def Rg (w : World) (g : Nat) (rs : List RingV) (t : TypeId) : Prop := w.heap[g]? = some (.cells (fl2 rs).toArray t)
theorem Rg.lt {w : World} {g : Nat} {rs : List RingV} {t : TypeId} (h : Rg w g rs t) : g < w.heap.size := by
  unfold Rg at h
  rcases Nat.lt_or_ge g w.heap.size with h' | h'
  · exact h'
  · rw [Array.getElem?_eq_none h'] at h; cases h
theorem Rg.below {w w' : World} {g B : Nat} {rs : List RingV} {t : TypeId} (h : Rg w g rs t) (hb : Below B w w') (hg : g < B) : Rg w' g rs t := by
  unfold Rg; rw [hb.block g hg]; exact h
theorem Rg.row {w : World} {g : Nat} {rs : List RingV} {t : TypeId} (h : Rg w g rs t) (qs : List RingV) : Rg (w.setRow g (fl2 qs).toArray) g qs t := setRow_heap w g _ _ t _ h
theorem Rg.rs {w : World} {g : Nat} {rs : List RingV} {t : TypeId} (h : Rg w g rs t) (hs : ∀ k, k < rs.length → Sl w (rgs rs k).A (rgs rs k).xs) : Rs w (some ⟨g, 0, none⟩) rs := by
  refine .inr ⟨_, rfl, h.lt, fun k hk => ?_⟩
  have hadd : ∀ j, (⟨g, 0, none⟩ : Addr).add j = ⟨g, j, none⟩ := fun j => by
    unfold Addr.add
    by_cases h0 : j = 0
    · subst h0; simp
    · simp [h0]
  obtain ⟨h1, h2⟩ := fl2_at rs k hk
  refine ⟨?_, ?_, hs k hk⟩
  · rw [hadd, cell_of_row w g _ _ t _ h]; simpa using h1
  · rw [hadd, cell_of_row w g _ _ t _ h]; simpa using h2
end Go.Fl
namespace Go.Fl
open Go.RowKit
theorem made_rg (n : Nat) : madeCells #[.slice none 0 0, .int .i64 0] (n * 2) = (fl2 (List.replicate n rgZ)).toArray := by
  unfold madeCells
  apply Array.ext
  · simp [fl2_length]
  · intro i h1 h2
    simp only [Array.size_map, Array.size_range] at h1
    have hk : i / 2 < (List.replicate n rgZ).length := by rw [List.length_replicate]; omega
    obtain ⟨e1, e2⟩ := fl2_at (List.replicate n rgZ) (i / 2) hk
    have ez : rgs (List.replicate n rgZ) (i / 2) = rgZ := by
      unfold rgs
      rw [List.getD_eq_getElem?_getD, List.getElem?_replicate]
      split <;> rfl
    rw [ez] at e1 e2
    have hi : (fl2 (List.replicate n rgZ)).toArray[i] = (fl2 (List.replicate n rgZ))[i]'(by simpa using h2) := by simp
    rw [Array.getElem_map, Array.getElem_range, hi]
    rcases Nat.mod_two_eq_zero_or_one i with h0 | h0
    · have : i / 2 * 2 = i := by omega
      rw [this] at e1
      rw [(List.getElem?_eq_some_iff.1 e1).2]
      show #[Value.slice none 0 0, Value.int .i64 0][i % 2]! = _
      rw [h0]; rfl
    · have : i / 2 * 2 + 1 = i := by omega
      rw [this] at e2
      rw [(List.getElem?_eq_some_iff.1 e2).2]
      show #[Value.slice none 0 0, Value.int .i64 0][i % 2]! = _
      rw [h0]; rfl
theorem run_make_rings {P : Program} (t e : TypeId) (bytes : Nat) (ht : P.underlying t = some (.slice e)) (hinfo : (P.info? e).map (fun i => (i.zero, i.size, i.bytes)) = some (some (.agg #[.slice none 0 0, .int .i64 0]), 2, bytes))
    (n : Nat) (hbytes : bytes * n ≤ 281474976710656) (h63 : n ≤ 9223372036854775807) (w : World) :
    (Instr.makeSlice t (.int .i64 (n : Int)) (.int .i64 (n : Int))).run P w = .ok (.slice (some ⟨w.heap.size, 0, none⟩) n n) (w.alloc (.cells (fl2 (List.replicate n rgZ)).toArray e)) := by
  obtain ⟨i, hi, hzz⟩ := Option.map_eq_some_iff.1 hinfo
  simp only [Prod.mk.injEq] at hzz
  obtain ⟨hz, hs, hb⟩ := hzz
  have hb' : (i.bytes : Int) * (n : Int) ≤ 281474976710656 := by
    have h : ((i.bytes * n : Nat) : Int) ≤ 281474976710656 := by rw [hb]; omega
    rwa [Int.natCast_mul] at h
  have hr := run_make (P := P) w t e i _ ht hi hz .i64 .i64 n n (by omega) (Int.le_refl _) hb' (by omega)
  simp only [Int.toNat_natCast, hs, Value.cells, made_rg] at hr
  exact hr
end Go.Fl
namespace Go.Fl
open Go.RowKit
/-- The same rings up to where they lie, the first k. -/
def RsTo (w : World) (rs qs : List RingV) (k : Nat) : Prop := qs.length = rs.length ∧ (∀ j, j < k → (rgs qs j).xs = (rgs rs j).xs ∧ (rgs qs j).at0 = (rgs rs j).at0) ∧ ∀ j, j < qs.length → Sl w (rgs qs j).A (rgs qs j).xs
theorem rgs_set (qs : List RingV) (k j : Nat) (r : RingV) (hk : k < qs.length) : rgs (qs.set k r) j = if j = k then r else rgs qs j := by
  unfold rgs
  rw [List.getD_eq_getElem?_getD, List.getD_eq_getElem?_getD, List.getElem?_set]
  by_cases h : k = j
  · subst h; rw [if_pos rfl, if_pos hk, if_pos rfl]; rfl
  · rw [if_neg h, if_neg (fun e => h e.symm)]
theorem RsTo.zero (w : World) (rs : List RingV) : RsTo w rs (List.replicate rs.length rgZ) 0 := by
  refine ⟨List.length_replicate .., fun j hj => by omega, fun j _ => ?_⟩
  have ez : rgs (List.replicate rs.length rgZ) j = rgZ := by
    unfold rgs
    rw [List.getD_eq_getElem?_getD, List.getElem?_replicate]
    split <;> rfl
  rw [ez]; exact .inl rfl
theorem RsTo.below {w w' : World} {rs qs : List RingV} {k : Nat} (h : RsTo w rs qs k) (hb : Below w.heap.size w w') : RsTo w' rs qs k := ⟨h.1, h.2.1, fun j hj => (h.2.2 j hj).below hb⟩
theorem RsTo.step {w : World} {rs qs : List RingV} {k : Nat} (h : RsTo w rs qs k) (hk : k < rs.length) (r : RingV) (hx : r.xs = (rgs rs k).xs) (ha : r.at0 = (rgs rs k).at0) (hs : Sl w r.A r.xs) : RsTo w rs (qs.set k r) (k + 1) := by
  refine ⟨by rw [List.length_set]; exact h.1, fun j hj => ?_, fun j hj => ?_⟩
  · rw [rgs_set _ _ _ _ (by rw [h.1]; exact hk)]
    by_cases e : j = k
    · subst e; rw [if_pos rfl]; exact ⟨hx, ha⟩
    · rw [if_neg e]; exact h.2.1 j (by omega)
  · rw [rgs_set _ _ _ _ (by rw [h.1]; exact hk)]
    by_cases e : j = k
    · rw [if_pos e]; exact hs
    · rw [if_neg e]; exact h.2.2 j (by rwa [List.length_set] at hj)
/-- .. behind a store into another block. -/
theorem RsTo.row {w : World} {rs qs : List RingV} {k g : Nat} (h : RsTo w rs qs k) (cs : Array Value) (hg : ∀ j, j < qs.length → ∀ ad, (rgs qs j).A = some ad → (rgs qs j).xs ≠ [] → ad.block ≠ g) : RsTo (w.setRow g cs) rs qs k :=
  ⟨h.1, h.2.1, fun j hj => by
    rcases h.2.2 j hj with h1 | ⟨ad, hA, hlt, hc⟩
    · exact .inl h1
    · by_cases hx : (rgs qs j).xs = []
      · exact .inl hx
      refine .inr ⟨ad, hA, by simpa [World.setRow] using hlt, fun i hi => ?_⟩
      have := hc i hi
      have hne := hg j hj ad hA hx
      rw [World.cell?_of_block (w := w) (setRow_other w g (ad.add i).block cs (by rw [addr_add_block]; exact hne))]
      exact this⟩
/-- Rings at A, all that they own from 'base' on. -/
def RsF (w : World) (base : Nat) (A : Option Addr) (rs : List RingV) : Prop := Rs w A rs ∧ (rs = [] ∨ ∀ ad, A = some ad → base ≤ ad.block) ∧ ∀ k, k < rs.length → (rgs rs k).xs = [] ∨ ∀ ad, (rgs rs k).A = some ad → base ≤ ad.block
theorem RsF.grown {w w' : World} {base : Nat} {A : Option Addr} {rs : List RingV} (h : RsF w base A rs) {row : Option Nat} (hg : w.grownBy w' row) (hr : ∀ k, row = some k → k < base) : RsF w' base A rs := by
  refine ⟨?_, h.2.1, h.2.2⟩
  rcases h.1 with h1 | ⟨ad, hA, hlt, hc⟩
  · exact .inl h1
  rcases h.2.1 with h1 | h1
  · exact .inl h1
  have hb := h1 ad hA
  have hcell : ∀ j v, w.cell? (ad.add j) = some v → w'.cell? (ad.add j) = some v := fun j v hv => by
    rw [World.cell?_of_block (w := w) (hg.block _ (by rw [addr_add_block]; exact hlt) (by rw [addr_add_block]; intro e; have := hr _ e.symm; omega))]; exact hv
  refine .inr ⟨ad, hA, Nat.lt_of_lt_of_le hlt hg.size, fun k hk => ?_⟩
  obtain ⟨c1, c2, c3⟩ := hc k hk
  refine ⟨hcell _ _ c1, hcell _ _ c2, ?_⟩
  rcases c3 with c3 | ⟨a2, hA2, hlt2, hc2⟩
  · exact .inl c3
  rcases h.2.2 k hk with h2 | h2
  · exact .inl h2
  have hb2 := h2 a2 hA2
  refine .inr ⟨a2, hA2, Nat.lt_of_lt_of_le hlt2 hg.size, fun i hi => ?_⟩
  rw [World.cell?_of_block (w := w) (hg.block _ (by rw [addr_add_block]; exact hlt2) (by rw [addr_add_block]; intro e; have := hr _ e.symm; omega))]
  exact hc2 i hi
theorem RsF.below {w w' : World} {base : Nat} {A : Option Addr} {rs : List RingV} (h : RsF w base A rs) (hb : Below w.heap.size w w') : RsF w' base A rs := ⟨h.1.below hb, h.2⟩
end Go.Fl
