/- Pipes as arguments: their cells. One cell loaded out of a row, stored into a row; a pipe's facts. No condition. -/
import Derived.Test.YtpchebclhjgcmaaLe
import Derived.Test.YtpchebclhjgcmaaHb
import Derived.Test.YtpchebclhjgcmaaHc
import Derived.Test.YtpchebclhjgcmaaHj
namespace Go.Fl
open Go.RowKit Go.ChangeShapes Go.WideShapes Go.WideElems Go.Deep
theorem rgs_append_l (rs qs : List RingV) (k : Nat) (h : k < rs.length) : rgs (rs ++ qs) k = rgs rs k := by
  simp [rgs, List.getD_eq_getElem?_getD, List.getElem?_append_left h]
theorem rgs_append_e (rs : List RingV) (r : RingV) : rgs (rs ++ [r]) rs.length = r := by
  simp [rgs, List.getD_eq_getElem?_getD]
theorem build_rgs {P : Nat → RingV → Prop} : ∀ n, (∀ k, k < n → ∃ r, P k r) → ∃ rs : List RingV, rs.length = n ∧ ∀ k, k < n → P k (rgs rs k)
  | 0, _ => ⟨[], rfl, fun k hk => by omega⟩
  | n + 1, h => by
    obtain ⟨rs, hl, hp⟩ := build_rgs n (fun k hk => h k (by omega))
    obtain ⟨r, hr⟩ := h n (by omega)
    refine ⟨rs ++ [r], by simp [hl], fun k hk => ?_⟩
    by_cases e : k = n
    · subst e; rw [← hl, rgs_append_e]; rw [hl]; exact hr
    · rw [rgs_append_l _ _ _ (by omega)]; exact hp k (by omega)
/-- A pipe's cells. -/
def pipC (A1 : Option Addr) (n1 c1 : Nat) (A2 : Option Addr) (n2 c2 : Nat) (A3 : Option Addr) (n3 c3 : Nat) (F : Fil) (o : Bool) (l r s : Nat) : List Value :=
  [.slice A1 n1 c1, .slice A2 n2 c2, .slice A3 n3 c3] ++ F.cells ++ [.bool o, .float .f32 l, .float .f32 r, .float .f32 s]
/-- All rings' samples fit. -/
def RsFit (rs : List RingV) : Prop := ∀ k, k < rs.length → (rgs rs k).xs.length ≤ maxLen
section
variable {H : Type} {enc : TypeId × Value → H} {P : Program} {w : World} {base : Nat} {spare : Nat → Bool} {held : Bool} {t : TypeId} {fuel : Nat} {cs : List Value} {x : DataW H × List MemPlace}
theorem trod_rings {e : TypeId} (ht : P.underlying t = some (.slice e)) (rt : RingT P e) (hf : DataW.trod enc P w base spare held fuel t cs = some x) :
    ∃ (A : Option Addr) (c : Nat) (rs : List RingV), cs = [.slice A rs.length c] ∧ Rs w A rs ∧ rs.length ≤ maxLen ∧ RsFit rs := by
  rcases open_slice ht hf with ⟨h, _⟩ | ⟨a, n, c, m, n', D, Pl, h, hb, hl, hm, hmm, _, hx⟩
  · exact ⟨none, 0, [], h, .inl rfl, Nat.zero_le _, fun k hk => by simp at hk⟩
  · have hnm : n ≤ m := by rw [hmm]; split <;> omega
    obtain ⟨rs, hrl, hrp⟩ := build_rgs (P := fun k r => w.cell? (a.add (k * 2)) = some (.slice r.A r.xs.length r.c) ∧ w.cell? (a.add (k * 2 + 1)) = some (.int .i64 r.at0) ∧ Sl w r.A r.xs ∧ r.xs.length ≤ maxLen) n (fun k hk => by
      obtain ⟨cs', h1, h2⟩ := hx k (by omega)
      rw [rt.size] at h1
      obtain ⟨_, hlen, hcell⟩ := World.cells?_some h1
      obtain ⟨A, c, xs, z, rfl, hs, _, hfit⟩ := trod_ring rt h2
      refine ⟨⟨A, c, xs, z⟩, ?_, ?_, hs, hfit⟩
      · have := hcell 0 (by omega)
        rw [addr_add_add] at this
        simpa using this
      · have := hcell 1 (by omega)
        rw [addr_add_add] at this
        simpa using this)
    refine ⟨some a, c, rs, by rw [hrl]; exact h, ?_, by omega, fun k hk => (hrp k (by omega)).2.2.2⟩
    by_cases h0 : n = 0
    · subst h0; exact .inl (List.eq_nil_of_length_eq_zero hrl)
    · refine .inr ⟨a, rfl, ?_, fun k hk => ?_⟩
      · have := block_lt_of_cell (hrp 0 (by omega)).1
        rwa [addr_add_block] at this
      · exact ⟨(hrp k (by omega)).1, (hrp k (by omega)).2.1, (hrp k (by omega)).2.2.1⟩
structure PipT (P : Program) (t : TypeId) : Prop where
  und : ∃ f0 f1 f2 f3 f4 f5 f6 f7 : Field, ∃ e0 e1 e2 : TypeId, P.underlying t = some (.struct #[f0, f1, f2, f3, f4, f5, f6, f7]) ∧ f0.offset = 0 ∧ f1.offset = 1 ∧ f2.offset = 2 ∧ f3.offset = 3 ∧ f4.offset = 9 ∧ f5.offset = 10 ∧ f6.offset = 11 ∧ f7.offset = 12 ∧
    (P.underlying f0.type = some (.slice e0) ∧ RingT P e0 ∧ P.cellsOf f0.type = 1) ∧ (P.underlying f1.type = some (.slice e1) ∧ RingT P e1 ∧ P.cellsOf f1.type = 1) ∧ (P.underlying f2.type = some (.slice e2) ∧ P.underlying e2 = some (.float .f32) ∧ P.cellsOf e2 = 1 ∧ P.cellsOf f2.type = 1) ∧ FilT P f3.type ∧
    (P.underlying f4.type = some .bool ∧ P.cellsOf f4.type = 1) ∧ (P.underlying f5.type = some (.float .f32) ∧ P.cellsOf f5.type = 1) ∧ (P.underlying f6.type = some (.float .f32) ∧ P.cellsOf f6.type = 1) ∧ (P.underlying f7.type = some (.float .f32) ∧ P.cellsOf f7.type = 1)
  size : P.cellsOf t = 13
theorem trod_pipe (ht : PipT P t) (hf : DataW.trod enc P w base spare held fuel t cs = some x) :
    ∃ (A1 : Option Addr) (c1 : Nat) (rs : List RingV) (A2 : Option Addr) (c2 : Nat) (qs : List RingV) (A3 : Option Addr) (c3 : Nat) (xs : List Nat) (F : Fil) (o : Bool) (l r s : Nat), cs = pipC A1 rs.length c1 A2 qs.length c2 A3 xs.length c3 F o l r s ∧ Rs w A1 rs ∧ Rs w A2 qs ∧ Sl w A3 xs ∧ rs.length ≤ maxLen ∧ RsFit rs ∧ qs.length ≤ maxLen ∧ RsFit qs ∧ xs.length ≤ maxLen := by
  obtain ⟨⟨f0, f1, f2, f3, f4, f5, f6, f7, e0, e1, e2, hu, o0, o1, o2, o3, o4, o5, o6, o7, ⟨u0, r0, k0⟩, ⟨u1, r1, k1⟩, ⟨u2, g2, g3, k2⟩, r3, ⟨u4, k4⟩, ⟨u5, k5⟩, ⟨u6, k6⟩, ⟨u7, k7⟩⟩, ct⟩ := ht
  obtain ⟨ys, m, _, _, hl, hlen, hfs⟩ := DataW.trod_struct hu hf
  rw [ct] at hl
  match cs, hl with
  | [a0, a1, a2, a3, a4, a5, a6, a7, a8, a9, a10, a11, a12], _ =>
    match ys, hlen with
    | [y0, y1, y2, y3, y4, y5, y6, y7], _ =>
      have q0 := hfs 0 f0 rfl
      have q1 := hfs 1 f1 rfl
      have q2 := hfs 2 f2 rfl
      have q3 := hfs 3 f3 rfl
      have q4 := hfs 4 f4 rfl
      have q5 := hfs 5 f5 rfl
      have q6 := hfs 6 f6 rfl
      have q7 := hfs 7 f7 rfl
      rw [o0, k0] at q0; rw [o1, k1] at q1; rw [o2, k2] at q2; rw [o3, r3.size] at q3; rw [o4, k4] at q4; rw [o5, k5] at q5; rw [o6, k6] at q6; rw [o7, k7] at q7
      have q0' : DataW.trod enc P w base spare held m f0.type [a0] = some y0 := q0
      have q1' : DataW.trod enc P w base spare held m f1.type [a1] = some y1 := q1
      have q2' : DataW.trod enc P w base spare held m f2.type [a2] = some y2 := q2
      have q3' : DataW.trod enc P w base spare held m f3.type [a3, a4, a5, a6, a7, a8] = some y3 := q3
      have q4' : DataW.trod enc P w base spare held m f4.type [a9] = some y4 := q4
      have q5' : DataW.trod enc P w base spare held m f5.type [a10] = some y5 := q5
      have q6' : DataW.trod enc P w base spare held m f6.type [a11] = some y6 := q6
      have q7' : DataW.trod enc P w base spare held m f7.type [a12] = some y7 := q7
      obtain ⟨A1, c1, rs, h0, hs0, hm0, hf0⟩ := trod_rings u0 r0 q0'
      obtain ⟨A2, c2, qs, h1, hs1, hm1, hf1⟩ := trod_rings u1 r1 q1'
      obtain ⟨A3, c3, xs, h2, hs2, hm2, hm3⟩ := trod_f32s u2 g2 g3 q2'
      obtain ⟨F, h3, _⟩ := trod_fil r3 q3'
      obtain ⟨b, h4, _⟩ := DataW.trod_bool u4 q4'
      obtain ⟨h5, _⟩ := trod_f32 u5 q5'
      obtain ⟨h6, _⟩ := trod_f32 u6 q6'
      obtain ⟨h7, _⟩ := trod_f32 u7 q7'
      refine ⟨A1, c1, rs, A2, c2, qs, A3, c3, xs, F, b, bitsV a10, bitsV a11, bitsV a12, ?_, hs0, hs1, hs2, hm0, hf0, hm1, hf1, Nat.le_trans hm2 hm3⟩
      unfold pipC
      rw [← h3, ← h5, ← h6, ← h7]
      cases h0; cases h1; cases h2; cases h4
      rfl
theorem open_pipe {r : Reach} {b0 : Nat} {v : Value} {d : DataW H} {ps : List MemPlace} (ht : PipT P t) (hval : Value.okWide P w r b0 t v) (hd : DataW.Trod enc P w base spare held t v d ps) :
    ∃ (A1 : Option Addr) (c1 : Nat) (rs : List RingV) (A2 : Option Addr) (c2 : Nat) (qs : List RingV) (A3 : Option Addr) (c3 : Nat) (xs : List Nat) (F : Fil) (o : Bool) (l r s : Nat), v = .agg (pipC A1 rs.length c1 A2 qs.length c2 A3 xs.length c3 F o l r s).toArray ∧ Rs w A1 rs ∧ Rs w A2 qs ∧ Sl w A3 xs ∧ rs.length ≤ maxLen ∧ RsFit rs ∧ qs.length ≤ maxLen ∧ RsFit qs ∧ xs.length ≤ maxLen := by
  obtain ⟨f0, f1, f2, f3, f4, f5, f6, f7, e0, e1, e2, hu, _⟩ := ht.und
  simp only [Value.okWide, hu] at hval
  obtain ⟨cs, rfl, hz, _⟩ := hval
  obtain ⟨fuel, hf⟩ := hd
  obtain ⟨A1, c1, rs, A2, c2, qs, A3, c3, xs, F, o, l, r, s, h, h1⟩ := trod_pipe ht hf
  refine ⟨A1, c1, rs, A2, c2, qs, A3, c3, xs, F, o, l, r, s, ?_, h1⟩
  have h' : cs.toList = pipC A1 rs.length c1 A2 qs.length c2 A3 xs.length c3 F o l r s := h
  rw [← h']
end
end Go.Fl
namespace Go.Fl
open Go.RowKit
section
variable {P : Program} {ops : Array Oper} {rest : List Oper} {o : Oper} {a : Act} {w : World} {K : Act → World → Prop} {Q : Exit → Act → World → Prop}
theorem run_loadVar_one (w : World) (ad : Addr) (ty : TypeId) (v : Value) (d : TypeDesc) (hc : w.cell? ad = some v) (hu : P.underlying ty = some d) (hd : (match d with | .struct _ | .array _ _ => true | _ => false) = false) :
    (loadVar ty ad).run P w = .ok v w := by
  have hagg : (isAgg ty).run P w = .ok false w := by
    unfold isAgg
    rw [Sem.run_bind, run_underlying hu w]
    cases d <;> simp_all
  simp [loadVar, Sem.run_bind, hagg, hc]
theorem cell_row {g k : Nat} {cs : List Value} {t : TypeId} {v : Value} (hg : w.heap[g]? = some (.cells cs.toArray t)) (hk : cs[k]? = some v) : w.cell? ⟨g, k, none⟩ = some v := by
  rw [cell_of_row w g k cs.toArray t _ hg]; simpa using hk
theorem wp_load_one (ty : TypeId) (x : Operand) (ho : o.op = .load ty x) (ad : Addr) (hx : a.eval x = .pointer (some ad)) (v : Value) {d : TypeDesc} (hc : w.cell? ad = some v)
    (hu : P.underlying ty = some d) (hd : (match d with | .struct _ | .array _ _ => true | _ => false) = false) (h : K (a.put o.dst v) w) : o.wp P a w K Q := by
  unfold Oper.wp execOp
  simp only [ho, hx, Instr.loadAt, Instr.sureAddr, Sem.run_bind, Sem.run_pure, Result.andThen_ok, run_loadVar_one w ad ty v d hc hu hd]
  exact h
theorem wpList_load_one (hgd : o.guard = none) (ty : TypeId) (x : Operand) (ho : o.op = .load ty x) (ad : Addr) (hx : a.eval x = .pointer (some ad)) (v : Value) {d : TypeDesc} (hc : w.cell? ad = some v)
    (hu : P.underlying ty = some d) (hd : (match d with | .struct _ | .array _ _ => true | _ => false) = false) (h : wpList P ops Q rest (a.put o.dst v) w) : wpList P ops Q (o :: rest) a w :=
  wpList_plain hgd fun _ hK => wp_load_one ty x ho ad hx v hc hu hd (hK _ _ h)
theorem wpList_load_oneG (hgd : Region.wanted o (yielded ops a.tmps) = true) (ty : TypeId) (x : Operand) (ho : o.op = .load ty x) (ad : Addr) (hx : a.eval x = .pointer (some ad)) (v : Value) {d : TypeDesc} (hc : w.cell? ad = some v)
    (hu : P.underlying ty = some d) (hd : (match d with | .struct _ | .array _ _ => true | _ => false) = false) (h : wpList P ops Q rest (a.put o.dst v) w) : wpList P ops Q (o :: rest) a w :=
  wpList_step fun K hK => by
    rw [if_pos hgd]
    exact wp_load_one ty x ho ad hx v hc hu hd (hK _ _ h)
theorem run_storeVar_partV (w : World) (g off : Nat) (t ty : TypeId) (cs part : List Value) (v : Value) (hv : v.cells = part.toArray) (hg : w.heap[g]? = some (.cells cs.toArray t)) (hi : (P.info? ty).map (·.size) = some part.length)
    (hfit : off + part.length ≤ cs.length) (h1 : part.all (·.oneCell') = true) :
    (storeVar ty ⟨g, off, none⟩ v).run P w = .ok () (w.setRow g (over cs off part).toArray) := by
  have := run_storeCells_at P g off t part 0 cs.toArray w hg (by simpa using hfit) (fun v hv => (List.all_eq_true.1 h1) v hv)
  cases hq : P.info? ty with
  | none => simp [hq] at hi
  | some i =>
    have hs : part.length = i.size := by simp [hq] at hi; omega
    simp only [Nat.add_zero] at this
    simp [storeVar, sizeOf, typeInfo, hq, hv, hs, this, over]
theorem wpList_store_partV (hgd : o.guard = none) (ty : TypeId) (x y : Operand) (ho : o.op = .store ty x y) (g off : Nat) (hx : a.eval x = .pointer (some ⟨g, off, none⟩)) (part : List Value) (v : Value) (hv : v.cells = part.toArray) (hy : a.eval y = v) {t : TypeId} {cs : List Value} (hg : w.heap[g]? = some (.cells cs.toArray t)) (hi : (P.info? ty).map (·.size) = some part.length)
    (hfit : Nat.ble (off + part.length) cs.length = true) (h1 : part.all (·.oneCell') = true) (new : List Value) (hnew : over cs off part = new) (h : ∀ w', w.grownBy w' (some g) → w'.heap[g]? = some (.cells new.toArray t) → wpList P ops Q rest (a.put o.dst undef) w') : wpList P ops Q (o :: rest) a w := by
  refine wpList_plain hgd fun K hK => ?_
  have hr := run_storeVar_partV (P := P) w g off t ty cs part v hv hg hi (Nat.le_of_ble_eq_true hfit) h1
  have h2 := h (w.setRow g (over cs off part).toArray) ⟨rfl, rfl, rfl, by simp, fun k _ hn => setRow_other w g k _ (fun e => hn (by rw [e]))⟩ (by rw [← hnew]; exact setRow_heap w g _ _ t _ hg)
  unfold Oper.wp execOp
  simp only [ho, hx, hy, Instr.storeAt, Instr.sureAddr, Sem.run_bind, Sem.run_pure, Result.andThen_ok, hr]
  exact hK _ _ h2
end
/-- A pipe. -/
structure PipV where
  A1 : Option Addr
  c1 : Nat
  rs : List RingV
  A2 : Option Addr
  c2 : Nat
  qs : List RingV
  A3 : Option Addr
  c3 : Nat
  xs : List Nat
  F : Fil
  o : Bool
  l : Nat
  r : Nat
  s : Nat
def PipV.cells (p : PipV) : List Value := pipC p.A1 p.rs.length p.c1 p.A2 p.qs.length p.c2 p.A3 p.xs.length p.c3 p.F p.o p.l p.r p.s
theorem PipV.cells_length (p : PipV) : p.cells.length = 13 := rfl
/-- What the pipe's slices hold. -/
def PipAt (w : World) (p : PipV) : Prop := Rs w p.A1 p.rs ∧ Rs w p.A2 p.qs ∧ Sl w p.A3 p.xs
theorem PipAt.below {w w' : World} {p : PipV} (h : PipAt w p) (hb : Below w.heap.size w w') : PipAt w' p := ⟨h.1.below hb, h.2.1.below hb, h.2.2.below hb⟩
def RsSz (rs : List RingV) (m : Nat) : Prop := rs.length ≤ m ∧ ∀ k, k < rs.length → (rgs rs k).xs.length ≤ m
def PipSz (p : PipV) : Prop := RsSz p.rs 1048576 ∧ RsSz p.qs 1048576 ∧ p.xs.length ≤ 1048576
theorem p_c0 (p : PipV) : p.cells[0]? = some (.slice p.A1 p.rs.length p.c1) := rfl
theorem p_c1 (p : PipV) : p.cells[1]? = some (.slice p.A2 p.qs.length p.c2) := rfl
theorem p_c2 (p : PipV) : p.cells[2]? = some (.slice p.A3 p.xs.length p.c3) := rfl
theorem p_c3 (p : PipV) : (p.cells.drop 3).take p.F.cells.length = p.F.cells := rfl
theorem p_c9 (p : PipV) : p.cells[9]? = some (.bool p.o) := rfl
theorem p_c10 (p : PipV) : p.cells[10]? = some (.float .f32 p.l) := rfl
theorem p_c11 (p : PipV) : p.cells[11]? = some (.float .f32 p.r) := rfl
theorem p_c12 (p : PipV) : p.cells[12]? = some (.float .f32 p.s) := rfl
end Go.Fl
