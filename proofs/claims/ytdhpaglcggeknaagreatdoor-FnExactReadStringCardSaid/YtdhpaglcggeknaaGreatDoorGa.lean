/- Filters as arguments: their cells; arrays of three and two copied; filters copied. No condition. -/
import Derived.Test.YtdhpaglcggeknaaGreatDoorTe
import Derived.Test.YtdhpaglcggeknaaGreatDoorC2
namespace Go.Fl
open Go.RowKit Go.ChangeShapes Go.WideShapes Go.WideElems
/-- A filter's cells. -/
def filC (k : Int) (c0 c1 c2 s0 s1 : Nat) : List Value := [.int .i64 k, .float .f32 c0, .float .f32 c1, .float .f32 c2, .float .f32 s0, .float .f32 s1]
section
variable {H : Type} {enc : TypeId × Value → H} {P : Program} {w : World} {base : Nat} {spare : Nat → Bool} {held : Bool} {t e : TypeId} {fuel : Nat} {cs : List Value} {x : DataW H × List MemPlace}
theorem trod_farr {n : Nat} (ht : P.underlying t = some (.array n e)) (he : P.underlying e = some (.float .f32)) (hc : P.cellsOf e = 1) (hn : P.cellsOf t = n) (hf : DataW.trod enc P w base spare held fuel t cs = some x) :
    ∃ xs : List Nat, cs = fll xs ∧ xs.length = n := by
  obtain ⟨ys, m, rfl, _, hl, hy, hget⟩ := DataW.trod_array ht hf
  rw [hn] at hl
  have key : ∀ i (hi : i < cs.length), cs[i] = .float .f32 (bitsV cs[i]) := by
    intro i hi
    have h1 := hget i (by omega)
    simp only [hc, Nat.mul_one] at h1
    have e1 : List.take 1 (List.drop i cs) = [cs[i]] := by
      rw [List.drop_eq_getElem_cons hi]; rfl
    rw [e1, List.getElem?_eq_getElem (by omega)] at h1
    exact (trod_f32 he h1).1
  refine ⟨cs.map bitsV, ?_, by simpa using hl⟩
  unfold fll
  rw [List.map_map]
  apply List.ext_getElem (by simp)
  intro i h1 h2
  rw [List.getElem_map]
  exact key i h1
theorem trod_filt {f0 f1 f2 : Field} {e1 e2 : TypeId} (ht : P.underlying t = some (.struct #[f0, f1, f2])) (o0 : f0.offset = 0) (o1 : f1.offset = 1) (o2 : f2.offset = 4) (c0 : P.cellsOf f0.type = 1) (c1 : P.cellsOf f1.type = 3) (c2 : P.cellsOf f2.type = 2) (ct : P.cellsOf t = 6)
    (hi : P.underlying f0.type = some (.int .i64)) (h3 : P.underlying f1.type = some (.array 3 e1)) (h2 : P.underlying f2.type = some (.array 2 e2)) (he1 : P.underlying e1 = some (.float .f32)) (he2 : P.underlying e2 = some (.float .f32)) (hc1 : P.cellsOf e1 = 1) (hc2 : P.cellsOf e2 = 1)
    (hf : DataW.trod enc P w base spare held fuel t cs = some x) : ∃ (k : Int) (a0 a1 a2 b0 b1 : Nat), cs = filC k a0 a1 a2 b0 b1 ∧ (Lit.int .i64 k).wf = true := by
  obtain ⟨ys, m, _, _, hl, hlen, hfs⟩ := DataW.trod_struct ht hf
  rw [ct] at hl
  match cs, hl with
  | [v0, v1, v2, v3, v4, v5], _ =>
    match ys, hlen with
    | [y0, y1, y2], _ =>
      have q0 := hfs 0 f0 rfl
      have q1 := hfs 1 f1 rfl
      have q2 := hfs 2 f2 rfl
      rw [o0, c0] at q0; rw [o1, c1] at q1; rw [o2, c2] at q2
      have q0' : DataW.trod enc P w base spare held m f0.type [v0] = some y0 := q0
      have q1' : DataW.trod enc P w base spare held m f1.type [v1, v2, v3] = some y1 := q1
      have q2' : DataW.trod enc P w base spare held m f2.type [v4, v5] = some y2 := q2
      obtain ⟨n, e3, _, hw⟩ := DataW.trod_int hi q0'
      obtain ⟨l1, g1, g2⟩ := trod_farr h3 he1 hc1 c1 q1'
      obtain ⟨l2, g3, g4⟩ := trod_farr h2 he2 hc2 c2 q2'
      match l1, g2, l2, g4 with
      | [a0, a1, a2], _, [b0, b1], _ =>
        cases e3
        simp only [fll, List.map_cons, List.map_nil, List.cons.injEq, and_true] at g1 g3
        obtain ⟨rfl, rfl, rfl⟩ := g1
        obtain ⟨rfl, rfl⟩ := g3
        exact ⟨n, a0, a1, a2, b0, b1, rfl, hw⟩
theorem open_filt {r : Reach} {b0 : Nat} {v : Value} {d : DataW H} {ps : List MemPlace} {f0 f1 f2 : Field} {e1 e2 : TypeId} (ht : P.underlying t = some (.struct #[f0, f1, f2])) (o0 : f0.offset = 0) (o1 : f1.offset = 1) (o2 : f2.offset = 4) (c0 : P.cellsOf f0.type = 1) (c1 : P.cellsOf f1.type = 3) (c2 : P.cellsOf f2.type = 2) (ct : P.cellsOf t = 6)
    (hi : P.underlying f0.type = some (.int .i64)) (h3 : P.underlying f1.type = some (.array 3 e1)) (h2 : P.underlying f2.type = some (.array 2 e2)) (he1 : P.underlying e1 = some (.float .f32)) (he2 : P.underlying e2 = some (.float .f32)) (hc1 : P.cellsOf e1 = 1) (hc2 : P.cellsOf e2 = 1)
    (hval : Value.okWide P w r b0 t v) (hd : DataW.Trod enc P w base spare held t v d ps) : ∃ (k : Int) (a0 a1 a2 b0 b1 : Nat), v = .agg (filC k a0 a1 a2 b0 b1).toArray ∧ (Lit.int .i64 k).wf = true := by
  simp only [Value.okWide, ht] at hval
  obtain ⟨cs, rfl, hz, _⟩ := hval
  obtain ⟨fuel, hf⟩ := hd
  obtain ⟨k, a0, a1, a2, b0, b1, h, hw⟩ := trod_filt ht o0 o1 o2 c0 c1 c2 ct hi h3 h2 he1 he2 hc1 hc2 hf
  refine ⟨k, a0, a1, a2, b0, b1, ?_, hw⟩
  have h' : cs.toList = filC k a0 a1 a2 b0 b1 := h
  rw [← h']
end
end Go.Fl
namespace Go.Proofs.YtdhpaglcggeknaaGreatDoor
open Go.RowKit Go.Fl
theorem info_filt : (Tryz.prog.info? 29).map (·.size) = some 6 := by kernel_rfl
end Go.Proofs.YtdhpaglcggeknaaGreatDoor
