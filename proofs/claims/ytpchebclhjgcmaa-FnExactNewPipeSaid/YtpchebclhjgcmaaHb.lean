/- Strings as arguments: their cells. No condition. -/
import Derived.Test.YtpchebclhjgcmaaHa
import Derived.Test.YtpchebclhjgcmaaGa
namespace Go.Fl
open Go.RowKit Go.ChangeShapes Go.WideShapes Go.WideElems
/-- A filter. -/
structure Fil where
  k : Int
  c0 : Nat
  c1 : Nat
  c2 : Nat
  s0 : Nat
  s1 : Nat
def Fil.cells (F : Fil) : List Value := filC F.k F.c0 F.c1 F.c2 F.s0 F.s1
theorem Fil.length (F : Fil) : F.cells.length = 6 := rfl
/-- A string's cells. -/
def strC (A : Option Addr) (n c : Nat) (at0 : Int) (F G : Fil) (l : Nat) : List Value := [.slice A n c, .int .i64 at0] ++ F.cells ++ G.cells ++ [.float .f32 l]
section
variable {H : Type} {enc : TypeId × Value → H} {P : Program} {w : World} {base : Nat} {spare : Nat → Bool} {held : Bool} {t : TypeId} {fuel : Nat} {cs : List Value} {x : DataW H × List MemPlace}
/-- What a reader needs of a filter's type. -/
structure FilT (P : Program) (t : TypeId) : Prop where
  und : ∃ f0 f1 f2 : Field, ∃ e1 e2 : TypeId, P.underlying t = some (.struct #[f0, f1, f2]) ∧ f0.offset = 0 ∧ f1.offset = 1 ∧ f2.offset = 4 ∧ P.cellsOf f0.type = 1 ∧ P.cellsOf f1.type = 3 ∧ P.cellsOf f2.type = 2 ∧
    P.underlying f0.type = some (.int .i64) ∧ P.underlying f1.type = some (.array 3 e1) ∧ P.underlying f2.type = some (.array 2 e2) ∧ P.underlying e1 = some (.float .f32) ∧ P.underlying e2 = some (.float .f32) ∧ P.cellsOf e1 = 1 ∧ P.cellsOf e2 = 1
  size : P.cellsOf t = 6
theorem trod_fil (ht : FilT P t) (hf : DataW.trod enc P w base spare held fuel t cs = some x) : ∃ F : Fil, cs = F.cells ∧ (Lit.int .i64 F.k).wf = true := by
  obtain ⟨⟨f0, f1, f2, e1, e2, hu, o0, o1, o2, c0, c1, c2, hi, h3, h2, he1, he2, hc1, hc2⟩, ct⟩ := ht
  obtain ⟨k, a0, a1, a2, b0, b1, h, hw⟩ := trod_filt hu o0 o1 o2 c0 c1 c2 ct hi h3 h2 he1 he2 hc1 hc2 hf
  exact ⟨⟨k, a0, a1, a2, b0, b1⟩, h, hw⟩
structure RingT (P : Program) (t : TypeId) : Prop where
  und : ∃ f0 f1 : Field, ∃ e : TypeId, P.underlying t = some (.struct #[f0, f1]) ∧ f0.offset = 0 ∧ f1.offset = 1 ∧ P.cellsOf f0.type = 1 ∧ P.cellsOf f1.type = 1 ∧ P.underlying f0.type = some (.slice e) ∧ P.underlying e = some (.float .f32) ∧ P.cellsOf e = 1 ∧ P.underlying f1.type = some (.int .i64)
  size : P.cellsOf t = 2
theorem trod_ring (ht : RingT P t) (hf : DataW.trod enc P w base spare held fuel t cs = some x) :
    ∃ (A : Option Addr) (c : Nat) (xs : List Nat) (n : Int), cs = [.slice A xs.length c, .int .i64 n] ∧ Sl w A xs ∧ (Lit.int .i64 n).wf = true ∧ xs.length ≤ maxLen := by
  obtain ⟨⟨f0, f1, e, hu, o0, o1, c0, c1, hs, he, hc, hi⟩, ct⟩ := ht
  obtain ⟨y0, y1, m, _, hl, h0, h1⟩ := ChangeShapes.trod_struct2 hu hf
  rw [ct] at hl
  match cs, hl with
  | [a, b], _ =>
    rw [o0, c0] at h0
    rw [o1, c1] at h1
    have h0' : DataW.trod enc P w base spare held m f0.type [a] = some y0 := h0
    have h1' : DataW.trod enc P w base spare held m f1.type [b] = some y1 := h1
    obtain ⟨A, c, xs, e1, e2, e4, e5⟩ := trod_f32s hs he hc h0'
    obtain ⟨n, e3, _, hw⟩ := DataW.trod_int hi h1'
    cases e1; cases e3
    exact ⟨A, c, xs, n, rfl, e2, hw, Nat.le_trans e4 e5⟩
structure StrT (P : Program) (t : TypeId) : Prop where
  und : ∃ f0 f1 f2 f3 : Field, P.underlying t = some (.struct #[f0, f1, f2, f3]) ∧ f0.offset = 0 ∧ f1.offset = 2 ∧ f2.offset = 8 ∧ f3.offset = 14 ∧ RingT P f0.type ∧ FilT P f1.type ∧ FilT P f2.type ∧ P.underlying f3.type = some (.float .f32) ∧ P.cellsOf f3.type = 1
  size : P.cellsOf t = 15
theorem trod_str (ht : StrT P t) (hf : DataW.trod enc P w base spare held fuel t cs = some x) :
    ∃ (A : Option Addr) (c : Nat) (xs : List Nat) (n : Int) (F G : Fil) (l : Nat), cs = strC A xs.length c n F G l ∧ Sl w A xs ∧ (Lit.int .i64 n).wf = true ∧ xs.length ≤ maxLen := by
  obtain ⟨⟨f0, f1, f2, f3, hu, o0, o1, o2, o3, r0, r1, r2, r3, c3⟩, ct⟩ := ht
  obtain ⟨ys, m, _, _, hl, hlen, hfs⟩ := DataW.trod_struct hu hf
  rw [ct] at hl
  match ys, hlen with
  | [y0, y1, y2, y3], _ =>
    have q0 := hfs 0 f0 rfl
    have q1 := hfs 1 f1 rfl
    have q2 := hfs 2 f2 rfl
    have q3 := hfs 3 f3 rfl
    rw [o0, r0.size] at q0; rw [o1, r1.size] at q1; rw [o2, r2.size] at q2; rw [o3, c3] at q3
    obtain ⟨A, c, xs, n, h0, hs, hw, hm⟩ := trod_ring r0 q0
    obtain ⟨F, h1, _⟩ := trod_fil r1 q1
    obtain ⟨G, h2, _⟩ := trod_fil r2 q2
    have e3 : ∃ z, (cs.drop 14).take 1 = [z] := by
      match hh : cs.drop 14, (by rw [List.length_drop]; omega : (cs.drop 14).length = 1) with
      | [z], _ => exact ⟨z, by simp⟩
    obtain ⟨z, h3⟩ := e3
    rw [h3] at q3
    obtain ⟨hz, _⟩ := trod_f32 r3 q3
    refine ⟨A, c, xs, n, F, G, bitsV z, ?_, hs, hw, hm⟩
    have e : cs = (cs.drop 0).take 2 ++ ((cs.drop 2).take 6 ++ ((cs.drop 8).take 6 ++ (cs.drop 14).take 1)) := by
      match cs, hl with
      | [_, _, _, _, _, _, _, _, _, _, _, _, _, _, _], _ => rfl
    rw [e, h0, h1, h2, h3]
    unfold strC
    rw [← hz]
    simp
theorem open_str {r : Reach} {b0 : Nat} {v : Value} {d : DataW H} {ps : List MemPlace} (ht : StrT P t) (hval : Value.okWide P w r b0 t v) (hd : DataW.Trod enc P w base spare held t v d ps) :
    ∃ (A : Option Addr) (c : Nat) (xs : List Nat) (n : Int) (F G : Fil) (l : Nat), v = .agg (strC A xs.length c n F G l).toArray ∧ Sl w A xs ∧ (Lit.int .i64 n).wf = true ∧ xs.length ≤ maxLen := by
  obtain ⟨f0, f1, f2, f3, hu, _⟩ := ht.und
  simp only [Value.okWide, hu] at hval
  obtain ⟨cs, rfl, hz, _⟩ := hval
  obtain ⟨fuel, hf⟩ := hd
  obtain ⟨A, c, xs, n, F, G, l, h, h1⟩ := trod_str ht hf
  refine ⟨A, c, xs, n, F, G, l, ?_, h1⟩
  have h' : cs.toList = strC A xs.length c n F G l := h
  rw [← h']
end
end Go.Fl
