/- Strings as arguments, with the bounds of their numbers. No condition. -/
import Derived.Test.YtdhpaglcggeknaaDoorPi
import Derived.Test.YtdhpaglcggeknaaDoorHg
namespace Go.Fl
open Go.ChangeShapes Go.WideShapes Go.WideElems Go.RowKit Go.Deep
section
variable {H : Type} {enc : TypeId × Value → H} {P : Program} {w : World} {base : Nat} {spare : Nat → Bool} {held : Bool} {t e : TypeId} {fuel : Nat} {cs : List Value} {x : DataW H × List MemPlace}
theorem trod_f32sb (ht : P.underlying t = some (.slice e)) (he : P.underlying e = some (.float .f32)) (hc : P.cellsOf e = 1) (hf : DataW.trod enc P w base spare held fuel t cs = some x) :
    ∃ (A : Option Addr) (c : Nat) (xs : List Nat), cs = [.slice A xs.length c] ∧ Sl w A xs ∧ xs.length ≤ c ∧ c ≤ maxLen ∧ ∀ v ∈ xs, v < 4294967296 := by
  rcases open_slice1 ht hc hf with ⟨h, _⟩ | ⟨a, n, c, m, n', V, D, Pl, h, hb, hl, hm, hmm, _, hx⟩
  · exact ⟨none, 0, [], h, .inl rfl, Nat.le_refl _, Nat.zero_le _, by simp⟩
  · have hnm : n ≤ m := by rw [hmm]; split <;> omega
    have hV : ∀ i, i < n → w.cell? (a.add i) = some (.float .f32 (bitsV (V i))) := fun i hi => by
      rw [(hx i (by omega)).1, ← (trod_f32 he (hx i (by omega)).2).1]
    refine ⟨some a, c, (List.range n).map fun i => bitsV (V i), by rw [h]; simp, ?_, by simpa using hl, hm, ?_⟩
    · by_cases h0 : n = 0
      · subst h0; exact .inl rfl
      · refine .inr ⟨a, rfl, ?_, fun k hk => ?_⟩
        · have := block_lt_of_cell (hV 0 (by omega)); rwa [addr_add_block] at this
        · have hk' : k < n := by simpa using hk
          rw [hV k hk']
          simp [nth, List.getD_eq_getElem?_getD, hk']
    · intro v hv
      obtain ⟨i, hi, rfl⟩ := List.mem_map.1 hv
      exact (trod_f32 he (hx i (by have := List.mem_range.1 hi; omega)).2).2
theorem trod_filb (ht : FilT P t) (hf : DataW.trod enc P w base spare held fuel t cs = some x) : ∃ F : Fil, cs = F.cells ∧ Fb F.c0 F.c1 F.c2 F.s0 F.s1 := by
  obtain ⟨⟨f0, f1, f2, e1, e2, hu, o0, o1, o2, c0, c1, c2, hi, h3, h2, he1, he2, hc1, hc2⟩, ct⟩ := ht
  obtain ⟨k, a0, a1, a2, b0, b1, h, _, hb⟩ := trod_filtb hu o0 o1 o2 c0 c1 c2 ct hi h3 h2 he1 he2 hc1 hc2 hf
  exact ⟨⟨k, a0, a1, a2, b0, b1⟩, h, hb⟩
theorem trod_ringb (ht : RingT P t) (hf : DataW.trod enc P w base spare held fuel t cs = some x) :
    ∃ (A : Option Addr) (c : Nat) (xs : List Nat) (n : Int), cs = [.slice A xs.length c, .int .i64 n] ∧ Sl w A xs ∧ xs.length ≤ maxLen ∧ ∀ v ∈ xs, v < 4294967296 := by
  obtain ⟨⟨f0, f1, e, hu, o0, o1, c0, c1, hs, he, hc, hi⟩, ct⟩ := ht
  obtain ⟨y0, y1, m, _, hl, h0, h1⟩ := ChangeShapes.trod_struct2 hu hf
  rw [ct] at hl
  match cs, hl with
  | [a, b], _ =>
    rw [o0, c0] at h0
    rw [o1, c1] at h1
    have h0' : DataW.trod enc P w base spare held m f0.type [a] = some y0 := h0
    have h1' : DataW.trod enc P w base spare held m f1.type [b] = some y1 := h1
    obtain ⟨A, c, xs, e1, e2, e4, e5, e6⟩ := trod_f32sb hs he hc h0'
    obtain ⟨n, e3, _, hw⟩ := DataW.trod_int hi h1'
    cases e1; cases e3
    exact ⟨A, c, xs, n, rfl, e2, Nat.le_trans e4 e5, e6⟩
theorem trod_strb (ht : StrT P t) (hf : DataW.trod enc P w base spare held fuel t cs = some x) :
    ∃ (A : Option Addr) (c : Nat) (xs : List Nat) (n : Int) (F G : Fil) (l : Nat), cs = strC A xs.length c n F G l ∧ Sl w A xs ∧ xs.length ≤ maxLen ∧ (∀ v ∈ xs, v < 4294967296) ∧ Fb F.c0 F.c1 F.c2 F.s0 F.s1 ∧ Fb G.c0 G.c1 G.c2 G.s0 G.s1 ∧ l < 4294967296 := by
  obtain ⟨⟨f0, f1, f2, f3, hu, o0, o1, o2, o3, r0, r1, r2, r3, c3⟩, ct⟩ := ht
  obtain ⟨ys, m, _, _, hl, hlen, hfs⟩ := DataW.trod_struct hu hf
  rw [ct] at hl
  match ys, hlen with
  | [y0, y1, y2, y3], _ =>
    have q0 := hfs 0 f0 rfl
    have q1 := hfs 1 f1 rfl
    have q2 := hfs 2 f2 rfl
    have q3 := hfs 3 f3 rfl
    rw [o0, r0.size] at q0; rw [o1, r1.size] at q1; rw [o2, r2.size] at q2; rw [o3, c3] at q3
    obtain ⟨A, c, xs, n, h0, hs, hm, hx⟩ := trod_ringb r0 q0
    obtain ⟨F, h1, k1⟩ := trod_filb r1 q1
    obtain ⟨G, h2, k2⟩ := trod_filb r2 q2
    have e3 : ∃ z, (cs.drop 14).take 1 = [z] := by
      match hh : cs.drop 14, (by rw [List.length_drop]; omega : (cs.drop 14).length = 1) with
      | [z], _ => exact ⟨z, by simp⟩
    obtain ⟨z, h3⟩ := e3
    rw [h3] at q3
    obtain ⟨hz, kz⟩ := trod_f32 r3 q3
    refine ⟨A, c, xs, n, F, G, bitsV z, ?_, hs, hm, hx, k1, k2, kz⟩
    have e : cs = (cs.drop 0).take 2 ++ ((cs.drop 2).take 6 ++ ((cs.drop 8).take 6 ++ (cs.drop 14).take 1)) := by
      match cs, hl with
      | [_, _, _, _, _, _, _, _, _, _, _, _, _, _, _], _ => rfl
    rw [e, h0, h1, h2, h3]
    unfold strC
    rw [← hz]
    simp
theorem open_strb {r : Reach} {b0 : Nat} {v : Value} {d : DataW H} {ps : List MemPlace} (ht : StrT P t) (hval : Value.okWide P w r b0 t v) (hd : DataW.Trod enc P w base spare held t v d ps) :
    ∃ (A : Option Addr) (c : Nat) (xs : List Nat) (n : Int) (F G : Fil) (l : Nat), v = .agg (strC A xs.length c n F G l).toArray ∧ Sl w A xs ∧ xs.length ≤ maxLen ∧ (∀ v ∈ xs, v < 4294967296) ∧ Fb F.c0 F.c1 F.c2 F.s0 F.s1 ∧ Fb G.c0 G.c1 G.c2 G.s0 G.s1 ∧ l < 4294967296 := by
  obtain ⟨f0, f1, f2, f3, hu, _⟩ := ht.und
  simp only [Value.okWide, hu] at hval
  obtain ⟨cs, rfl, hz, _⟩ := hval
  obtain ⟨fuel, hf⟩ := hd
  obtain ⟨A, c, xs, n, F, G, l, h, h1⟩ := trod_strb ht hf
  refine ⟨A, c, xs, n, F, G, l, ?_, h1⟩
  have h' : cs.toList = strC A xs.length c n F G l := h
  rw [← h']
end
end Go.Fl
