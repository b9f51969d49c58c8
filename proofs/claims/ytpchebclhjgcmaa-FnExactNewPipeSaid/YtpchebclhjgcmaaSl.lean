/- Slices of float32: read from memory; an argument opened. No condition. -/
import Derived.Test.YtpchebclhjgcmaaAr
import Derived.Deep.Slices
import Derived.Deep.OwnRows
import Derived.ChangeSame
namespace Go.Fl
open Go.RowKit Go.Deep

/-- A slice at A reads as xs. -/
def Sl (w : World) (A : Option Addr) (xs : List Nat) : Prop := xs = [] ∨ ∃ ad, A = some ad ∧ ad.block < w.heap.size ∧ ∀ k, k < xs.length → w.cell? (ad.add k) = some (.float .f32 (nth xs k))
theorem addr_add_block (ad : Addr) (k : Nat) : (ad.add k).block = ad.block := by unfold Addr.add; split <;> rfl
theorem Sl.below {w w' : World} {A : Option Addr} {xs : List Nat} (h : Sl w A xs) (hb : Below w.heap.size w w') : Sl w' A xs := by
  rcases h with h | ⟨ad, hA, hlt, hc⟩
  · exact .inl h
  · exact .inr ⟨ad, hA, Nat.lt_of_lt_of_le hlt hb.size, fun k hk => by rw [hb.cell (by rw [addr_add_block]; exact hlt)]; exact hc k hk⟩
theorem Sl.keep {w w' : World} {A : Option Addr} {xs : List Nat} (h : Sl w A xs) (hs : w.heap.size ≤ w'.heap.size) (hk : ∀ p : Addr, p.block < w.heap.size → w'.cell? p = w.cell? p) : Sl w' A xs := by
  rcases h with h | ⟨ad, hA, hlt, hc⟩
  · exact .inl h
  · exact .inr ⟨ad, hA, Nat.lt_of_lt_of_le hlt hs, fun k hk' => by rw [hk _ (by rw [addr_add_block]; exact hlt)]; exact hc k hk'⟩
theorem Sl.drewN {w : World} {A : Option Addr} {xs : List Nat} (h : Sl w A xs) (n : Nat) : Sl (w.drewN n) A xs := h
theorem Sl.at_ {w : World} {A : Option Addr} {xs : List Nat} (h : Sl w A xs) {k : Nat} (hk : k < xs.length) : ∃ ad, A = some ad ∧ ad.block < w.heap.size ∧ w.cell? (ad.add k) = some (.float .f32 (nth xs k)) := by
  rcases h with h | ⟨ad, hA, hlt, hc⟩
  · rw [h] at hk; simp at hk
  · exact ⟨ad, hA, hlt, hc k hk⟩

theorem trod_f32s {H : Type} {enc : TypeId × Value → H} {P : Program} {w : World} {base : Nat} {spare : Nat → Bool} {held : Bool} {t e : TypeId} {fuel : Nat} {cs : List Value} {x : DataW H × List MemPlace}
    (ht : P.underlying t = some (.slice e)) (he : P.underlying e = some (.float .f32)) (hc : P.cellsOf e = 1) (hf : DataW.trod enc P w base spare held fuel t cs = some x) :
    ∃ (A : Option Addr) (c : Nat) (xs : List Nat), cs = [.slice A xs.length c] ∧ Sl w A xs ∧ xs.length ≤ c ∧ c ≤ maxLen := by
  rcases open_slice1 ht hc hf with ⟨h, _⟩ | ⟨a, n, c, m, n', V, D, Pl, h, hb, hl, hm, hmm, _, hx⟩
  · exact ⟨none, 0, [], h, .inl rfl, Nat.le_refl _, Nat.zero_le _⟩
  · have hnm : n ≤ m := by rw [hmm]; split <;> omega
    have hV : ∀ i, i < n → w.cell? (a.add i) = some (.float .f32 (bitsV (V i))) := fun i hi => by
      rw [(hx i (by omega)).1, ← (trod_f32 he (hx i (by omega)).2).1]
    refine ⟨some a, c, (List.range n).map fun i => bitsV (V i), by rw [h]; simp, ?_, by simpa using hl, hm⟩
    by_cases h0 : n = 0
    · subst h0; exact .inl rfl
    · refine .inr ⟨a, rfl, ?_, fun k hk => ?_⟩
      · have := block_lt_of_cell (hV 0 (by omega)); rwa [addr_add_block] at this
      · have hk' : k < n := by simpa using hk
        rw [hV k hk']
        simp [nth, List.getD_eq_getElem?_getD, hk']
theorem open_f32s {H : Type} {enc : TypeId × Value → H} {P : Program} {w : World} {base : Nat} {spare : Nat → Bool} {held : Bool} {r : Reach} {b0 : Nat} {t e : TypeId} {v : Value} {d : DataW H} {ps : List MemPlace}
    (ht : P.underlying t = some (.slice e)) (he : P.underlying e = some (.float .f32)) (hc : P.cellsOf e = 1) (hval : Value.okWide P w r b0 t v) (hd : DataW.Trod enc P w base spare held t v d ps) :
    ∃ (A : Option Addr) (c : Nat) (xs : List Nat), v = .slice A xs.length c ∧ Sl w A xs ∧ xs.length ≤ c ∧ c ≤ maxLen := by
  obtain ⟨A, n, c, rfl⟩ := Go.WideShapes.okWide_slice ht hval
  obtain ⟨fuel, hf⟩ := hd
  obtain ⟨A', c', xs, h, h1⟩ := trod_f32s ht he hc hf
  simp [Value.cells] at h
  obtain ⟨rfl, rfl, rfl⟩ := h
  exact ⟨A, c, xs, rfl, h1⟩
/-- A ring: a slice of float32 and an int64, by value. -/
theorem open_ring {H : Type} {enc : TypeId × Value → H} {P : Program} {w : World} {base : Nat} {spare : Nat → Bool} {held : Bool} {r : Reach} {b0 : Nat} {t e : TypeId} {f0 f1 : Field} {v : Value} {d : DataW H} {ps : List MemPlace}
    (ht : P.underlying t = some (.struct #[f0, f1])) (o0 : f0.offset = 0) (o1 : f1.offset = 1) (c0 : P.cellsOf f0.type = 1) (c1 : P.cellsOf f1.type = 1) (ct : P.cellsOf t = 2) (hs : P.underlying f0.type = some (.slice e)) (he : P.underlying e = some (.float .f32)) (hc : P.cellsOf e = 1) (hi : P.underlying f1.type = some (.int .i64))
    (hval : Value.okWide P w r b0 t v) (hd : DataW.Trod enc P w base spare held t v d ps) :
    ∃ (A : Option Addr) (c : Nat) (xs : List Nat) (n : Int), v = .agg #[.slice A xs.length c, .int .i64 n] ∧ Sl w A xs ∧ (Lit.int .i64 n).wf = true ∧ xs.length ≤ maxLen := by
  simp only [Value.okWide, ht] at hval
  obtain ⟨cs, rfl, hz, _⟩ := hval
  obtain ⟨fuel, hf⟩ := hd
  obtain ⟨y0, y1, m, _, hl, h0, h1⟩ := ChangeShapes.trod_struct2 ht hf
  rw [ct] at hz
  match cs, hz with
  | ⟨[a, b]⟩, _ =>
    rw [o0, c0] at h0
    rw [o1, c1] at h1
    have h0' : DataW.trod enc P w base spare held m f0.type [a] = some y0 := h0
    have h1' : DataW.trod enc P w base spare held m f1.type [b] = some y1 := h1
    obtain ⟨A, c, xs, e1, e2, e4, e5⟩ := trod_f32s hs he hc h0'
    obtain ⟨n, e3, _, hw⟩ := DataW.trod_int hi h1'
    cases e1; cases e3
    exact ⟨A, c, xs, n, rfl, e2, hw, Nat.le_trans e4 e5⟩
theorem made_fl (n : Nat) : madeCells #[.float .f32 0] n = fl (List.replicate n 0) := by
  unfold madeCells fl
  apply Array.ext
  · simp
  · intro i h1 h2
    simp [Nat.mod_one]
end Go.Fl
