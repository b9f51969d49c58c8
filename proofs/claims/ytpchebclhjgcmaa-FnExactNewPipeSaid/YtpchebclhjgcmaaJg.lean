/- Slices of bytes: an argument opened; the digits that a law draws from them. No condition. -/
import Derived.Test.YtpchebclhjgcmaaC1
import Derived.Test.YtpchebclhjgcmaaSl
namespace Go.Fl
open Go.RowKit Go.Deep
/-- A slice at A of n bytes, f tells them. -/
def Sb (w : World) (A : Option Addr) (n : Nat) (f : Nat → Int) : Prop := n = 0 ∨ ∃ ad, A = some ad ∧ ad.block < w.heap.size ∧ ∀ k, k < n → w.cell? (ad.add k) = some (.int .u8 (f k)) ∧ 0 ≤ f k ∧ f k ≤ 255
theorem Sb.below {w w' : World} {A : Option Addr} {n : Nat} {f : Nat → Int} (h : Sb w A n f) (hb : Below w.heap.size w w') : Sb w' A n f := by
  rcases h with h | ⟨ad, hA, hlt, hc⟩
  · exact .inl h
  · exact .inr ⟨ad, hA, Nat.lt_of_lt_of_le hlt hb.size, fun k hk => by rw [hb.cell (by rw [addr_add_block]; exact hlt)]; exact hc k hk⟩
theorem Sb.at_ {w : World} {A : Option Addr} {n : Nat} {f : Nat → Int} (h : Sb w A n f) {k : Nat} (hk : k < n) : ∃ ad, A = some ad ∧ ad.block < w.heap.size ∧ w.cell? (ad.add k) = some (.int .u8 (f k)) ∧ 0 ≤ f k ∧ f k ≤ 255 := by
  rcases h with h | ⟨ad, hA, hlt, hc⟩
  · omega
  · exact ⟨ad, hA, hlt, hc k hk⟩
def intV : Value → Int
  | .int _ n => n
  | _ => 0
theorem open_bytes {H : Type} {enc : TypeId × Value → H} {P : Program} {w : World} {base : Nat} {spare : Nat → Bool} {held : Bool} {r : Reach} {b0 : Nat} {t e : TypeId} {v : Value} {d : DataW H} {ps : List MemPlace}
    (ht : P.underlying t = some (.slice e)) (he : P.underlying e = some (.int .u8)) (hc : P.cellsOf e = 1) (hval : Value.okWide P w r b0 t v) (hd : DataW.Trod enc P w base spare held t v d ps) :
    ∃ (A : Option Addr) (c n : Nat) (f : Nat → Int), v = .slice A n c ∧ Sb w A n f ∧ n ≤ c ∧ c ≤ maxLen := by
  obtain ⟨A, n, c, rfl⟩ := Go.WideShapes.okWide_slice ht hval
  obtain ⟨fuel, hf⟩ := hd
  rcases open_slice1 ht hc hf with ⟨h, _⟩ | ⟨a, n', c', m, n'', V, D, Pl, h, hb, hl, hm, hmm, _, hx⟩
  · simp [Value.cells] at h
    obtain ⟨rfl, rfl, rfl⟩ := h
    exact ⟨none, 0, 0, fun _ => 0, rfl, .inl rfl, Nat.le_refl _, Nat.zero_le _⟩
  · simp [Value.cells] at h
    obtain ⟨rfl, rfl, rfl⟩ := h
    have hnm : n ≤ m := by rw [hmm]; split <;> omega
    have hV : ∀ i, i < n → w.cell? (a.add i) = some (.int .u8 (intV (V i))) ∧ 0 ≤ intV (V i) ∧ intV (V i) ≤ 255 := fun i hi => by
      obtain ⟨h1, h2⟩ := hx i (by omega)
      obtain ⟨z, e3, _, hw⟩ := DataW.trod_int he h2
      have e4 : V i = .int .u8 z := by simpa using e3
      rw [e4] at h1
      refine ⟨by rw [e4]; exact h1, ?_⟩
      rw [e4]
      have := hw
      simp [Lit.wf, IntKind.min, IntKind.max, IntKind.signed, IntKind.bits] at this
      exact this
    refine ⟨some a, c, n, fun i => intV (V i), rfl, ?_, hl, hm⟩
    by_cases h0 : n = 0
    · exact .inl h0
    · refine .inr ⟨a, rfl, ?_, hV⟩
      have := block_lt_of_cell (hV 0 (by omega)).1
      rwa [addr_add_block] at this
end Go.Fl
namespace Go.Proofs.Ytpchebclhjgcmaa
open Go.RowKit Go.Fl
end Go.Proofs.Ytpchebclhjgcmaa
