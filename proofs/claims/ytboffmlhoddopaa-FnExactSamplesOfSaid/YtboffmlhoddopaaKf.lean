/- A slice of blocks as an argument. No condition. -/
import Derived.Test.YtboffmlhoddopaaKe
import Derived.Test.YtboffmlhoddopaaGa
namespace Go.Fl
open Go.RowKit Go.Deep
def f32At (w : World) (a : Addr) : Nat := match w.cell? a with
  | some (.float .f32 b) => b
  | _ => 0
theorem open_blocks {H : Type} {enc : TypeId × Value → H} {P : Program} {w : World} {base : Nat} {spare : Nat → Bool} {held : Bool} {r : Reach} {b0 : Nat} {t e u : TypeId} {v : Value} {d : DataW H} {ps : List MemPlace}
    (ht : P.underlying t = some (.slice e)) (he : P.underlying e = some (.array 16 u)) (hu : P.underlying u = some (.float .f32)) (hc : P.cellsOf e = 16) (hc1 : P.cellsOf u = 1) (hval : Value.okWide P w r b0 t v) (hd : DataW.Trod enc P w base spare held t v d ps) :
    ∃ (A : Option Addr) (c n : Nat) (xs : List Nat), v = .slice A n c ∧ Sl w A xs ∧ xs.length = 16 * n ∧ n ≤ c ∧ c ≤ maxLen := by
  obtain ⟨A, n, c, rfl⟩ := Go.WideShapes.okWide_slice ht hval
  obtain ⟨fuel, hf⟩ := hd
  rcases open_slice ht hf with ⟨h, _⟩ | ⟨a, n', c', m, n'', D, Pl, h, hb, hl, hm, hmm, _, hx⟩
  · simp [Value.cells] at h
    obtain ⟨rfl, rfl, rfl⟩ := h
    exact ⟨none, 0, 0, [], rfl, .inl rfl, rfl, Nat.le_refl _, Nat.zero_le _⟩
  · simp [Value.cells] at h
    obtain ⟨rfl, rfl, rfl⟩ := h
    have hnm : n ≤ m := by rw [hmm]; split <;> omega
    have hV : ∀ q, q < 16 * n → w.cell? (a.add q) = some (.float .f32 (f32At w (a.add q))) := fun q hq => by
      obtain ⟨cs', h1, h2⟩ := hx (q / 16) (by omega)
      rw [hc] at h1
      obtain ⟨_, hlen, hcell⟩ := World.cells?_some h1
      obtain ⟨l, rfl, hl2⟩ := trod_farr he hu hc1 hc h2
      have h3 := hcell (q % 16) (by omega)
      rw [addr_add_add, show q / 16 * 16 + q % 16 = q from by omega] at h3
      have h4 : w.cell? (a.add q) = some (.float .f32 (nth l (q % 16))) := by
        rw [h3]
        first | exact fll_get l _ (by omega) | (have := fll_get l (q % 16) (by omega); simpa using this)
      unfold f32At
      rw [h4]
    refine ⟨some a, c, n, (List.range (16 * n)).map fun q => f32At w (a.add q), rfl, ?_, by simp, hl, hm⟩
    by_cases h0 : n = 0
    · subst h0; exact .inl rfl
    · refine .inr ⟨a, rfl, ?_, fun k hk => ?_⟩
      · have := block_lt_of_cell (hV 0 (by omega))
        rwa [addr_add_block] at this
      · have hk' : k < 16 * n := by simpa using hk
        rw [hV k hk']
        simp [nth, List.getD_eq_getElem?_getD, hk']
end Go.Fl
