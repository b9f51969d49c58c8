/- Append of a list of samples; slices.Concat of two. No condition. -/
import Derived.Test.YtdhpaglcggeknaaGreatDoorTb
namespace Go.Fl
open Go.RowKit
section
variable {P : Program} {w : World}
theorem wp_append_sl {o : Oper} {a : Act} {K : Act → World → Prop} {Q : Exit → Act → World → Prop} (s x : Operand) (t : TypeId)
    (ho : o.op = .call { callee := .builtin .append, args := #[s, x], argTypes := #[t, t] }) (base : Nat) (e : TypeId) (ht : P.underlying t = some (.slice e)) (hinfo : (P.info? e).map (fun i => (i.zero, i.size, i.bytes)) = some (some (.float .f32 0), 1, 4))
    {A : Option Addr} {c : Nat} {xs : List Nat} (hs : a.eval s = .slice A xs.length c) (hown : Own w base A c xs e) {ad : Addr} {d : Nat} {ys : List Nat} (hx : a.eval x = .slice (some ad) ys.length d) (hsl : Sl w (some ad) ys)
    (h63 : xs.length + ys.length ≤ 16777216) (hbase : base ≤ w.heap.size)
    (h : ∀ A' c' w', Own w' base A' c' (xs ++ ys) e → w.grownBy w' (ownBlk A) → (A' = none ↔ A = none ∧ ys = []) → K (a.put o.dst (.slice A' (xs.length + ys.length) c')) w') : o.wp P a w K Q := by
  obtain ⟨i0, hi, hz0, hz1, hz2⟩ := info_parts hinfo
  refine wp_append_own w s x t ho base e i0 (.float .f32 0) 1 4 ht hi hz0 hz1 hz2 rfl (by decide) _ _ _ hs hown.row ad ys.length d (fll ys) hx (by rw [fll_length]; omega) hsl.news (fll_one ys) (by unfold maxLen; omega) (by omega) hbase ?_
  intro v' w' h1 h2 h3
  rw [← fll_append] at h1
  obtain ⟨A', c', rfl, h4⟩ := Own.of_row h1
  rw [own_block hown] at h2
  have h5 := h A' c' w' h4 h2 ?_
  · rw [List.length_append]; exact h5
  · constructor
    · rintro rfl
      rcases h4.2 with ⟨_, h6, rfl⟩ | ⟨g, r, h6, _⟩
      · have h7 := h3.1 (by rw [h6]; rfl)
        injection h7.1 with e1
        exact ⟨e1, List.eq_nil_of_length_eq_zero h7.2⟩
      · cases h6
    · rintro ⟨rfl, rfl⟩
      rcases hown.2 with ⟨_, rfl, rfl⟩ | ⟨g, r, h6, _⟩
      · have h7 := h3.2 ⟨rfl, rfl⟩
        cases h7; rfl
      · cases h6
theorem wpList_append_sl {ops : Array Oper} {rest : List Oper} {o : Oper} {a : Act} {Q : Exit → Act → World → Prop} (hgd : o.guard = none) (s x : Operand) (t : TypeId)
    (ho : o.op = .call { callee := .builtin .append, args := #[s, x], argTypes := #[t, t] }) (base : Nat) (e : TypeId) (ht : P.underlying t = some (.slice e)) (hinfo : (P.info? e).map (fun i => (i.zero, i.size, i.bytes)) = some (some (.float .f32 0), 1, 4))
    {A : Option Addr} {c : Nat} {xs : List Nat} (hs : a.eval s = .slice A xs.length c) (hown : Own w base A c xs e) {ad : Addr} {d : Nat} {ys : List Nat} (hx : a.eval x = .slice (some ad) ys.length d) (hsl : Sl w (some ad) ys)
    (h63 : xs.length + ys.length ≤ 16777216) (hbase : base ≤ w.heap.size)
    (h : ∀ A' c' w', Own w' base A' c' (xs ++ ys) e → w.grownBy w' (ownBlk A) → (A' = none ↔ A = none ∧ ys = []) → wpList P ops Q rest (a.put o.dst (.slice A' (xs.length + ys.length) c')) w') : wpList P ops Q (o :: rest) a w :=
  wpList_plain hgd fun _ hK => wp_append_sl s x t ho base e ht hinfo hs hown hx hsl h63 hbase fun A' c' w' h2 h3 h4 => hK _ _ (h A' c' w' h2 h3 h4)
end
end Go.Fl
namespace Go.Proofs.YtdhpaglcggeknaaGreatDoor
open Go.RowKit Go.Fl
def CatA (n1 n2 : Nat) (s i : Value) : Prop := i = .int .i64 0 ∧ s = .int .i64 0 ∨ i = .int .i64 1 ∧ s = .int .i64 n1 ∨ i = .int .i64 2 ∧ s = .int .i64 (n1 + n2)
def CatB (w : World) (xs ys : List Nat) (v i : Value) (wr : World) : Prop := Below w.heap.size w wr ∧ ∃ A c, (i = .int .i64 0 ∧ v = .slice A 0 c ∧ Own wr w.heap.size A c [] 25 ∨ i = .int .i64 1 ∧ v = .slice A xs.length c ∧ Own wr w.heap.size A c xs 25 ∨ i = .int .i64 2 ∧ v = .slice A (xs.length + ys.length) c ∧ Own wr w.heap.size A c (xs ++ ys) 25)
end Go.Proofs.YtdhpaglcggeknaaGreatDoor
