/- Filters told the same. No condition. -/
import Derived.Test.YtdhpaglcggeknaaGreatDoorGa
import Derived.Test.YtdhpaglcggeknaaGreatDoorSu
namespace Go.Proofs.YtdhpaglcggeknaaGreatDoor
open Go.RowKit Go.Fl
theorem Sl.of_cells {w : World} {ad : Addr} {xs : List Nat} (hb : ad.block < w.heap.size) (h : ∀ k, k < xs.length → w.cell? (ad.add k) = some (.float .f32 (nth xs k))) : Sl w (some ad) xs := .inr ⟨ad, rfl, hb, h⟩
theorem filC_C {w : World} {g : Nat} {k : Int} {c0 c1 c2 s0 s1 : Nat} {t : TypeId} (h : Row w g (filC k c0 c1 c2 s0 s1).toArray t) : Sl w (some ⟨g, 1, none⟩) [c0, c1, c2] := by
  refine Sl.of_cells h.lt fun j hj => ?_
  rcases (by simp at hj; omega : j = 0 ∨ j = 1 ∨ j = 2) with rfl | rfl | rfl
  · exact h.cell 1 _ rfl
  · exact h.cell 2 _ rfl
  · exact h.cell 3 _ rfl
theorem filC_S {w : World} {g : Nat} {k : Int} {c0 c1 c2 s0 s1 : Nat} {t : TypeId} (h : Row w g (filC k c0 c1 c2 s0 s1).toArray t) : Sl w (some ⟨g, 4, none⟩) [s0, s1] := by
  refine Sl.of_cells h.lt fun j hj => ?_
  rcases (by simp at hj; omega : j = 0 ∨ j = 1) with rfl | rfl
  · exact h.cell 4 _ rfl
  · exact h.cell 5 _ rfl
def sfB (k : Int) (cs ss : List Nat) (l : Int) (ds ts : List Nat) : Bool := decide (k = l) && (sameL cs ds && sameL ss ts)
theorem sfB_ne {k l : Int} {cs ss ds ts : List Nat} (h : k ≠ l) : false = sfB k cs ss l ds ts := by unfold sfB; rw [decide_eq_false h]; rfl
theorem sfB_c {k l : Int} {cs ss ds ts : List Nat} (h : sameL cs ds = false) : false = sfB k cs ss l ds ts := by unfold sfB; rw [h]; simp
theorem sfB_cs (k : Int) {cs ss ds ts : List Nat} (h : sameL cs ds = true) : sameL ss ts = sfB k cs ss k ds ts := by unfold sfB; rw [h]; simp
theorem filC_cs (w : World) (g : Nat) (k : Int) (c0 c1 c2 s0 s1 j : Nat) (t : TypeId) (h : Row w g (filC k c0 c1 c2 s0 s1).toArray t) (hj : j < 3) : w.cell? ⟨g, 1 + j, none⟩ = some (.float .f32 (nth [c0, c1, c2] j)) := by
  rcases (by omega : j = 0 ∨ j = 1 ∨ j = 2) with rfl | rfl | rfl
  · exact h.cell 1 _ rfl
  · exact h.cell 2 _ rfl
  · exact h.cell 3 _ rfl
end Go.Proofs.YtdhpaglcggeknaaGreatDoor
