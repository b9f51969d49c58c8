/- Rings made and marked: the same with the length apart. No condition. -/
import Derived.Test.YtdhpaglcggeknaaGreatDoorSy
namespace Go.Proofs.YtdhpaglcggeknaaGreatDoor
open Go.RowKit Go.Fl
theorem row_keepBut {w w' : World} {g x : Nat} {cs : Array Value} {t : TypeId} (h : Row w g cs t) (hk : ∀ b, b < w.heap.size → b ≠ x → w'.heap[b]? = w.heap[b]?) (hne : g ≠ x) : Row w' g cs t := by
  have hl := h.lt
  unfold Row at *
  rw [hk g hl hne]; exact h
theorem blk_keepBut {w w' : World} {g x : Nat} {xs : List Nat} {t : TypeId} (h : Blk w g xs t) (hk : ∀ b, b < w.heap.size → b ≠ x → w'.heap[b]? = w.heap[b]?) (hne : g ≠ x) : Blk w' g xs t := by
  have hl := h.lt
  unfold Blk at *
  rw [hk g hl hne]; exact h
theorem c_eqRing_n (A B : Option Addr) (c d n : Nat) (xs ys : List Nat) (at0 : Int) (w : World) (hs : Sl w A xs) (ht : Sl w B ys) (hx : xs.length = n) (hy : ys.length = n) (hl2 : (n : Int) ≤ 4294967296) (h : ∀ j, j < n → cv .f32 (nth xs j) = cv .f32 (nth ys j)) :
    Calls Tryz.prog 21 #[.agg #[.slice A n c, .int .i64 at0], .agg #[.slice B n d, .int .i64 at0]] w fun e w' => e = .returned (.bool true) ∧ Below w.heap.size w w' := by
  have h1 := c_eqRing A B c d xs ys at0 w hs ht (hx.trans hy.symm) (by omega) (by rw [hx]; exact h)
  rw [hx, hy] at h1; exact h1
theorem c_markRing_n (g c n : Nat) (xs : List Nat) (at0 m : Int) (w : World) (hg : Blk w g xs 25) (hx : xs.length = n) (hl : (n : Int) ≤ 4294967296) (h0 : 0 ≤ m) (h1 : m ≤ 4294967296) :
    Calls Tryz.prog 24 #[.agg #[.slice (some ⟨g, 0, none⟩) n c, .int .i64 at0], .int .i64 m] w fun e w' => e = .returned (.int .i64 (m + n)) ∧ Blk w' g (markL n m) 25 ∧ Below g w w' ∧ (∀ b, b < w.heap.size → b ≠ g → w'.heap[b]? = w.heap[b]?) := by
  subst hx; exact c_markRing _ _ _ _ _ _ hg hl h0 h1
end Go.Proofs.YtdhpaglcggeknaaGreatDoor
