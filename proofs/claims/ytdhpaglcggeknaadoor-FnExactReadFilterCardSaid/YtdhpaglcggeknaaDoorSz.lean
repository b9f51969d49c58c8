/- Rings made and marked: the same with the length apart. No condition. -/
import Derived.Test.YtdhpaglcggeknaaDoorSy
namespace Go.Proofs.YtdhpaglcggeknaaDoor
open Go.RowKit Go.Fl
theorem row_keepBut {w w' : World} {g x : Nat} {cs : Array Value} {t : TypeId} (h : Row w g cs t) (hk : ∀ b, b < w.heap.size → b ≠ x → w'.heap[b]? = w.heap[b]?) (hne : g ≠ x) : Row w' g cs t := by
  have hl := h.lt
  unfold Row at *
  rw [hk g hl hne]; exact h
theorem blk_keepBut {w w' : World} {g x : Nat} {xs : List Nat} {t : TypeId} (h : Blk w g xs t) (hk : ∀ b, b < w.heap.size → b ≠ x → w'.heap[b]? = w.heap[b]?) (hne : g ≠ x) : Blk w' g xs t := by
  have hl := h.lt
  unfold Blk at *
  rw [hk g hl hne]; exact h
theorem c_eqRing_n (A B : Option Addr) (c d n : Nat) (xs ys : List Nat) (at0 : Int) (w : World) (hs : Sl w A xs) (ht : Sl w B ys) (hx : xs.length = n) (hy : ys.length = n) (hl2 : (n : Int) ≤ 4294967296) (h : ∀ j, j < n → cv .f32 (nth xs j) = cv .f32 (nth ys j)) :
    Calls Tryd.prog 41 #[.agg #[.slice A n c, .int .i64 at0], .agg #[.slice B n d, .int .i64 at0]] w fun e w' => e = .returned (.bool true) ∧ Below w.heap.size w w' := by
  have h1 := c_eqRing A B c d xs ys at0 w hs ht (hx.trans hy.symm) (by omega) (by rw [hx]; exact h)
  rw [hx, hy] at h1; exact h1
end Go.Proofs.YtdhpaglcggeknaaDoor
