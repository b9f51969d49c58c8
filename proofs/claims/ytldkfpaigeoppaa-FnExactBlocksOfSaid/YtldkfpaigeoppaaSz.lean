/- Rings made and marked: the same with the length apart. No condition. -/
import Derived.Test.YtldkfpaigeoppaaSy
namespace Go.Proofs.Ytldkfpaigeoppaa
open Go.RowKit Go.Fl
theorem row_keepBut {w w' : World} {g x : Nat} {cs : Array Value} {t : TypeId} (h : Row w g cs t) (hk : ∀ b, b < w.heap.size → b ≠ x → w'.heap[b]? = w.heap[b]?) (hne : g ≠ x) : Row w' g cs t := by
  have hl := h.lt
  unfold Row at *
  rw [hk g hl hne]; exact h
theorem blk_keepBut {w w' : World} {g x : Nat} {xs : List Nat} {t : TypeId} (h : Blk w g xs t) (hk : ∀ b, b < w.heap.size → b ≠ x → w'.heap[b]? = w.heap[b]?) (hne : g ≠ x) : Blk w' g xs t := by
  have hl := h.lt
  unfold Blk at *
  rw [hk g hl hne]; exact h
end Go.Proofs.Ytldkfpaigeoppaa
