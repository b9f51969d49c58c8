/- The law's own helpers over rings. No condition. -/
import Derived.Test.YtldkfpaigeoppaaSm
import Derived.Test.YtldkfpaigeoppaaFe
import Derived.BigQuiet
import Derived.Deep.QuietTactic
namespace Go.Proofs.Ytldkfpaigeoppaa
open Go.RowKit Go.Fl
theorem Row.free {w : World} {g : Nat} {cs : Array Value} {t : TypeId} (h : Row w g cs t) (k : Nat) : w.frozen? ⟨g, k, none⟩ = false := Go.Joins.unfrozen_of_block h k
theorem Row.set {w : World} {g : Nat} {cs : Array Value} {t : TypeId} (h : Row w g cs t) (k : Nat) (v : Value) : Row (w.setCell ⟨g, k, none⟩ v) g (cs.setIfInBounds k v) t := by
  unfold Row
  rw [Go.Joins.block_setCell h]
theorem Row.other {w : World} {g : Nat} {cs : Array Value} {t : TypeId} (h : Row w g cs t) {b off : Nat} (ha : g ≠ b) (v : Value) : Row (w.setCell ⟨b, off, none⟩ v) g cs t := by
  unfold Row
  rw [Below.heap_setCell _ _ _ _ ha]; exact h
end Go.Proofs.Ytldkfpaigeoppaa
