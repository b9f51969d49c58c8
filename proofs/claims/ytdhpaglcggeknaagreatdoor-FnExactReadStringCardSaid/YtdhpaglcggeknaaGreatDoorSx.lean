/- New rings. No condition. -/
import Derived.Test.YtdhpaglcggeknaaGreatDoorSw
namespace Go.Proofs.YtdhpaglcggeknaaGreatDoor
open Go.RowKit Go.Fl
theorem inB_true' {a b c : Int} (h : inB a b c = true) : b ≤ a ∧ a ≤ c := by simpa [inB] using h
end Go.Proofs.YtdhpaglcggeknaaGreatDoor
