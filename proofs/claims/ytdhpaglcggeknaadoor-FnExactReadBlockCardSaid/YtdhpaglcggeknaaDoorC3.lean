/- Contracts: silence, sums of products, absolute values. No condition. -/
import Derived.Test.YtdhpaglcggeknaaDoorC2
namespace Go.Proofs.YtdhpaglcggeknaaDoor
open Go.RowKit Go.Fl
theorem info_f32 : (Tryd.prog.info? 22).map (·.size) = some 1 := by kernel_rfl

theorem ret_bool {a b : Bool} (h : a = b) : Ending.returned (.bool a) = .returned (.bool b) := by rw [h]


end Go.Proofs.YtdhpaglcggeknaaDoor
