/- The bodyless functions of math that the seat's code calls. No condition. -/
import Derived.Test.YtdhpaglcggeknaaDoorC1
import Derived.Laws.Externs
import Derived.Test.YtdhpaglcggeknaaDoorFs
namespace Go.Proofs.YtdhpaglcggeknaaDoor
open Go.Fl
@[go_sem] theorem x_f32bits (b : Nat) (w : World) : (callFunc 80 #[.float .f32 b]).run Tryd.prog w = .ok (.value (.int .u32 b)) w := by
  rw [run_callFunc_extern Tryd.func80 (by kernel_rfl) (by kernel_rfl) rfl rfl]; rfl
@[go_sem] theorem x_f32from (n : Int) (w : World) : (callFunc 73 #[.int .u32 n]).run Tryd.prog w = .ok (.value (.float .f32 n.toNat)) w := by
  rw [run_callFunc_extern Tryd.func73 (by kernel_rfl) (by kernel_rfl) rfl rfl]; rfl
end Go.Proofs.YtdhpaglcggeknaaDoor
