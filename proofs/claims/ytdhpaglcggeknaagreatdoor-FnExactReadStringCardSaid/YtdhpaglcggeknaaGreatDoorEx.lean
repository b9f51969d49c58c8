/- The bodyless functions of math that the seat's code calls. No condition. -/
import Derived.Test.YtdhpaglcggeknaaGreatDoorC1
import Derived.Laws.Externs
import Derived.Test.YtdhpaglcggeknaaGreatDoorFs
namespace Go.Proofs.YtdhpaglcggeknaaGreatDoor
open Go.Fl
@[go_sem] theorem x_f32bits (b : Nat) (w : World) : (callFunc 46 #[.float .f32 b]).run Tryz.prog w = .ok (.value (.int .u32 b)) w := by
  rw [run_callFunc_extern Tryz.func46 (by kernel_rfl) (by kernel_rfl) rfl rfl]; rfl
@[go_sem] theorem x_f32from (n : Int) (w : World) : (callFunc 26 #[.int .u32 n]).run Tryz.prog w = .ok (.value (.float .f32 n.toNat)) w := by
  rw [run_callFunc_extern Tryz.func26 (by kernel_rfl) (by kernel_rfl) rfl rfl]; rfl
end Go.Proofs.YtdhpaglcggeknaaGreatDoor
