/- The bodyless functions of math that the seat's code calls. No condition. -/
import Derived.Test.YtldkfpaigeoppaaC1
import Derived.Laws.Externs
import Derived.Test.YtldkfpaigeoppaaFs
namespace Go.Proofs.Ytldkfpaigeoppaa
open Go.Fl
@[go_sem] theorem x_f32bits (b : Nat) (w : World) : (callFunc 43 #[.float .f32 b]).run Try.prog w = .ok (.value (.int .u32 b)) w := by
  rw [run_callFunc_extern Try.func43 (by kernel_rfl) (by kernel_rfl) rfl rfl]; rfl
end Go.Proofs.Ytldkfpaigeoppaa
