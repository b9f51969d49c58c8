/- The bodyless functions of math that the seat's code calls. No condition. -/
import Derived.Test.YtbjaihboagompaaC1
import Derived.Laws.Externs
namespace Go.Proofs.Ytbjaihboagompaa
open Go.Fl
@[go_sem] theorem x_f32bits (b : Nat) (w : World) : (callFunc 53 #[.float .f32 b]).run Try.prog w = .ok (.value (.int .u32 b)) w := by
  rw [run_callFunc_extern Try.func53 (by kernel_rfl) (by kernel_rfl) rfl rfl]; rfl
@[go_sem] theorem x_f32from (n : Int) (w : World) : (callFunc 55 #[.int .u32 n]).run Try.prog w = .ok (.value (.float .f32 n.toNat)) w := by
  rw [run_callFunc_extern Try.func55 (by kernel_rfl) (by kernel_rfl) rfl rfl]; rfl
@[go_sem] theorem x_f64bits (b : Nat) (w : World) : (callFunc 58 #[.float .f64 b]).run Try.prog w = .ok (.value (.int .u64 b)) w := by
  rw [run_callFunc_extern Try.func58 (by kernel_rfl) (by kernel_rfl) rfl rfl]; rfl
@[go_sem] theorem x_f64from (n : Int) (w : World) : (callFunc 57 #[.int .u64 n]).run Try.prog w = .ok (.value (.float .f64 n.toNat)) w := by
  rw [run_callFunc_extern Try.func57 (by kernel_rfl) (by kernel_rfl) rfl rfl]; rfl
end Go.Proofs.Ytbjaihboagompaa
