/- The bodyless functions of math that the seat's code calls. No condition. -/
import Derived.Test.YtjkffooohpfbdaaC1
import Derived.Laws.Externs
import Derived.Test.YtjkffooohpfbdaaFs
namespace Go.Proofs.Ytjkffooohpfbdaa
open Go.Fl
@[go_sem] theorem x_f32bits (b : Nat) (w : World) : (callFunc 68 #[.float .f32 b]).run Try.prog w = .ok (.value (.int .u32 b)) w := by
  rw [run_callFunc_extern Try.func68 (by kernel_rfl) (by kernel_rfl) rfl rfl]; rfl
@[go_sem] theorem x_f32from (n : Int) (w : World) : (callFunc 67 #[.int .u32 n]).run Try.prog w = .ok (.value (.float .f32 n.toNat)) w := by
  rw [run_callFunc_extern Try.func67 (by kernel_rfl) (by kernel_rfl) rfl rfl]; rfl
@[go_sem] theorem x_f64bits (b : Nat) (w : World) : (callFunc 72 #[.float .f64 b]).run Try.prog w = .ok (.value (.int .u64 b)) w := by
  rw [run_callFunc_extern Try.func72 (by kernel_rfl) (by kernel_rfl) rfl rfl]; rfl
@[go_sem] theorem x_f64from (n : Int) (w : World) : (callFunc 71 #[.int .u64 n]).run Try.prog w = .ok (.value (.float .f64 n.toNat)) w := by
  rw [run_callFunc_extern Try.func71 (by kernel_rfl) (by kernel_rfl) rfl rfl]; rfl
@[go_sem] theorem x_round (x : Nat) (w : World) : (callFunc 59 #[.float .f64 x]).run Try.prog w = .ok (.value (.float .f64 (ival .even x w))) (w.drewN (icnt x)) := by
  rw [run_callFunc_extern (e := Extern.MathFloor.toIntegral "math.RoundToEven" .even) Try.func59 (by kernel_rfl) (by kernel_rfl) rfl rfl, run_integral]; rfl
end Go.Proofs.Ytjkffooohpfbdaa
