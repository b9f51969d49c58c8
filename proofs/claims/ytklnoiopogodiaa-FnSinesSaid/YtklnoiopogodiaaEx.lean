/- The bodyless functions of math that the seat's code calls. No condition. -/
import Derived.Test.YtklnoiopogodiaaC1
import Derived.Laws.Externs
import Derived.Test.YtklnoiopogodiaaFs
namespace Go.Proofs.Ytklnoiopogodiaa
open Go.Fl
@[go_sem] theorem x_f32bits (b : Nat) (w : World) : (callFunc 50 #[.float .f32 b]).run Try.prog w = .ok (.value (.int .u32 b)) w := by
  rw [run_callFunc_extern Try.func50 (by kernel_rfl) (by kernel_rfl) rfl rfl]; rfl
@[go_sem] theorem x_f64bits (b : Nat) (w : World) : (callFunc 61 #[.float .f64 b]).run Try.prog w = .ok (.value (.int .u64 b)) w := by
  rw [run_callFunc_extern Try.func61 (by kernel_rfl) (by kernel_rfl) rfl rfl]; rfl
@[go_sem] theorem x_f64from (n : Int) (w : World) : (callFunc 47 #[.int .u64 n]).run Try.prog w = .ok (.value (.float .f64 n.toNat)) w := by
  rw [run_callFunc_extern Try.func47 (by kernel_rfl) (by kernel_rfl) rfl rfl]; rfl
@[go_sem] theorem x_floor (x : Nat) (w : World) : (callFunc 48 #[.float .f64 x]).run Try.prog w = .ok (.value (.float .f64 (ival .down x w))) (w.drewN (icnt x)) := by
  rw [run_callFunc_extern (e := Extern.MathFloor.toIntegral "math.archFloor" .down) Try.func48 (by kernel_rfl) (by kernel_rfl) rfl rfl, run_integral]; rfl
end Go.Proofs.Ytklnoiopogodiaa
