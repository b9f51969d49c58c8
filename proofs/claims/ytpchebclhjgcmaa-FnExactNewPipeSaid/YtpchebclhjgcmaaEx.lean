/- The bodyless functions of math that the seat's code calls. No condition. -/
import Derived.Test.YtpchebclhjgcmaaC1
import Derived.Laws.Externs
import Derived.Test.YtpchebclhjgcmaaFs
namespace Go.Proofs.Ytpchebclhjgcmaa
open Go.Fl
@[go_sem] theorem x_f32bits (b : Nat) (w : World) : (callFunc 86 #[.float .f32 b]).run Try.prog w = .ok (.value (.int .u32 b)) w := by
  rw [run_callFunc_extern Try.func86 (by kernel_rfl) (by kernel_rfl) rfl rfl]; rfl
@[go_sem] theorem x_f64bits (b : Nat) (w : World) : (callFunc 112 #[.float .f64 b]).run Try.prog w = .ok (.value (.int .u64 b)) w := by
  rw [run_callFunc_extern Try.func112 (by kernel_rfl) (by kernel_rfl) rfl rfl]; rfl
@[go_sem] theorem x_f64from (n : Int) (w : World) : (callFunc 111 #[.int .u64 n]).run Try.prog w = .ok (.value (.float .f64 n.toNat)) w := by
  rw [run_callFunc_extern Try.func111 (by kernel_rfl) (by kernel_rfl) rfl rfl]; rfl
@[go_sem] theorem x_floor (x : Nat) (w : World) : (callFunc 97 #[.float .f64 x]).run Try.prog w = .ok (.value (.float .f64 (ival .down x w))) (w.drewN (icnt x)) := by
  rw [run_callFunc_extern (e := Extern.MathFloor.toIntegral "math.archFloor" .down) Try.func97 (by kernel_rfl) (by kernel_rfl) rfl rfl, run_integral]; rfl
end Go.Proofs.Ytpchebclhjgcmaa
