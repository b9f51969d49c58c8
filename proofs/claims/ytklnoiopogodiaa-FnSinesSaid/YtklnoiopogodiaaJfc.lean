/- Sines at the places of a table: numbers. Plain arithmetic, no program. Written by gensines.py. No condition. -/
import Derived.Test.YtklnoiopogodiaaJf
namespace Go.Fl
open Ieee
theorem sn_c : (List.range 256).all (fun m => snH (snU m) == some (snV m)) = true := by decide +kernel
end Go.Fl
