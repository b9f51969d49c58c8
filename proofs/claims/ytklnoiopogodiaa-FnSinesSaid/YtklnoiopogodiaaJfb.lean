/- Sines at the places of a table: numbers. Plain arithmetic, no program. Written by gensines.py. No condition. -/
import Derived.Test.YtklnoiopogodiaaJf
namespace Go.Fl
open Ieee
theorem sn_b : (List.range 256).all snAllB = true := by decide +kernel
theorem sn_256 : snAt (snX 256) 0 = true := by decide +kernel
end Go.Fl
