/- Sines at the places of a table: numbers. Plain arithmetic, no program. Written by gensines.py. No condition. -/
import Derived.Test.YtklnoiopogodiaaJf
namespace Go.Fl
open Ieee
theorem sn_a : (List.range 256).all snAllA = true := by decide +kernel
end Go.Fl
