/- Sines at the places of a table: numbers. Plain arithmetic, no program. Written by gensines.py. No condition. -/
import Derived.Test.YtklnoiopogodiaaJf
namespace Go.Fl
open Ieee
theorem sn_d : (List.range 256).all snAllD = true := by decide +kernel
theorem sn_e : (List.range 256).all snAllE = true := by decide +kernel
end Go.Fl
