/- Own rings marked; slices.Grow of nothing, slices.Concat of two. No condition. -/
import Derived.Test.YtdhpaglcggeknaaDoorTa
import Derived.Lib.AppendZerosOnto
namespace Go.Proofs.YtdhpaglcggeknaaDoor
open Go.RowKit Go.Fl
end Go.Proofs.YtdhpaglcggeknaaDoor
