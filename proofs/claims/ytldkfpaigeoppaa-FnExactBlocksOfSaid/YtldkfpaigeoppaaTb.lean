/- Own rings marked; slices.Grow of nothing, slices.Concat of two. No condition. -/
import Derived.Test.YtldkfpaigeoppaaTa
import Derived.Lib.AppendZerosOnto
namespace Go.Proofs.Ytldkfpaigeoppaa
open Go.RowKit Go.Fl
end Go.Proofs.Ytldkfpaigeoppaa
