/- Marks of rings. No condition. -/
import Derived.Test.YtldkfpaigeoppaaSx
namespace Go.Proofs.Ytldkfpaigeoppaa
open Go.RowKit Go.Fl
end Go.Proofs.Ytldkfpaigeoppaa
