/- Marks of rings. No condition. -/
import Derived.Test.YtdhpaglcggeknaaDoorSx
namespace Go.Proofs.YtdhpaglcggeknaaDoor
open Go.RowKit Go.Fl
end Go.Proofs.YtdhpaglcggeknaaDoor
