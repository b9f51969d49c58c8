/- Contracts: arrays of integers, noise, peaks, blocks told the same. No condition. -/
import Derived.Test.YtdhpaglcggeknaaDoorC7
namespace Go.Proofs.YtdhpaglcggeknaaDoor
open Go.RowKit Go.Fl


/-! ### Blocks told the same -/
end Go.Proofs.YtdhpaglcggeknaaDoor
