/- Contracts: arrays of integers, noise, peaks, blocks told the same. No condition. -/
import Derived.Test.YtboffmlhoddopaaC7
namespace Go.Proofs.Ytboffmlhoddopaa
open Go.RowKit Go.Fl


/-! ### Blocks told the same -/
end Go.Proofs.Ytboffmlhoddopaa
