/- Contracts: arrays of integers, noise, peaks, blocks told the same. No condition. -/
import Derived.Test.YtklnoiopogodiaaC7
namespace Go.Proofs.Ytklnoiopogodiaa
open Go.RowKit Go.Fl


/-! ### Blocks told the same -/
end Go.Proofs.Ytklnoiopogodiaa
