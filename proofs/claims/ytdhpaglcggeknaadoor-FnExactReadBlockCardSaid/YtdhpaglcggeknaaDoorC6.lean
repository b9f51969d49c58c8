/- Contracts: the block functions of the program (by 'made') and of the reference (in place). Written by genblk.py. No condition. -/
import Derived.Test.YtdhpaglcggeknaaDoorC5
import Derived.Test.YtdhpaglcggeknaaDoorAi
import Derived.Test.YtdhpaglcggeknaaDoorC3
namespace Go.Proofs.YtdhpaglcggeknaaDoor
open Go.RowKit Go.Fl
theorem below_allocs1 (w : World) (a : Obj) : Below w.heap.size w (w.alloc a) := Go.Joins.below_alloc1 _ _
theorem below_allocs2 (w : World) (a b : Obj) : Below w.heap.size w ((w.alloc a).alloc b) := Go.Joins.below_alloc2 _ _ _
theorem below_allocs3 (w : World) (a b c : Obj) : Below w.heap.size w (((w.alloc a).alloc b).alloc c) := Go.Joins.below_alloc3 _ _ _ _
theorem below_allocs4 (w : World) (a b c d : Obj) : Below w.heap.size w ((((w.alloc a).alloc b).alloc c).alloc d) := (below_allocs3 w a b c).alloc (by simp; omega) d
theorem ret_i16 {a b : Int} (h : a = b) : Ending.returned (.int .i16 a) = .returned (.int .i16 b) := by rw [h]


end Go.Proofs.YtdhpaglcggeknaaDoor
