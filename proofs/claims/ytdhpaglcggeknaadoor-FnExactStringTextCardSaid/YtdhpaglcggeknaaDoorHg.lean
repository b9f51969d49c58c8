/- The types of strings, rings and filters as readers want them. No condition. -/
import Derived.Test.YtdhpaglcggeknaaDoorHe
namespace Go.Proofs.YtdhpaglcggeknaaDoor
open Go.RowKit Go.Fl
theorem ringT : RingT Tryd.prog 38 := ⟨⟨_, _, _, Tryd.underlying38, rfl, rfl, by kernel_rfl, by kernel_rfl, Tryd.underlying36, Tryd.underlying22, by kernel_rfl, Tryd.underlying2⟩, by kernel_rfl⟩
theorem filT : FilT Tryd.prog 31 := ⟨⟨_, _, _, _, _, Tryd.underlying31, rfl, rfl, rfl, by kernel_rfl, by kernel_rfl, by kernel_rfl, Tryd.underlying2, Tryd.underlying28, Tryd.underlying29, Tryd.underlying22, Tryd.underlying22, by kernel_rfl, by kernel_rfl⟩, by kernel_rfl⟩
theorem strT : StrT Tryd.prog 40 := ⟨⟨_, _, _, _, Tryd.underlying40, rfl, rfl, rfl, rfl, ringT, filT, filT, Tryd.underlying22, by kernel_rfl⟩, by kernel_rfl⟩
end Go.Proofs.YtdhpaglcggeknaaDoor
