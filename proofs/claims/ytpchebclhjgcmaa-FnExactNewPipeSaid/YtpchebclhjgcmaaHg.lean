/- The types of strings, rings and filters as readers want them. No condition. -/
import Derived.Test.YtpchebclhjgcmaaHe
namespace Go.Proofs.Ytpchebclhjgcmaa
open Go.RowKit Go.Fl
theorem ringT : RingT Try.prog 24 := ⟨⟨_, _, _, Try.underlying24, rfl, rfl, by kernel_rfl, by kernel_rfl, Try.underlying22, Try.underlying25, by kernel_rfl, Try.underlying2⟩, by kernel_rfl⟩
theorem filT : FilT Try.prog 29 := ⟨⟨_, _, _, _, _, Try.underlying29, rfl, rfl, rfl, by kernel_rfl, by kernel_rfl, by kernel_rfl, Try.underlying2, Try.underlying26, Try.underlying27, Try.underlying25, Try.underlying25, by kernel_rfl, by kernel_rfl⟩, by kernel_rfl⟩
theorem strT : StrT Try.prog 31 := ⟨⟨_, _, _, _, Try.underlying31, rfl, rfl, rfl, rfl, ringT, filT, filT, Try.underlying25, by kernel_rfl⟩, by kernel_rfl⟩
end Go.Proofs.Ytpchebclhjgcmaa
