/- The laws of rings: how much they hold. No condition. -/
import Derived.Test.YtdhpaglcggeknaaGreatDoorSo
namespace Go.Proofs.YtdhpaglcggeknaaGreatDoor
open Go.RowKit Go.Fl
theorem Sl.of_blk {w : World} {g : Nat} {xs : List Nat} {t : TypeId} (h : Blk w g xs t) : Sl w (some ⟨g, 0, none⟩) xs := by
  refine .inr ⟨_, rfl, h.lt, fun k hk => ?_⟩
  have e : (⟨g, 0, none⟩ : Addr).add k = ⟨g, k, none⟩ := by
    unfold Addr.add
    by_cases h0 : k = 0
    · subst h0; simp
    · simp [h0]
  rw [e]; exact h.cell k hk
end Go.Proofs.YtdhpaglcggeknaaGreatDoor
