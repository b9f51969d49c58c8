/- Rows of blocks of one's own: kept; BlocksOf's two contracts. No condition. -/
import Derived.Test.YtldkfpaigeoppaaKl
import Derived.Test.YtldkfpaigeoppaaSm
import Derived.Test.YtldkfpaigeoppaaSw
namespace Go.Proofs.Ytldkfpaigeoppaa
open Go.RowKit Go.Fl
theorem BO.lt {w : World} {base : Nat} {A : Option Addr} {n : Nat} {xs : List Nat} (h : BO w base A n xs) (h0 : n ≠ 0) : ∀ k, ownBlk A = some k → k < w.heap.size := by
  intro k hk
  rcases h.2 with h1 | ⟨g, r, rfl, _, hp⟩
  · exact absurd h1 h0
  · simp [ownBlk] at hk; subst hk; exact hp.lt
theorem BO.ge {w : World} {base : Nat} {A : Option Addr} {n : Nat} {xs : List Nat} (h : BO w base A n xs) (h0 : n ≠ 0) : ∀ k, ownBlk A = some k → base ≤ k := by
  intro k hk
  rcases h.2 with h1 | ⟨g, r, rfl, hg, hp⟩
  · exact absurd h1 h0
  · simp [ownBlk] at hk; subst hk; exact hg
theorem BO.same {w w' : World} {base : Nat} {A : Option Addr} {n : Nat} {xs : List Nat} (h : BO w base A n xs) (hb : n ≠ 0 → ∀ k, ownBlk A = some k → w'.heap[k]? = w.heap[k]?) : BO w' base A n xs := by
  refine ⟨h.1, ?_⟩
  by_cases h0 : n = 0
  · exact .inl h0
  rcases h.2 with h1 | ⟨g, r, rfl, hg, hp⟩
  · exact absurd h1 h0
  · refine .inr ⟨g, r, rfl, hg, ?_⟩
    unfold PreR
    rw [hb h0 g rfl]; exact hp
theorem cI_any (g : Nat) (xs : List Nat) (w : World) (hX : Blk w g xs 39) : Calls Try.prog 11 #[.slice (some ⟨g, 0, none⟩) xs.length xs.length] w (BkPost xs w) := by
  by_cases h : (4096 : Int) < xs.length
  · exact c_iBlocksOf_no _ _ _ _ h
  · exact c_iBlocksOf _ _ _ _ (Sl.of_blk hX) (Int.le_refl _) (by omega)
theorem cS_any (g : Nat) (xs : List Nat) (w : World) (hX : Blk w g xs 39) (hl : xs.length ≤ 1048576) : Calls Try.prog 9 #[.slice (some ⟨g, 0, none⟩) xs.length xs.length] w (BkPost xs w) := c_sBlocksOf _ _ _ _ (Sl.of_blk hX) hl
end Go.Proofs.Ytldkfpaigeoppaa
