/- The laws of rings: how much they hold. No condition. -/
import Derived.Test.YtpchebclhjgcmaaSo
namespace Go.Proofs.Ytpchebclhjgcmaa
open Go.RowKit Go.Fl
theorem Sl.of_blk {w : World} {g : Nat} {xs : List Nat} {t : TypeId} (h : Blk w g xs t) : Sl w (some ⟨g, 0, none⟩) xs := by
  refine .inr ⟨_, rfl, h.lt, fun k hk => ?_⟩
  have e : (⟨g, 0, none⟩ : Addr).add k = ⟨g, k, none⟩ := by
    unfold Addr.add
    by_cases h0 : k = 0
    · subst h0; simp
    · simp [h0]
  rw [e]; exact h.cell k hk
theorem info_lring : (Try.prog.info? 24).map (·.size) = some 2 := by kernel_rfl
set_option maxRecDepth 20000 in
theorem c_szRing (A : Option Addr) (n c : Nat) (at0 : Int) (w : World) (hn : (n : Int) ≤ 1048576) : Calls Try.prog 41 #[.agg #[.slice A n c, .int .i64 at0], .int .i64 1048576] w fun e w' => e = .returned (.int .i64 (1048576 - n)) ∧ Below w.heap.size w w' := by
  have h0 : (0 : Int) ≤ n := by omega
  have h1 : ¬ (1048576 - (n : Int) < 0) := by omega
  go_enter Try.func41, Try.ntmps41
  go_wp2
  go_ret
  exact ⟨rfl, Go.Joins.below_alloc1 _ _⟩
set_option maxRecDepth 20000 in
theorem c_szRing_big (A : Option Addr) (n c : Nat) (at0 : Int) (w : World) (hn : 1048576 < (n : Int)) (hm : (n : Int) ≤ 9223372036854775807) : Calls Try.prog 41 #[.agg #[.slice A n c, .int .i64 at0], .int .i64 1048576] w fun e w' => e = .returned (.int .i64 (-1)) ∧ Below w.heap.size w w' := by
  have h1 : 1048576 - (n : Int) < 0 := by omega
  go_enter Try.func41, Try.ntmps41
  go_wp2
  go_ret
  exact ⟨rfl, Go.Joins.below_alloc1 _ _⟩
end Go.Proofs.Ytpchebclhjgcmaa
