/- Marks of rings. No condition. -/
import Derived.Test.YtdhpaglcggeknaaGreatDoorSx
namespace Go.Proofs.YtdhpaglcggeknaaGreatDoor
open Go.RowKit Go.Fl
theorem c_markRing (g c : Nat) (xs : List Nat) (at0 m : Int) (w : World) (hg : Blk w g xs 25) (hl : (xs.length : Int) ≤ 4294967296) (h0 : 0 ≤ m) (h1 : m ≤ 4294967296) :
    Calls Tryz.prog 24 #[.agg #[.slice (some ⟨g, 0, none⟩) xs.length c, .int .i64 at0], .int .i64 m] w fun e w' => e = .returned (.int .i64 (m + xs.length)) ∧ Blk w' g (markL xs.length m) 25 ∧ Below g w w' ∧ (∀ b, b < w.heap.size → b ≠ g → w'.heap[b]? = w.heap[b]?) := by
  have hg' := hg.alloc (.cells #[.slice (some ⟨g, 0, none⟩) xs.length c, .int .i64 at0] 24)
  have hlt := hg.lt
  have hb : Below g w (w.alloc (.cells #[.slice (some ⟨g, 0, none⟩) xs.length c, .int .i64 at0] 24)) := (Go.Joins.below_alloc1 w _).mono (Nat.le_of_lt hlt)
  have HL := Lib.hid hl; clear hl hg
  go_enter Tryz.func24, Tryz.ntmps24
  go_wp2_with (go_at_call 43; refine (c_markFloat32S _ _ _ _ _ hg' HL.out h0 h1).mono ?_; rintro e w1 ⟨rfl, h2, b, ho'⟩; have ho := Lib.hid ho'; clear ho')
  go_ret
  exact ⟨rfl, h2, hb.trans b, fun b hb1 hb2 => (ho.out b hb2).trans (Below.heap_alloc _ _ _ hb1)⟩
theorem c_markRing_nil (A : Option Addr) (c : Nat) (at0 m : Int) (w : World) :
    Calls Tryz.prog 24 #[.agg #[.slice A 0 c, .int .i64 at0], .int .i64 m] w fun e w' => e = .returned (.int .i64 m) ∧ Below w.heap.size w w' := by
  go_enter Tryz.func24, Tryz.ntmps24
  go_wp2_with (go_at_call 43; refine (c_markFloat32S_nil _ _ _ _).mono ?_; rintro e w1 ⟨rfl, rfl⟩)
  go_ret
  exact ⟨rfl, Go.Joins.below_alloc1 _ _⟩
theorem c_heldRing (g c n : Nat) (at0 m : Int) (w : World) (hg : Blk w g (markL n m) 25) (hl : (n : Int) ≤ 4294967296) (h0 : 0 ≤ m) (h1 : m ≤ 4294967296) :
    Calls Tryz.prog 25 #[.agg #[.slice (some ⟨g, 0, none⟩) n c, .int .i64 at0], .int .i64 m] w fun e w' => e = .returned (.int .i64 (m + n)) ∧ Below w.heap.size w w' := by
  have hg' := hg.alloc (.cells #[.slice (some ⟨g, 0, none⟩) n c, .int .i64 at0] 24)
  have hb := Go.Joins.below_alloc1 w (.cells #[.slice (some ⟨g, 0, none⟩) n c, .int .i64 at0] 24)
  have hn : ¬ (m + (n : Int) < 0) := by omega
  clear hg
  go_enter Tryz.func25, Tryz.ntmps25
  go_wp2_with (go_at_call 44; refine (c_heldFloat32S _ _ _ _ _ hg' hl h0 h1).mono ?_; rintro e w1 ⟨rfl, b⟩)
  go_ret
  exact ⟨rfl, seq_below hb b⟩
theorem c_heldRing_nil (A : Option Addr) (c : Nat) (at0 m : Int) (w : World) (h0 : 0 ≤ m) :
    Calls Tryz.prog 25 #[.agg #[.slice A 0 c, .int .i64 at0], .int .i64 m] w fun e w' => e = .returned (.int .i64 m) ∧ Below w.heap.size w w' := by
  have hn : ¬ (m < 0) := by omega
  go_enter Tryz.func25, Tryz.ntmps25
  go_wp2_with (go_at_call 44; refine (c_heldFloat32S_nil _ _ _ _).mono ?_; rintro e w1 ⟨rfl, rfl⟩)
  go_ret
  exact ⟨rfl, Go.Joins.below_alloc1 _ _⟩
end Go.Proofs.YtdhpaglcggeknaaGreatDoor
