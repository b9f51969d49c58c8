/- Own rings marked; slices.Grow of nothing, slices.Concat of two. No condition. -/
import Derived.Test.YtdhpaglcggeknaaGreatDoorTa
import Derived.Lib.AppendZerosOnto
namespace Go.Proofs.YtdhpaglcggeknaaGreatDoor
open Go.RowKit Go.Fl
theorem c_markRing_own (A : Option Addr) (c base : Nat) (xs : List Nat) (at0 m : Int) (w : World) (h : Own w base A c xs 25) (hl : (xs.length : Int) ≤ 4294967296) (h0 : 0 ≤ m) (h1 : m ≤ 4294967296) :
    Calls Tryz.prog 24 #[.agg #[.slice A xs.length c, .int .i64 at0], .int .i64 m] w fun e w' => e = .returned (.int .i64 (m + xs.length)) ∧ Own w' base A c (markL xs.length m) 25 ∧ w.grownBy w' (ownBlk A) := by
  have hg := World.grownBy_alloc w (.cells #[.slice A xs.length c, .int .i64 at0] 24) (ownBlk A)
  have HA := Lib.hid (h.kept (World.grownBy_alloc w (.cells #[.slice A xs.length c, .int .i64 at0] 24) none) (fun k hk => by simp))
  have HL := Lib.hid hl; have HG := Lib.hid hg; clear hl h hg
  go_enter Tryz.func24, Tryz.ntmps24
  go_wp2_with (go_at_call 43; refine (c_markFloat32S_own _ _ _ _ _ _ HA.out HL.out h0 h1).mono ?_; rintro e w1 ⟨rfl, h2, b'⟩; have b := Lib.hid b'; clear b')
  go_ret
  exact ⟨rfl, h2, grownBy_trans HG.out b.out⟩
theorem c_heldRing_sl (A : Option Addr) (c n : Nat) (at0 m : Int) (w : World) (hg : Sl w A (markL n m)) (hl : (n : Int) ≤ 4294967296) (h0 : 0 ≤ m) (h1 : m ≤ 4294967296) :
    Calls Tryz.prog 25 #[.agg #[.slice A n c, .int .i64 at0], .int .i64 m] w fun e w' => e = .returned (.int .i64 (m + n)) ∧ Below w.heap.size w w' := by
  have hb := Go.Joins.below_alloc1 w (.cells #[.slice A n c, .int .i64 at0] 24)
  have HG := Lib.hid (hg.below hb)
  have hn : ¬ (m + (n : Int) < 0) := by omega
  clear hg
  go_enter Tryz.func25, Tryz.ntmps25
  go_wp2_with (go_at_call 44; refine (c_heldFloat32S_sl _ _ _ _ _ HG.out hl h0 h1).mono ?_; rintro e w1 ⟨rfl, b⟩)
  go_ret
  exact ⟨rfl, seq_below hb b⟩
end Go.Proofs.YtdhpaglcggeknaaGreatDoor
