/- Own rings marked; slices.Grow of nothing, slices.Concat of two. No condition. -/
import Derived.Test.YtboffmlhoddopaaTa
import Derived.Lib.AppendZerosOnto
namespace Go.Proofs.Ytboffmlhoddopaa
open Go.RowKit Go.Fl
theorem c_markRing_own (A : Option Addr) (c base : Nat) (xs : List Nat) (at0 m : Int) (w : World) (h : Own w base A c xs 22) (hl : (xs.length : Int) ≤ 4294967296) (h0 : 0 ≤ m) (h1 : m ≤ 4294967296) :
    Calls Try.prog 32 #[.agg #[.slice A xs.length c, .int .i64 at0], .int .i64 m] w fun e w' => e = .returned (.int .i64 (m + xs.length)) ∧ Own w' base A c (markL xs.length m) 22 ∧ w.grownBy w' (ownBlk A) := by
  have hg := World.grownBy_alloc w (.cells #[.slice A xs.length c, .int .i64 at0] 42) (ownBlk A)
  have HA := Lib.hid (h.kept (World.grownBy_alloc w (.cells #[.slice A xs.length c, .int .i64 at0] 42) none) (fun k hk => by simp))
  have HL := Lib.hid hl; have HG := Lib.hid hg; clear hl h hg
  go_enter Try.func32, Try.ntmps32
  go_wp2_with (go_at_call 46; refine (c_markFloat32S_own _ _ _ _ _ _ HA.out HL.out h0 h1).mono ?_; rintro e w1 ⟨rfl, h2, b'⟩; have b := Lib.hid b'; clear b')
  go_ret
  exact ⟨rfl, h2, grownBy_trans HG.out b.out⟩
theorem c_heldRing_sl (A : Option Addr) (c n : Nat) (at0 m : Int) (w : World) (hg : Sl w A (markL n m)) (hl : (n : Int) ≤ 4294967296) (h0 : 0 ≤ m) (h1 : m ≤ 4294967296) :
    Calls Try.prog 33 #[.agg #[.slice A n c, .int .i64 at0], .int .i64 m] w fun e w' => e = .returned (.int .i64 (m + n)) ∧ Below w.heap.size w w' := by
  have hb := Go.Joins.below_alloc1 w (.cells #[.slice A n c, .int .i64 at0] 42)
  have HG := Lib.hid (hg.below hb)
  have hn : ¬ (m + (n : Int) < 0) := by omega
  clear hg
  go_enter Try.func33, Try.ntmps33
  go_wp2_with (go_at_call 53; refine (c_heldFloat32S_sl _ _ _ _ _ HG.out hl h0 h1).mono ?_; rintro e w1 ⟨rfl, b⟩)
  go_ret
  exact ⟨rfl, seq_below hb b⟩
set_option maxHeartbeats 1000000 in
set_option maxRecDepth 20000 in
theorem c_Grow (n : Nat) (w : World) (h1 : 1 ≤ n) (h2 : n ≤ 1048576) :
    Calls Try.prog 85 #[.slice none 0 0, .int .i64 n] w fun e w' => ∃ A c, e = .returned (.slice A 0 c) ∧ n ≤ c ∧ Own w' w.heap.size A c [] 22 ∧ Below w.heap.size w w' := by
  obtain ⟨i0, hi, hz0, hz1, hz2⟩ := info_parts info_f32e
  have hrz : ∀ ty, (Builtin.append_ #[37, 3] ty #[.slice none 0 0, .int .i64 n]).run Try.prog w =
      .ok (.slice (some ⟨w.heap.size, 0, none⟩) n (grownCap w n 0 22)) (w.drew.alloc (.cells (Builtin.zeroCells (Value.float .f32 0).cells n ++ Builtin.zeroCells (Value.float .f32 0).cells (grownCap w n 0 22 - n)) 22)) := fun ty => by
    have h := Lib.run_append_grow_zeros w 37 3 ty 22 i0 (.float .f32 0) .i64 .i64 Try.underlying37 Try.underlying3 hi hz0 none 0 0 [] (run_firstCells_none w.drew i0.size 0 0 0) n (by omega) (by omega) (by omega) (by omega) (by rw [hz2]; omega)
      (by rw [hz2]; exact growslice_fits (by omega) (by omega))
    simpa using h
  have hGn : n ≤ grownCap w n 0 22 := grownCap_ge w _ _ _
  have hGm := grownCap_le_maxLen w n 0 22 (by unfold maxLen; omega)
  obtain ⟨G, hG⟩ : ∃ G, G = grownCap w n 0 22 := ⟨_, rfl⟩
  rw [← hG] at hrz hGn hGm
  have hP : PreR (w.drew.alloc (.cells (Builtin.zeroCells (Value.float .f32 0).cells n ++ Builtin.zeroCells (Value.float .f32 0).cells (G - n)) 22)) w.heap.size [] (Builtin.zeroCells (Value.float .f32 0).cells n ++ Builtin.zeroCells (Value.float .f32 0).cells (G - n)).toList 22 := by
    unfold PreR
    simp only [fll, List.map_nil, List.nil_append, Array.toArray_toList]
    exact heap_alloc_new w.drew _
  have hLen : (Builtin.zeroCells (Value.float .f32 0).cells n ++ Builtin.zeroCells (Value.float .f32 0).cells (G - n)).toList.length = G := by
    simp only [Array.length_toList, Array.size_append, size_zeroCells, Value.cells]
    simp; omega
  have hb : Below w.heap.size w (w.drew.alloc (.cells (Builtin.zeroCells (Value.float .f32 0).cells n ++ Builtin.zeroCells (Value.float .f32 0).cells (G - n)) 22)) := ((Below.refl _ _).drew).alloc (Nat.le_refl _) _
  generalize (Builtin.zeroCells (Value.float .f32 0).cells n ++ Builtin.zeroCells (Value.float .f32 0).cells (G - n)) = Z at *
  have HP := Lib.hid hP; have HL := Lib.hid hLen; have HM := Lib.hid hGm; have HB := Lib.hid hb; clear hG hP hLen hi hz0 hz1 hz2 hGm hb
  have h3 : ¬ ((n : Int) < 0) := by omega
  have h4 : (n : Int) > 0 := by omega
  have h5 : (n : Int) ≤ 1048576 := by omega
  have h6 : (G : Int) ≤ 9223372036854775807 := by have := HM.out; unfold maxLen at this; omega
  go_enter Try.func85, Try.ntmps85
  go_wp2_with (at_builtin; refine Lib.wpList_append_run _ rfl _ _ _ _ rfl _ _ rfl rfl _ _ (hrz _) ?_)
  all_goals (go_ret; exact ⟨_, _, rfl, hGn, ⟨HM.out, .inr ⟨_, _, rfl, Nat.le_refl _, HP.out, by rw [HL.out]; simp⟩⟩, HB.out⟩)
end Go.Proofs.Ytboffmlhoddopaa
