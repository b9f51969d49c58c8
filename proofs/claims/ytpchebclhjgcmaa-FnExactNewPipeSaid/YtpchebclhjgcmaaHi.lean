/- Copies of rings and strings; muted strings. No condition. -/
import Derived.Test.YtpchebclhjgcmaaHg
namespace Go.Fl
open Go.RowKit
/-- An operation taken first: the frame written out. -/
theorem wpSeq_heldD {P : Program} {ops : Array Oper} {Q : Exit → Act → World → Prop} {S : World → Prop} {i : Nat} {o : Oper} {v : Value} {l : List (Bool × Nat)} {a : Act} {w : World} (ho : ops[i]? = some o) {d : Tmp} (hd : o.dst = some d) (hy : YieldsIf P ops S o v a) (tm : Array Value) (ht : a.tmps.setIfInBounds d v = tm) (h : wpSeq P ops Q S l { tmps := tm, defers := a.defers } w) : wpSeq P ops Q S ((true, i) :: l) a w :=
  wpSeq_held ho hy (by unfold Act.put; rw [hd]; subst ht; exact h)
end Go.Fl
namespace Go.Proofs.Ytpchebclhjgcmaa
open Go.RowKit Go.Fl
set_option maxRecDepth 20000 in
set_option maxHeartbeats 1000000 in
theorem c_sL02Copy (g c : Nat) (ad : Addr) (xs : List Nat) (at0 : Int) (w : World) (k0 : w.cell? ⟨g, 0, none⟩ = some (.slice (some ad) xs.length c)) (k1 : w.cell? ⟨g, 1, none⟩ = some (.int .i64 at0)) (hg : g < w.heap.size) (hs : Sl w (some ad) xs) (hl : xs.length ≤ 1048576) :
    Calls Try.prog 99 #[.pointer (some ⟨g, 0, none⟩)] w fun e w' => ∃ A' c', e = .returned (.agg #[.slice A' xs.length c', .int .i64 at0]) ∧ Own w' w.heap.size A' c' xs 25 ∧ Below w.heap.size w w' := by
  obtain ⟨wa, hwa⟩ : ∃ wa, wa = w.alloc (.cells #[.slice none 0 0, .int .i64 0] 34) := ⟨_, rfl⟩
  have q2 : Row wa w.heap.size #[.slice none 0 0, .int .i64 0] 34 := by subst hwa; exact Row.new _ _ _ _ rfl
  have hb : Below w.heap.size w wa := by subst hwa; exact Go.Joins.below_alloc1 w _
  have K0 := Lib.hid (fun w' (h : Below w.heap.size wa w') => ((hb.trans h).cell (p := ⟨g, 0, none⟩) hg).trans k0)
  have K1 := Lib.hid (fun w' (h : Below w.heap.size wa w') => ((hb.trans h).cell (p := ⟨g, 1, none⟩) hg).trans k1)
  have HS := Lib.hid (fun w' (h : Below w.heap.size wa w') => hs.below (hb.trans h)); have HL := Lib.hid hl; have HG := Lib.hid hg
  have hge : w.heap.size < wa.heap.size := q2.lt
  have HW := Lib.hid hwa
  clear k0 k1 hs hl hwa hg
  generalize hn : xs.length = n at *
  have HN := Lib.hid hn; clear hn
  go_enter Try.func99, Try.ntmps99
  go_wp2_with fail
  rw [← HW.out]
  have s0 := ((Below.refl w.heap.size wa).drew)
  refine wp_region_seq (S := fun w' => Below w.heap.size wa w') [(true, 1), (true, 2), (true, 3), (true, 4), (true, 6), (true, 7), (true, 8), (true, 9), (false, 0), (false, 5), (true, 10), (false, 11)] (by kernel_rfl) (by kernel_rfl) (by kernel_rfl) (fun _ _ d _ _ h => by cases d <;> exact h) s0 ?_
  refine wpSeq_held (v := .pointer (some ⟨g, 0, none⟩)) rfl (.inl ⟨rfl, fun w' hw => by go_simp⟩) ?_
  refine wpSeq_held (v := .pointer (some ⟨g, 0, none⟩)) rfl (.inl ⟨rfl, fun w' hw => by go_simp⟩) ?_
  refine wpSeq_held (v := .pointer (some ⟨g, 0, none⟩)) rfl (.inl ⟨rfl, fun w' hw => by go_simp⟩) ?_
  refine wpSeq_held (v := .slice (some ad) n c) rfl (.inl ⟨rfl, fun w' hw => by have k := K0.out w' hw; go_simp⟩) ?_
  refine wpSeq_held (v := .pointer (some ⟨g, 0, none⟩)) rfl (.inl ⟨rfl, fun w' hw => by go_simp⟩) ?_
  refine wpSeq_held (v := .pointer (some ⟨g, 0, none⟩)) rfl (.inl ⟨rfl, fun w' hw => by go_simp⟩) ?_
  refine wpSeq_held (v := .pointer (some ⟨g, 1, none⟩)) rfl (.inl ⟨rfl, fun w' hw => by go_simp⟩) ?_
  refine wpSeq_held (v := .int .i64 at0) rfl (.inl ⟨rfl, fun w' hw => by have k := K1.out w' hw; go_simp⟩) ?_
  refine wpSeq_step rfl rfl (fun K hK => ?_)
  go_wp2_with fail
  have z1 : (wa.alloc (Obj.cells #[] 25)).drew.heap.size = wa.heap.size + 1 := by show (wa.alloc _).heap.size = _; simp
  have s1 : Below wa.heap.size wa (wa.alloc (Obj.cells #[] 25)).drew := (Go.Joins.below_alloc1 wa _).drew
  have o1 : Own (wa.alloc (Obj.cells #[] 25)).drew wa.heap.size (some ⟨wa.heap.size, 0, none⟩) 0 [] 25 := Own.of_blk (xs := []) (Blk.newRow wa [] #[] 25 _ rfl rfl) (Nat.le_refl _) (by simp [maxLen])
  refine ⟨s1.mono (Nat.le_of_lt hge), ?_⟩
  refine wpSeq_step rfl rfl (fun K hK => ?_)
  refine wp_append_sl_n _ _ 22 rfl wa.heap.size 25 Try.underlying22 info_f32e (n := 0) (xs := []) rfl rfl o1 (ys := xs) HN.out rfl (HS.out _ (s1.mono (Nat.le_of_lt hge))) (by have := HL.out; omega) (by omega) ?_
  intro A1 c1 w2 o2 g2 _
  have s2 := s1.grown g2 (by omega) o1.ge
  refine hK _ _ ⟨s2.mono (Nat.le_of_lt hge), ?_⟩; clear hK
  rw [Nat.zero_add]
  rw [List.nil_append] at o2
  refine wpSeq_held (v := .agg #[.slice A1 n c1, .int .i64 at0]) rfl (.inl ⟨rfl, fun w' hw => by go_simp⟩) ?_
  refine wpSeq_step rfl rfl (fun K hK => ?_)
  refine wp_store_cells 34 _ _ rfl _ rfl rfl (q2.below s2 q2.lt) info_ring rfl rfl ?_
  have s3 := below_setRow (s2.mono (Nat.le_of_lt hge)) (g := w.heap.size) (Nat.le_refl _) #[.slice A1 n c1, .int .i64 at0]
  refine hK _ _ ⟨s3, ?_⟩; clear hK
  refine wpSeq_nil ?_
  have hq := (q2.below s2 q2.lt).row #[.slice A1 n c1, .int .i64 at0]
  have ho3 := (o2.kept (grownBy_setRow w2 w.heap.size #[.slice A1 n c1, .int .i64 at0]) (fun k hk => by have := o2.ge k hk; intro e; cases e; omega)).mono (b := w.heap.size) (by omega)
  have HO := Lib.hid ho3; have S3 := Lib.hid s3; have HB := Lib.hid hb; clear o1 o2 ho3 s3 hb s0 s1 s2 g2 K0 K1 HS z1
  go_wp2
  exact bodyPost_ret (results_cells rfl _ _ _ rfl hq Try.underlying34 rfl info_ring) rfl ⟨A1, c1, rfl, HO.out, HB.out.trans S3.out⟩
theorem fil_cells (F : Fil) : F.cells.toArray = #[.int .i64 F.k, .float .f32 F.c0, .float .f32 F.c1, .float .f32 F.c2, .float .f32 F.s0, .float .f32 F.s1] := rfl
set_option maxRecDepth 20000 in
set_option maxHeartbeats 1000000 in
theorem c_sL03Copy (g c : Nat) (ad : Addr) (xs : List Nat) (at0 : Int) (F G : Fil) (l : Nat) (w : World) (q : Row w g (strC (some ad) xs.length c at0 F G l).toArray 37) (hs : Sl w (some ad) xs) (hl : xs.length ≤ 1048576) :
    Calls Try.prog 65 #[.pointer (some ⟨g, 0, none⟩)] w fun e w' => ∃ A' c', e = .returned (.agg (strC A' xs.length c' at0 F G l).toArray) ∧ Own w' w.heap.size A' c' xs 25 ∧ Below w.heap.size w w' := by
  have hz : (strC none 0 0 0 filZ filZ 0).toArray = #[.slice none 0 0, .int .i64 0, .int .i64 0, .float .f32 0, .float .f32 0, .float .f32 0, .float .f32 0, .float .f32 0, .int .i64 0, .float .f32 0, .float .f32 0, .float .f32 0, .float .f32 0, .float .f32 0, .float .f32 0] := rfl
  obtain ⟨wa, hwa⟩ : ∃ wa, wa = w.alloc (.cells (strC none 0 0 0 filZ filZ 0).toArray 37) := ⟨_, rfl⟩
  have q2 : Row wa w.heap.size (strC none 0 0 0 filZ filZ 0).toArray 37 := by subst hwa; exact Row.new _ _ _ _ rfl
  have hb : Below w.heap.size w wa := by subst hwa; exact Go.Joins.below_alloc1 w _
  have hg := q.lt
  have K0 := Lib.hid (fun w' (h : Below w.heap.size wa w') => q.below (hb.trans h) hg)
  have HS := Lib.hid (fun w' (h : Below w.heap.size wa w') => hs.below (hb.trans h)); have HL := Lib.hid hl; have HG := Lib.hid hg
  have hge : w.heap.size < wa.heap.size := q2.lt
  rw [hz] at hwa
  have HW := Lib.hid hwa
  clear q hs hl hwa hz hg
  go_enter Try.func65, Try.ntmps65
  go_wp2_with fail
  rw [← HW.out]
  have s0 := ((Below.refl w.heap.size wa).drew)
  refine wp_region_seq (S := fun w' => Below w.heap.size wa w') [(true, 0), (true, 1), (true, 2), (true, 4), (true, 5), (true, 6), (true, 7), (true, 8), (true, 9), (true, 10), (true, 11), (true, 12), (true, 13), (true, 14), (true, 15), (false, 3), (true, 16), (false, 17)] (by kernel_rfl) (by kernel_rfl) (by kernel_rfl) (fun _ _ d _ _ h => by cases d <;> exact h) s0 ?_
  refine wpSeq_heldD (v := .pointer (some ⟨g, 0, none⟩)) rfl rfl (.inl ⟨rfl, fun w' hw => by go_simp⟩) _ (by simp only [List.setIfInBounds_toArray, List.set_cons_zero, List.set_cons_succ]; rfl) ?_
  refine wpSeq_heldD (v := .pointer (some ⟨g, 0, none⟩)) rfl rfl (.inl ⟨rfl, fun w' hw => by go_simp⟩) _ (by simp only [List.setIfInBounds_toArray, List.set_cons_zero, List.set_cons_succ]; rfl) ?_
  refine wpSeq_heldD (v := .pointer (some ⟨g, 0, none⟩)) rfl rfl (.inl ⟨rfl, fun w' hw => by go_simp⟩) _ (by simp only [List.setIfInBounds_toArray, List.set_cons_zero, List.set_cons_succ]; rfl) ?_
  refine wpSeq_heldD (v := .pointer (some ⟨g, 0, none⟩)) rfl rfl (.inl ⟨rfl, fun w' hw => by go_simp⟩) _ (by simp only [List.setIfInBounds_toArray, List.set_cons_zero, List.set_cons_succ]; rfl) ?_
  refine wpSeq_heldD (v := .pointer (some ⟨g, 0, none⟩)) rfl rfl (.inl ⟨rfl, fun w' hw => by go_simp⟩) _ (by simp only [List.setIfInBounds_toArray, List.set_cons_zero, List.set_cons_succ]; rfl) ?_
  refine wpSeq_heldD (v := .pointer (some ⟨g, 2, none⟩)) rfl rfl (.inl ⟨rfl, fun w' hw => by go_simp⟩) _ (by simp only [List.setIfInBounds_toArray, List.set_cons_zero, List.set_cons_succ]; rfl) ?_
  refine wpSeq_heldD (v := .agg F.cells.toArray) rfl rfl (yields_load_part (w0 := wa) rfl _ _ rfl g 2 rfl F.cells (K0.out wa (Below.refl _ _)) HG.out (fun _ h => h) (strC_p2 _ _ _ _ _ _ _) Try.underlying35 rfl info_filt) _ (by simp only [List.setIfInBounds_toArray, List.set_cons_zero, List.set_cons_succ]; rfl) ?_
  refine wpSeq_heldD (v := .pointer (some ⟨g, 0, none⟩)) rfl rfl (.inl ⟨rfl, fun w' hw => by go_simp⟩) _ (by simp only [List.setIfInBounds_toArray, List.set_cons_zero, List.set_cons_succ]; rfl) ?_
  refine wpSeq_heldD (v := .pointer (some ⟨g, 0, none⟩)) rfl rfl (.inl ⟨rfl, fun w' hw => by go_simp⟩) _ (by simp only [List.setIfInBounds_toArray, List.set_cons_zero, List.set_cons_succ]; rfl) ?_
  refine wpSeq_heldD (v := .pointer (some ⟨g, 8, none⟩)) rfl rfl (.inl ⟨rfl, fun w' hw => by go_simp⟩) _ (by simp only [List.setIfInBounds_toArray, List.set_cons_zero, List.set_cons_succ]; rfl) ?_
  refine wpSeq_heldD (v := .agg G.cells.toArray) rfl rfl (yields_load_part (w0 := wa) rfl _ _ rfl g 8 rfl G.cells (K0.out wa (Below.refl _ _)) HG.out (fun _ h => h) (strC_p8 _ _ _ _ _ _ _) Try.underlying35 rfl info_filt) _ (by simp only [List.setIfInBounds_toArray, List.set_cons_zero, List.set_cons_succ]; rfl) ?_
  refine wpSeq_heldD (v := .pointer (some ⟨g, 0, none⟩)) rfl rfl (.inl ⟨rfl, fun w' hw => by go_simp⟩) _ (by simp only [List.setIfInBounds_toArray, List.set_cons_zero, List.set_cons_succ]; rfl) ?_
  refine wpSeq_heldD (v := .pointer (some ⟨g, 0, none⟩)) rfl rfl (.inl ⟨rfl, fun w' hw => by go_simp⟩) _ (by simp only [List.setIfInBounds_toArray, List.set_cons_zero, List.set_cons_succ]; rfl) ?_
  refine wpSeq_heldD (v := .pointer (some ⟨g, 14, none⟩)) rfl rfl (.inl ⟨rfl, fun w' hw => by go_simp⟩) _ (by simp only [List.setIfInBounds_toArray, List.set_cons_zero, List.set_cons_succ]; rfl) ?_
  refine wpSeq_heldD (v := .float .f32 l) rfl rfl (.inl ⟨rfl, fun w' hw => by have k : w'.cell? ⟨g, 14, none⟩ = some (.float .f32 l) := (K0.out w' hw).cell 14 _ rfl; go_simp⟩) _ (by simp only [List.setIfInBounds_toArray, List.set_cons_zero, List.set_cons_succ]; rfl) ?_
  refine wpSeq_step rfl rfl (fun K hK => ?_)
  go_wp2_with fail
  refine (c_sL02Copy _ _ _ _ _ _ ((K0.out _ s0).cell 0 _ rfl) ((K0.out _ s0).cell 1 _ rfl) (Nat.lt_trans HG.out hge) (HS.out _ s0) HL.out).mono ?_
  rintro e w2 ⟨A1, c1, rfl, o2, b2⟩
  have s2 : Below w.heap.size wa w2 := s0.trans (b2.mono (Nat.le_of_lt hge))
  have q2d : Row wa.drew w.heap.size (strC none 0 0 0 filZ filZ 0).toArray 37 := q2
  have q2' := q2d.below b2 q2.lt
  refine hK _ _ ⟨s2, ?_⟩; clear hK
  refine wpSeq_heldD (v := .agg (strC A1 xs.length c1 at0 F G l).toArray) rfl rfl (.inl ⟨rfl, fun w' hw => by rw [fil_cells, fil_cells]; go_simp; rfl⟩) _ (by simp only [List.setIfInBounds_toArray, List.set_cons_zero, List.set_cons_succ]; rfl) ?_
  refine wpSeq_step rfl rfl (fun K hK => ?_)
  refine wp_store_part 37 _ _ rfl w.heap.size 0 rfl (strC A1 xs.length c1 at0 F G l) rfl q2' info_str (Nat.le_of_ble_eq_true rfl) rfl ?_
  have s3 := below_setRow s2 (g := w.heap.size) (Nat.le_refl _) (over (strC none 0 0 0 filZ filZ 0) 0 (strC A1 xs.length c1 at0 F G l)).toArray
  refine hK _ _ ⟨s3, ?_⟩; clear hK
  refine wpSeq_nil ?_
  have hq : Row _ w.heap.size (strC A1 xs.length c1 at0 F G l).toArray _ := q2'.row (over (strC none 0 0 0 filZ filZ 0) 0 (strC A1 xs.length c1 at0 F G l)).toArray
  have hge2 : wa.drew.heap.size = wa.heap.size := rfl
  have ho3 := (o2.kept (grownBy_setRow w2 w.heap.size (over (strC none 0 0 0 filZ filZ 0) 0 (strC A1 xs.length c1 at0 F G l)).toArray) (fun k hk => by have := o2.ge k hk; intro e; cases e; omega)).mono (b := w.heap.size) (by omega)
  have HO := Lib.hid ho3; have S3 := Lib.hid s3; have HB := Lib.hid hb; clear o2 ho3 s3 hb s0 s2 b2 K0 HS q2 q2'
  go_wp2_with fail
  exact bodyPost_ret (results_cells rfl _ _ _ rfl hq Try.underlying37 rfl info_str) rfl ⟨A1, c1, rfl, HO.out, HB.out.trans S3.out⟩
end Go.Proofs.Ytpchebclhjgcmaa
