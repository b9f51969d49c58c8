/- The law's own helpers over strings. No condition. -/
import Derived.Test.YtdhpaglcggeknaaGreatDoorHb
import Derived.Test.YtdhpaglcggeknaaGreatDoorTe
import Derived.Test.YtdhpaglcggeknaaGreatDoorSv
namespace Go.Fl
open Go.RowKit
section
variable {P : Program} {ops : Array Oper} {rest : List Oper} {o : Oper} {a : Act} {w : World} {K : Act → World → Prop} {Q : Exit → Act → World → Prop}
/-- A part stored: only block g has turned. -/
theorem wpList_store_partK (hgd : o.guard = none) (ty : TypeId) (x y : Operand) (ho : o.op = .store ty x y) (g off : Nat) (hx : a.eval x = .pointer (some ⟨g, off, none⟩)) (part : List Value) (hy : a.eval y = .agg part.toArray) {t : TypeId} {cs : List Value} (hg : w.heap[g]? = some (.cells cs.toArray t)) (hi : (P.info? ty).map (·.size) = some part.length)
    (hfit : Nat.ble (off + part.length) cs.length = true) (h1 : part.all (·.oneCell') = true) (new : List Value) (hnew : over cs off part = new) (h : ∀ w', w.grownBy w' (some g) → w'.heap[g]? = some (.cells new.toArray t) → wpList P ops Q rest (a.put o.dst undef) w') : wpList P ops Q (o :: rest) a w :=
  wpList_store_part hgd ty x y ho g off hx part hy hg hi (Nat.le_of_ble_eq_true hfit) h1 (h _ ⟨rfl, rfl, rfl, by simp, fun k _ hn => setRow_other w g k _ (fun e => hn (by rw [e]))⟩ (by rw [← hnew]; exact setRow_heap w g _ _ t _ hg))
end
end Go.Fl
namespace Go.Proofs.YtdhpaglcggeknaaGreatDoor
open Go.RowKit Go.Fl
def FilEq (F G : Fil) : Prop := F.k = G.k ∧ cv .f32 F.c0 = cv .f32 G.c0 ∧ cv .f32 F.c1 = cv .f32 G.c1 ∧ cv .f32 F.c2 = cv .f32 G.c2 ∧ cv .f32 F.s0 = cv .f32 G.s0 ∧ cv .f32 F.s1 = cv .f32 G.s1
theorem FilEq.refl (F : Fil) : FilEq F F := ⟨rfl, rfl, rfl, rfl, rfl, rfl⟩
def filZ : Fil := ⟨0, 0, 0, 0, 0, 0⟩
theorem c_eqFil (F G : Fil) (w : World) (h : FilEq F G) : Calls Tryz.prog 22 #[.agg F.cells.toArray, .agg G.cells.toArray] w fun e w' => e = .returned (.bool true) ∧ Below w.heap.size w w' := by
  obtain ⟨hk, h0, h1, h2, g0, g1⟩ := h
  have e : G.cells.toArray = filt F.k G.c0 G.c1 G.c2 G.s0 G.s1 := by unfold Fil.cells filC; rw [← hk]; rfl
  rw [e]
  exact c_eqFilter F.k F.c0 F.c1 F.c2 F.s0 F.s1 G.c0 G.c1 G.c2 G.s0 G.s1 w h0 h1 h2 g0 g1
theorem info_str : (Tryz.prog.info? 31).map (·.size) = some 15 := by kernel_rfl
set_option maxRecDepth 20000 in
set_option maxHeartbeats 2000000 in
theorem c_eqString (A B : Option Addr) (c d n : Nat) (xs ys : List Nat) (at0 : Int) (F G F' G' : Fil) (l l' : Nat) (w : World) (hs : Sl w A xs) (ht : Sl w B ys) (hx : xs.length = n) (hy : ys.length = n) (hl2 : (n : Int) ≤ 4294967296) (h : ∀ j, j < n → cv .f32 (nth xs j) = cv .f32 (nth ys j))
    (hF : FilEq F F') (hG : FilEq G G') (hll : cv .f32 l = cv .f32 l') :
    Calls Tryz.prog 6 #[.agg (strC A n c at0 F G l).toArray, .agg (strC B n d at0 F' G' l').toArray] w fun e w' => e = .returned (.bool true) ∧ Below w.heap.size w w' := by
  have q1 : Row ((w.alloc (.cells (strC A n c at0 F G l).toArray 31)).alloc (.cells (strC B n d at0 F' G' l').toArray 31)) w.heap.size (strC A n c at0 F G l).toArray 31 := (Row.new _ _ _ _ rfl).alloc _
  have q2 : Row ((w.alloc (.cells (strC A n c at0 F G l).toArray 31)).alloc (.cells (strC B n d at0 F' G' l').toArray 31)) (w.heap.size + 1) (strC B n d at0 F' G' l').toArray 31 := Row.new _ _ _ _ (by simp)
  have hb := Go.Joins.below_alloc2 w (.cells (strC A n c at0 F G l).toArray 31) (.cells (strC B n d at0 F' G' l').toArray 31)
  have HS := Lib.hid (hs.below hb); have HT := Lib.hid (ht.below hb); have HX := Lib.hid hx; have HY := Lib.hid hy; have HL := Lib.hid hl2; have HE := Lib.hid h; have HF := Lib.hid hF; have HG := Lib.hid hG; have HLL := Lib.hid hll
  clear hs ht hx hy hl2 h hF hG hll
  have HP : Hid (((strC A n c at0 F G l).drop 0).take 2 = [.slice A n c, .int .i64 at0] ∧ ((strC A n c at0 F G l).drop 2).take 6 = F.cells ∧ ((strC A n c at0 F G l).drop 8).take 6 = G.cells) := ⟨rfl, rfl, rfl⟩
  have HQ : Hid (((strC B n d at0 F' G' l').drop 0).take 2 = [.slice B n d, .int .i64 at0] ∧ ((strC B n d at0 F' G' l').drop 2).take 6 = F'.cells ∧ ((strC B n d at0 F' G' l').drop 8).take 6 = G'.cells) := ⟨rfl, rfl, rfl⟩
  have P14 : Hid (∀ W, Row W w.heap.size (strC A n c at0 F G l).toArray 31 → W.cell? ⟨w.heap.size, 14, none⟩ = some (.float .f32 l)) := fun W h => h.cell 14 _ rfl
  have Q14 : Hid (∀ W, Row W (w.heap.size + 1) (strC B n d at0 F' G' l').toArray 31 → W.cell? ⟨w.heap.size + 1, 14, none⟩ = some (.float .f32 l')) := fun W h => h.cell 14 _ rfl
  generalize strC A n c at0 F G l = T1 at *
  generalize strC B n d at0 F' G' l' = T2 at *
  go_enter Tryz.func6, Tryz.ntmps6
  go_wp2_with (first | (refine wpList_load_part rfl 24 _ rfl (w.heap.size) 0 rfl [.slice A n c, .int .i64 at0] q1 HP.out.1 Tryz.underlying24 rfl info_ring ?_) | (refine wpList_load_part rfl 24 _ rfl (w.heap.size + 1) 0 rfl [.slice B n d, .int .i64 at0] q2 HQ.out.1 Tryz.underlying24 rfl info_ring ?_))
  refine (c_eqRing_n _ _ _ _ _ _ _ _ _ HS.out HT.out HX.out HY.out HL.out HE.out).mono ?_; rintro e w1 ⟨rfl, b⟩
  replace q1 := q1.below b q1.lt; replace q2 := q2.below b q2.lt; replace hb := seq_below hb b; clear b
  go_wp2_with (first | (refine wpList_load_part rfl 29 _ rfl (w.heap.size) 2 rfl F.cells q1 HP.out.2.1 Tryz.underlying29 rfl info_filt ?_) | (refine wpList_load_part rfl 29 _ rfl (w.heap.size + 1) 2 rfl F'.cells q2 HQ.out.2.1 Tryz.underlying29 rfl info_filt ?_))
  refine (c_eqFil _ _ _ HF.out).mono ?_; rintro e w2 ⟨rfl, b⟩
  replace q1 := q1.below b q1.lt; replace q2 := q2.below b q2.lt; replace hb := seq_below hb b; clear b
  go_wp2_with (first | (refine wpList_load_part rfl 29 _ rfl (w.heap.size) 8 rfl G.cells q1 HP.out.2.2 Tryz.underlying29 rfl info_filt ?_) | (refine wpList_load_part rfl 29 _ rfl (w.heap.size + 1) 8 rfl G'.cells q2 HQ.out.2.2 Tryz.underlying29 rfl info_filt ?_))
  refine (c_eqFil _ _ _ HG.out).mono ?_; rintro e w3 ⟨rfl, b⟩
  replace q1 := q1.below b q1.lt; replace q2 := q2.below b q2.lt; replace hb := seq_below hb b; clear b
  have p14 := P14.out _ q1; have p15 := Q14.out _ q2
  go_wp2_with fail
  refine (c_same32 _ _ _ _ _ HLL.out).mono ?_; rintro e w4 ⟨rfl, nq, rfl⟩
  go_wp2_with fail
  go_ret
  exact ⟨rfl, by first | exact below_drewN hb _ | exact below_drewN (below_drewN hb _) _⟩
theorem c_markString (A : Option Addr) (c base n : Nat) (xs : List Nat) (at0 m : Int) (F G : Fil) (l : Nat) (w : World) (h : Own w base A c xs 25) (hn : xs.length = n) (hl : (n : Int) ≤ 4294967296) (h0 : 0 ≤ m) (h1 : m ≤ 4294967296) :
    Calls Tryz.prog 7 #[.agg (strC A n c at0 F G l).toArray, .int .i64 m] w fun e w' => e = .returned (.int .i64 (m + n)) ∧ Own w' base A c (markL n m) 25 ∧ w.grownBy w' (ownBlk A) := by
  have q1 : Row (w.alloc (.cells (strC A n c at0 F G l).toArray 31)) w.heap.size (strC A n c at0 F G l).toArray 31 := Row.new _ _ _ _ rfl
  have HP : Hid (((strC A n c at0 F G l).drop 0).take 2 = [.slice A n c, .int .i64 at0]) := rfl
  have HG := Lib.hid (World.grownBy_alloc w (.cells (strC A n c at0 F G l).toArray 31) (ownBlk A))
  have HA := Lib.hid (h.kept (World.grownBy_alloc w (.cells (strC A n c at0 F G l).toArray 31) none) (fun k hk => by simp))
  have HN := Lib.hid hn; have HL := Lib.hid hl
  clear h hn hl
  generalize strC A n c at0 F G l = T1 at *
  go_enter Tryz.func7, Tryz.ntmps7
  go_wp2_with (refine wpList_load_part rfl 24 _ rfl (w.heap.size) 0 rfl [.slice A n c, .int .i64 at0] q1 HP.out Tryz.underlying24 rfl info_ring ?_)
  refine (c_markRing_own_n _ _ _ _ _ _ _ _ HA.out HN.out HL.out h0 h1).mono ?_; rintro e w1 ⟨rfl, h2, b'⟩; have b := Lib.hid b'; clear b'
  go_wp2_with fail
  go_ret
  exact ⟨rfl, h2, grownBy_trans HG.out b.out⟩
theorem c_heldString (A : Option Addr) (c n : Nat) (at0 m : Int) (F G : Fil) (l : Nat) (w : World) (hg : Sl w A (markL n m)) (hl : (n : Int) ≤ 4294967296) (h0 : 0 ≤ m) (h1 : m ≤ 4294967296) :
    Calls Tryz.prog 8 #[.agg (strC A n c at0 F G l).toArray, .int .i64 m] w fun e w' => e = .returned (.int .i64 (m + n)) ∧ Below w.heap.size w w' := by
  have q1 : Row (w.alloc (.cells (strC A n c at0 F G l).toArray 31)) w.heap.size (strC A n c at0 F G l).toArray 31 := Row.new _ _ _ _ rfl
  have hb := Go.Joins.below_alloc1 w (.cells (strC A n c at0 F G l).toArray 31)
  have HP : Hid (((strC A n c at0 F G l).drop 0).take 2 = [.slice A n c, .int .i64 at0]) := rfl
  have HG := Lib.hid (hg.below hb); have HL := Lib.hid hl
  have hp : ¬ (m + (n : Int) < 0) := by omega
  clear hg hl
  generalize strC A n c at0 F G l = T1 at *
  go_enter Tryz.func8, Tryz.ntmps8
  go_wp2_with (refine wpList_load_part rfl 24 _ rfl (w.heap.size) 0 rfl [.slice A n c, .int .i64 at0] q1 HP.out Tryz.underlying24 rfl info_ring ?_)
  refine (c_heldRing_sl _ _ _ _ _ _ HG.out HL.out h0 h1).mono ?_; rintro e w1 ⟨rfl, b⟩
  go_wp2_with fail
  go_ret
  exact ⟨rfl, seq_below hb b⟩
end Go.Proofs.YtdhpaglcggeknaaGreatDoor
