/- The law's own helpers over strings. No condition. -/
import Derived.Test.YtpchebclhjgcmaaHb
import Derived.Test.YtpchebclhjgcmaaTe
import Derived.Test.YtpchebclhjgcmaaSv
namespace Go.Fl
open Go.RowKit
section
variable {P : Program} {ops : Array Oper} {rest : List Oper} {o : Oper} {a : Act} {w : World} {K : Act → World → Prop} {Q : Exit → Act → World → Prop}
/-- A part stored: only block g has turned. -/
theorem wpList_store_partK (hgd : o.guard = none) (ty : TypeId) (x y : Operand) (ho : o.op = .store ty x y) (g off : Nat) (hx : a.eval x = .pointer (some ⟨g, off, none⟩)) (part : List Value) (hy : a.eval y = .agg part.toArray) {t : TypeId} {cs : List Value} (hg : w.heap[g]? = some (.cells cs.toArray t)) (hi : (P.info? ty).map (·.size) = some part.length)
    (hfit : Nat.ble (off + part.length) cs.length = true) (h1 : part.all (·.oneCell') = true) (new : List Value) (hnew : over cs off part = new) (h : ∀ w', w.grownBy w' (some g) → w'.heap[g]? = some (.cells new.toArray t) → wpList P ops Q rest (a.put o.dst undef) w') : wpList P ops Q (o :: rest) a w :=
  wpList_store_part hgd ty x y ho g off hx part hy hg hi (Nat.le_of_ble_eq_true hfit) h1 (h _ ⟨rfl, rfl, rfl, by simp, fun k _ hn => setRow_other w g k _ (fun e => hn (by rw [e]))⟩ (by rw [← hnew]; exact setRow_heap w g _ _ t _ hg))
end
end Go.Fl
namespace Go.Proofs.Ytpchebclhjgcmaa
open Go.RowKit Go.Fl
def FilEq (F G : Fil) : Prop := F.k = G.k ∧ cv .f32 F.c0 = cv .f32 G.c0 ∧ cv .f32 F.c1 = cv .f32 G.c1 ∧ cv .f32 F.c2 = cv .f32 G.c2 ∧ cv .f32 F.s0 = cv .f32 G.s0 ∧ cv .f32 F.s1 = cv .f32 G.s1
theorem FilEq.refl (F : Fil) : FilEq F F := ⟨rfl, rfl, rfl, rfl, rfl, rfl⟩
def filZ : Fil := ⟨0, 0, 0, 0, 0, 0⟩
theorem c_eqFil (F G : Fil) (w : World) (h : FilEq F G) : Calls Try.prog 51 #[.agg F.cells.toArray, .agg G.cells.toArray] w fun e w' => e = .returned (.bool true) ∧ Below w.heap.size w w' := by
  obtain ⟨hk, h0, h1, h2, g0, g1⟩ := h
  have e : G.cells.toArray = filt F.k G.c0 G.c1 G.c2 G.s0 G.s1 := by unfold Fil.cells filC; rw [← hk]; rfl
  rw [e]
  exact c_eqFilter F.k F.c0 F.c1 F.c2 F.s0 F.s1 G.c0 G.c1 G.c2 G.s0 G.s1 w h0 h1 h2 g0 g1
theorem c_toFil (F : Fil) (w : World) : Calls Try.prog 46 #[.agg F.cells.toArray] w fun e w' => e = .returned (.agg F.cells.toArray) ∧ Below w.heap.size w w' := c_toFilter F.k F.c0 F.c1 F.c2 F.s0 F.s1 w
theorem info_ringl : (Try.prog.info? 24).map (·.size) = some 2 := by kernel_rfl
theorem info_fill : (Try.prog.info? 29).map (·.size) = some 6 := by kernel_rfl
theorem info_str : (Try.prog.info? 37).map (·.size) = some 15 := by kernel_rfl
theorem info_strl : (Try.prog.info? 31).map (·.size) = some 15 := by kernel_rfl
set_option maxRecDepth 20000 in
set_option maxHeartbeats 2000000 in
theorem c_toString (A : Option Addr) (c : Nat) (xs : List Nat) (at0 : Int) (F G : Fil) (l : Nat) (w : World) (hs : Sl w A xs) (hl : xs.length ≤ 4294967296) :
    Calls Try.prog 12 #[.agg (strC A xs.length c at0 F G l).toArray] w fun e w' => ∃ g, e = .returned (.agg (strC (some ⟨g, 0, none⟩) xs.length xs.length at0 F G l).toArray) ∧ Blk w' g xs 25 ∧ w.heap.size ≤ g ∧ Below w.heap.size w w' := by
  obtain ⟨wa, hwa⟩ : ∃ wa, wa = ((w.alloc (.cells (strC A xs.length c at0 F G l).toArray 31)).alloc (.cells (strC none 0 0 0 filZ filZ 0).toArray 37)).alloc (.cells (strC none 0 0 0 filZ filZ 0).toArray 37) := ⟨_, rfl⟩
  have q1 : Row wa w.heap.size (strC A xs.length c at0 F G l).toArray 31 := by subst hwa; exact ((Row.new _ _ _ _ rfl).alloc _).alloc _
  have q2 : Row wa (w.heap.size + 1) (strC none 0 0 0 filZ filZ 0).toArray 37 := by subst hwa; exact (Row.new _ _ _ _ (by simp)).alloc _
  have q3 : Row wa (w.heap.size + 1 + 1) (strC none 0 0 0 filZ filZ 0).toArray 37 := by subst hwa; exact Row.new _ _ _ _ (by simp)
  have hb : Below w.heap.size w wa := by subst hwa; exact Go.Joins.below_alloc3 _ _ _ _
  have HS := Lib.hid (hs.below hb); have HL := Lib.hid hl
  have hz : (strC none 0 0 0 filZ filZ 0).toArray = #[.slice none 0 0, .int .i64 0, .int .i64 0, .float .f32 0, .float .f32 0, .float .f32 0, .float .f32 0, .float .f32 0, .int .i64 0, .float .f32 0, .float .f32 0, .float .f32 0, .float .f32 0, .float .f32 0, .float .f32 0] := rfl
  rw [hz] at q2 q3 hwa
  clear hz
  have HW := Lib.hid hwa
  clear hs hl hwa
  have HZ := Lib.hid hb.size
  have k14 := q1.cell 14 (.float .f32 l) rfl
  have HT : Hid (((strC A xs.length c at0 F G l).drop 0).take 2 = [.slice A xs.length c, .int .i64 at0] ∧ ((strC A xs.length c at0 F G l).drop 2).take 6 = F.cells ∧ ((strC A xs.length c at0 F G l).drop 8).take 6 = G.cells) := ⟨rfl, rfl, rfl⟩
  have Q14 : Hid (∀ W, Row W w.heap.size (strC A xs.length c at0 F G l).toArray 31 → W.cell? ⟨w.heap.size, 14, none⟩ = some (.float .f32 l)) := fun W h => h.cell 14 _ rfl
  clear k14
  generalize strC A xs.length c at0 F G l = T at *
  go_enter Try.func12, Try.ntmps12
  go_wp2_with (rw [← HW.out]; refine wpList_load_part rfl 24 _ rfl (w.heap.size) 0 rfl [.slice A xs.length c, .int .i64 at0] q1 HT.out.1 Try.underlying24 rfl info_ringl ?_)
  refine (c_toRing _ _ _ _ _ HS.out HL.out).mono ?_; rintro e w1 ⟨g, rfl, hG, hge, b⟩
  have HG : Hid (some g ≠ some (w.heap.size + 1 + 1)) := by
    have := q3.lt
    intro e; cases e; omega
  have HG4 : Hid (g ≠ w.heap.size + 1) := by
    have := q2.lt
    intro e; omega
  have HG2 : Hid (w.heap.size ≤ g) := by have := HZ.out; exact Nat.le_trans this hge
  replace q1 := q1.below b q1.lt; replace q2 := q2.below b q2.lt; replace q3 := q3.below b q3.lt; replace hb := seq_below hb b; replace HZ := Lib.hid hb.size; clear b hge
  go_wp2_with (first | (refine wpList_store_partK rfl 34 _ _ rfl (w.heap.size + 1 + 1) 0 rfl [.slice (some ⟨g, 0, none⟩) xs.length xs.length, .int .i64 at0] rfl q3 info_ring rfl rfl (strC (some ⟨g, 0, none⟩) xs.length xs.length at0 filZ filZ 0) rfl (fun w2 b q3n => ?_); replace q1 := q1.grown b (fun h => by injection h with h; omega); replace q2 := q2.grown b (fun h => by injection h with h; omega); replace hb := hb.trans (below_grownBy b HZ.out (fun k hk => by cases hk; omega)); replace hG := hG.grown b HG.out; clear b q3; have q3 : Row _ (w.heap.size + 1 + 1) _ 37 := q3n; clear q3n) | (refine wpList_load_part rfl 29 _ rfl (w.heap.size) 2 rfl F.cells q1 HT.out.2.1 Try.underlying29 rfl info_fill ?_))
  refine (c_toFil _ _).mono ?_; rintro e w3 ⟨rfl, b⟩
  replace q1 := q1.below b q1.lt; replace q2 := q2.below b q2.lt; replace q3 := q3.below b q3.lt; replace hb := seq_below hb b; replace HZ := Lib.hid hb.size; replace hG := hG.below b hG.lt; clear b
  go_wp2_with (first | (refine wpList_store_partK rfl 35 _ _ rfl (w.heap.size + 1 + 1) 2 rfl F.cells rfl q3 info_filt rfl rfl (strC (some ⟨g, 0, none⟩) xs.length xs.length at0 F filZ 0) rfl (fun w4 b q3n => ?_); replace q1 := q1.grown b (fun h => by injection h with h; omega); replace q2 := q2.grown b (fun h => by injection h with h; omega); replace hb := hb.trans (below_grownBy b HZ.out (fun k hk => by cases hk; omega)); replace hG := hG.grown b HG.out; clear b q3; have q3 : Row _ (w.heap.size + 1 + 1) _ 37 := q3n; clear q3n) | (refine wpList_load_part rfl 29 _ rfl (w.heap.size) 8 rfl G.cells q1 HT.out.2.2 Try.underlying29 rfl info_fill ?_))
  refine (c_toFil _ _).mono ?_; rintro e w5 ⟨rfl, b⟩
  replace q1 := q1.below b q1.lt; replace q2 := q2.below b q2.lt; replace q3 := q3.below b q3.lt; replace hb := seq_below hb b; replace HZ := Lib.hid hb.size; replace hG := hG.below b hG.lt; clear b
  have k14 := Q14.out _ q1
  go_wp2_with (first
    | ((refine wpList_store_partK rfl 35 _ _ rfl (w.heap.size + 1 + 1) 8 rfl G.cells rfl q3 info_filt rfl rfl (strC (some ⟨g, 0, none⟩) xs.length xs.length at0 F G 0) rfl (fun w6 b q3n => ?_); replace q1 := q1.grown b (fun h => by injection h with h; omega); replace q2 := q2.grown b (fun h => by injection h with h; omega); replace hb := hb.trans (below_grownBy b HZ.out (fun k hk => by cases hk; omega)); replace hG := hG.grown b HG.out; clear b q3; have q3 : Row _ (w.heap.size + 1 + 1) _ 37 := q3n; clear q3n); have k14 := Q14.out _ q1; have r14 := q3.cell 14 _ rfl; have z14 := q3.free 14; have q3s : Row _ (w.heap.size + 1 + 1) (strC (some ⟨g, 0, none⟩) xs.length xs.length at0 F G l).toArray 37 := q3.set 14 (.float .f32 l); have q2s := q2.other (b := w.heap.size + 1 + 1) (off := 14) (by omega) (.float .f32 l); have hbs := below_setCell hb (b := w.heap.size + 1 + 1) (off := 14) (by omega) (.float .f32 l); have hGs := hG.other (b := w.heap.size + 1 + 1) (off := 14) (fun e => HG.out (by rw [e])) (.float .f32 l))
    | (refine wpList_load_part rfl 37 _ rfl (w.heap.size + 1 + 1) 0 rfl (strC (some ⟨g, 0, none⟩) xs.length xs.length at0 F G l) q3s rfl Try.underlying37 rfl info_str ?_)
    | (refine wpList_store_part rfl 37 _ _ rfl (w.heap.size + 1) 0 rfl (strC (some ⟨g, 0, none⟩) xs.length xs.length at0 F G l) rfl q2s info_str (Nat.le_of_ble_eq_true rfl) rfl ?_))
  exact bodyPost_ret (results_cells (cs := (strC (some ⟨g, 0, none⟩) xs.length xs.length at0 F G l).toArray) rfl _ _ _ rfl (q2s.row _) Try.underlying37 rfl info_str) rfl ⟨g, rfl, hGs.rowOther HG4.out _, HG2.out, below_setRow hbs (by omega) _⟩
set_option maxRecDepth 20000 in
set_option maxHeartbeats 2000000 in
theorem c_eqString (A B : Option Addr) (c d n : Nat) (xs ys : List Nat) (at0 : Int) (F G F' G' : Fil) (l l' : Nat) (w : World) (hs : Sl w A xs) (ht : Sl w B ys) (hx : xs.length = n) (hy : ys.length = n) (hl2 : (n : Int) ≤ 4294967296) (h : ∀ j, j < n → cv .f32 (nth xs j) = cv .f32 (nth ys j))
    (hF : FilEq F F') (hG : FilEq G G') (hll : cv .f32 l = cv .f32 l') :
    Calls Try.prog 14 #[.agg (strC A n c at0 F G l).toArray, .agg (strC B n d at0 F' G' l').toArray] w fun e w' => e = .returned (.bool true) ∧ Below w.heap.size w w' := by
  have q1 : Row ((w.alloc (.cells (strC A n c at0 F G l).toArray 37)).alloc (.cells (strC B n d at0 F' G' l').toArray 37)) w.heap.size (strC A n c at0 F G l).toArray 37 := (Row.new _ _ _ _ rfl).alloc _
  have q2 : Row ((w.alloc (.cells (strC A n c at0 F G l).toArray 37)).alloc (.cells (strC B n d at0 F' G' l').toArray 37)) (w.heap.size + 1) (strC B n d at0 F' G' l').toArray 37 := Row.new _ _ _ _ (by simp)
  have hb := Go.Joins.below_alloc2 w (.cells (strC A n c at0 F G l).toArray 37) (.cells (strC B n d at0 F' G' l').toArray 37)
  have HS := Lib.hid (hs.below hb); have HT := Lib.hid (ht.below hb); have HX := Lib.hid hx; have HY := Lib.hid hy; have HL := Lib.hid hl2; have HE := Lib.hid h; have HF := Lib.hid hF; have HG := Lib.hid hG; have HLL := Lib.hid hll
  clear hs ht hx hy hl2 h hF hG hll
  have HP : Hid (((strC A n c at0 F G l).drop 0).take 2 = [.slice A n c, .int .i64 at0] ∧ ((strC A n c at0 F G l).drop 2).take 6 = F.cells ∧ ((strC A n c at0 F G l).drop 8).take 6 = G.cells) := ⟨rfl, rfl, rfl⟩
  have HQ : Hid (((strC B n d at0 F' G' l').drop 0).take 2 = [.slice B n d, .int .i64 at0] ∧ ((strC B n d at0 F' G' l').drop 2).take 6 = F'.cells ∧ ((strC B n d at0 F' G' l').drop 8).take 6 = G'.cells) := ⟨rfl, rfl, rfl⟩
  have P14 : Hid (∀ W, Row W w.heap.size (strC A n c at0 F G l).toArray 37 → W.cell? ⟨w.heap.size, 14, none⟩ = some (.float .f32 l)) := fun W h => h.cell 14 _ rfl
  have Q14 : Hid (∀ W, Row W (w.heap.size + 1) (strC B n d at0 F' G' l').toArray 37 → W.cell? ⟨w.heap.size + 1, 14, none⟩ = some (.float .f32 l')) := fun W h => h.cell 14 _ rfl
  generalize strC A n c at0 F G l = T1 at *
  generalize strC B n d at0 F' G' l' = T2 at *
  go_enter Try.func14, Try.ntmps14
  go_wp2_with (first | (refine wpList_load_part rfl 34 _ rfl (w.heap.size) 0 rfl [.slice A n c, .int .i64 at0] q1 HP.out.1 Try.underlying34 rfl info_ring ?_) | (refine wpList_load_part rfl 34 _ rfl (w.heap.size + 1) 0 rfl [.slice B n d, .int .i64 at0] q2 HQ.out.1 Try.underlying34 rfl info_ring ?_))
  refine (c_eqRing_n _ _ _ _ _ _ _ _ _ HS.out HT.out HX.out HY.out HL.out HE.out).mono ?_; rintro e w1 ⟨rfl, b⟩
  replace q1 := q1.below b q1.lt; replace q2 := q2.below b q2.lt; replace hb := seq_below hb b; clear b
  go_wp2_with (first | (refine wpList_load_part rfl 35 _ rfl (w.heap.size) 2 rfl F.cells q1 HP.out.2.1 Try.underlying35 rfl info_filt ?_) | (refine wpList_load_part rfl 35 _ rfl (w.heap.size + 1) 2 rfl F'.cells q2 HQ.out.2.1 Try.underlying35 rfl info_filt ?_))
  refine (c_eqFil _ _ _ HF.out).mono ?_; rintro e w2 ⟨rfl, b⟩
  replace q1 := q1.below b q1.lt; replace q2 := q2.below b q2.lt; replace hb := seq_below hb b; clear b
  go_wp2_with (first | (refine wpList_load_part rfl 35 _ rfl (w.heap.size) 8 rfl G.cells q1 HP.out.2.2 Try.underlying35 rfl info_filt ?_) | (refine wpList_load_part rfl 35 _ rfl (w.heap.size + 1) 8 rfl G'.cells q2 HQ.out.2.2 Try.underlying35 rfl info_filt ?_))
  refine (c_eqFil _ _ _ HG.out).mono ?_; rintro e w3 ⟨rfl, b⟩
  replace q1 := q1.below b q1.lt; replace q2 := q2.below b q2.lt; replace hb := seq_below hb b; clear b
  have p14 := P14.out _ q1; have p15 := Q14.out _ q2
  go_wp2_with fail
  refine (c_same32 _ _ _ _ _ HLL.out).mono ?_; rintro e w4 ⟨rfl, nq, rfl⟩
  go_wp2_with fail
  go_ret
  exact ⟨rfl, by first | exact below_drewN hb _ | exact below_drewN (below_drewN hb _) _⟩
set_option maxRecDepth 20000 in
theorem c_szString (A : Option Addr) (n c : Nat) (at0 : Int) (F G : Fil) (l : Nat) (z : Int) (w : World) (hz : z ≤ 1048576) (hn : (n : Int) ≤ z) : Calls Try.prog 10 #[.agg (strC A n c at0 F G l).toArray, .int .i64 z] w fun e w' => e = .returned (.int .i64 (z - n)) ∧ Below w.heap.size w w' := by
  have q1 : Row (w.alloc (.cells (strC A n c at0 F G l).toArray 31)) w.heap.size (strC A n c at0 F G l).toArray 31 := Row.new _ _ _ _ rfl
  have hb := Go.Joins.below_alloc1 w (.cells (strC A n c at0 F G l).toArray 31)
  have HP : Hid (((strC A n c at0 F G l).drop 0).take 2 = [.slice A n c, .int .i64 at0]) := rfl
  have HZ := Lib.hid hz; have HN := Lib.hid hn
  have hp : ¬ (z - (n : Int) < 0) := by omega
  clear hz hn
  generalize strC A n c at0 F G l = T1 at *
  go_enter Try.func10, Try.ntmps10
  go_wp2_with (refine wpList_load_part rfl 24 _ rfl (w.heap.size) 0 rfl [.slice A n c, .int .i64 at0] q1 HP.out Try.underlying24 rfl info_ringl ?_)
  refine (c_szRingL _ _ _ _ _ _ HZ.out HN.out).mono ?_; rintro e w1 ⟨rfl, b⟩
  go_wp2_with fail
  go_ret
  exact ⟨rfl, seq_below hb b⟩
set_option maxRecDepth 20000 in
theorem c_szString_big (A : Option Addr) (n c : Nat) (at0 : Int) (F G : Fil) (l : Nat) (z : Int) (w : World) (h0 : 0 ≤ z) (hz : z ≤ 1048576) (hn : z < (n : Int)) (hm : (n : Int) ≤ 9223372036854775807) : Calls Try.prog 10 #[.agg (strC A n c at0 F G l).toArray, .int .i64 z] w fun e w' => e = .returned (.int .i64 (-1)) ∧ Below w.heap.size w w' := by
  have q1 : Row (w.alloc (.cells (strC A n c at0 F G l).toArray 31)) w.heap.size (strC A n c at0 F G l).toArray 31 := Row.new _ _ _ _ rfl
  have hb := Go.Joins.below_alloc1 w (.cells (strC A n c at0 F G l).toArray 31)
  have HP : Hid (((strC A n c at0 F G l).drop 0).take 2 = [.slice A n c, .int .i64 at0]) := rfl
  have H0 := Lib.hid h0; have HZ := Lib.hid hz; have HN := Lib.hid hn; have HM := Lib.hid hm
  clear h0 hz hn hm
  generalize strC A n c at0 F G l = T1 at *
  go_enter Try.func10, Try.ntmps10
  go_wp2_with (refine wpList_load_part rfl 24 _ rfl (w.heap.size) 0 rfl [.slice A n c, .int .i64 at0] q1 HP.out Try.underlying24 rfl info_ringl ?_)
  refine (c_szRingL_big _ _ _ _ _ _ H0.out HZ.out HN.out HM.out).mono ?_; rintro e w1 ⟨rfl, b⟩
  go_wp2_with fail
  go_ret
  exact ⟨rfl, seq_below hb b⟩
theorem c_markString (A : Option Addr) (c base n : Nat) (xs : List Nat) (at0 m : Int) (F G : Fil) (l : Nat) (w : World) (h : Own w base A c xs 25) (hn : xs.length = n) (hl : (n : Int) ≤ 4294967296) (h0 : 0 ≤ m) (h1 : m ≤ 4294967296) :
    Calls Try.prog 19 #[.agg (strC A n c at0 F G l).toArray, .int .i64 m] w fun e w' => e = .returned (.int .i64 (m + n)) ∧ Own w' base A c (markL n m) 25 ∧ w.grownBy w' (ownBlk A) := by
  have q1 : Row (w.alloc (.cells (strC A n c at0 F G l).toArray 37)) w.heap.size (strC A n c at0 F G l).toArray 37 := Row.new _ _ _ _ rfl
  have HP : Hid (((strC A n c at0 F G l).drop 0).take 2 = [.slice A n c, .int .i64 at0]) := rfl
  have HG := Lib.hid (World.grownBy_alloc w (.cells (strC A n c at0 F G l).toArray 37) (ownBlk A))
  have HA := Lib.hid (h.kept (World.grownBy_alloc w (.cells (strC A n c at0 F G l).toArray 37) none) (fun k hk => by simp))
  have HN := Lib.hid hn; have HL := Lib.hid hl
  clear h hn hl
  generalize strC A n c at0 F G l = T1 at *
  go_enter Try.func19, Try.ntmps19
  go_wp2_with (refine wpList_load_part rfl 34 _ rfl (w.heap.size) 0 rfl [.slice A n c, .int .i64 at0] q1 HP.out Try.underlying34 rfl info_ring ?_)
  refine (c_markRing_own_n _ _ _ _ _ _ _ _ HA.out HN.out HL.out h0 h1).mono ?_; rintro e w1 ⟨rfl, h2, b'⟩; have b := Lib.hid b'; clear b'
  go_wp2_with fail
  go_ret
  exact ⟨rfl, h2, grownBy_trans HG.out b.out⟩
theorem c_heldString (A : Option Addr) (c n : Nat) (at0 m : Int) (F G : Fil) (l : Nat) (w : World) (hg : Sl w A (markL n m)) (hl : (n : Int) ≤ 4294967296) (h0 : 0 ≤ m) (h1 : m ≤ 4294967296) :
    Calls Try.prog 20 #[.agg (strC A n c at0 F G l).toArray, .int .i64 m] w fun e w' => e = .returned (.int .i64 (m + n)) ∧ Below w.heap.size w w' := by
  have q1 : Row (w.alloc (.cells (strC A n c at0 F G l).toArray 37)) w.heap.size (strC A n c at0 F G l).toArray 37 := Row.new _ _ _ _ rfl
  have hb := Go.Joins.below_alloc1 w (.cells (strC A n c at0 F G l).toArray 37)
  have HP : Hid (((strC A n c at0 F G l).drop 0).take 2 = [.slice A n c, .int .i64 at0]) := rfl
  have HG := Lib.hid (hg.below hb); have HL := Lib.hid hl
  have hp : ¬ (m + (n : Int) < 0) := by omega
  clear hg hl
  generalize strC A n c at0 F G l = T1 at *
  go_enter Try.func20, Try.ntmps20
  go_wp2_with (refine wpList_load_part rfl 34 _ rfl (w.heap.size) 0 rfl [.slice A n c, .int .i64 at0] q1 HP.out Try.underlying34 rfl info_ring ?_)
  refine (c_heldRing_sl _ _ _ _ _ _ HG.out HL.out h0 h1).mono ?_; rintro e w1 ⟨rfl, b⟩
  go_wp2_with fail
  go_ret
  exact ⟨rfl, seq_below hb b⟩
end Go.Proofs.Ytpchebclhjgcmaa
