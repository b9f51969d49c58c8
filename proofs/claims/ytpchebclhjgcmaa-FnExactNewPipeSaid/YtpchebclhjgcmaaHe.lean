/- Strings told the same, strings that are valid. Written by gensstr.py. No condition. -/
import Derived.Test.YtpchebclhjgcmaaHc
import Derived.Test.YtpchebclhjgcmaaHd
namespace Go.Fl
open Go.RowKit
theorem wpList_load_partG {P : Program} {ops : Array Oper} {rest : List Oper} {o : Oper} {a : Act} {w : World} {Q : Exit → Act → World → Prop} (hgd : Region.wanted o (yielded ops a.tmps) = true) (ty : TypeId) (x : Operand) (ho : o.op = .load ty x) (g off : Nat) (hx : a.eval x = .pointer (some ⟨g, off, none⟩)) {t : TypeId} {cs : List Value} (part : List Value) {d : TypeDesc} (hg : w.heap[g]? = some (.cells cs.toArray t)) (hp : (cs.drop off).take part.length = part)
    (hu : P.underlying ty = some d) (hd : (match d with | .struct _ | .array _ _ => true | _ => false) = true) (hi : (P.info? ty).map (·.size) = some part.length)
    (h : wpList P ops Q rest (a.put o.dst (.agg part.toArray)) w) : wpList P ops Q (o :: rest) a w :=
  wpList_step fun K hK => by
    rw [if_pos hgd]
    exact wp_load_part ty x ho g off hx part hg hp hu hd hi (hK _ _ h)
end Go.Fl
namespace Go.Proofs.Ytpchebclhjgcmaa
open Go.RowKit Go.Fl
theorem strC_p0 (A : Option Addr) (n c : Nat) (at0 : Int) (F G : Fil) (l : Nat) : ((strC A n c at0 F G l).drop 0).take 2 = [.slice A n c, .int .i64 at0] := rfl
theorem strC_p2 (A : Option Addr) (n c : Nat) (at0 : Int) (F G : Fil) (l : Nat) : ((strC A n c at0 F G l).drop 2).take 6 = F.cells := rfl
theorem strC_p8 (A : Option Addr) (n c : Nat) (at0 : Int) (F G : Fil) (l : Nat) : ((strC A n c at0 F G l).drop 8).take 6 = G.cells := rfl
def ssB (xs ys : List Nat) (a b : Int) (F F' G G' : Fil) (l l' : Nat) : Bool := srB xs ys a b && (sfF F F' && (sfF G G' && sameB l l'))
theorem c_iSameFil (F G : Fil) (v : Bool) (w : World) (hv : sfF F G = v) : Calls Try.prog 48 #[.agg F.cells.toArray, .agg G.cells.toArray] w fun e w' => e = .returned (.bool v) ∧ Below w.heap.size w w' := by
  subst hv; exact c_iSameFilter F.k G.k F.c0 F.c1 F.c2 F.s0 F.s1 G.c0 G.c1 G.c2 G.s0 G.s1 w
set_option maxRecDepth 20000 in
set_option maxHeartbeats 2000000 in
theorem c_iSameString (A B : Option Addr) (c d : Nat) (xs ys : List Nat) (a0 b0 : Int) (F G F' G' : Fil) (l l' : Nat) (w : World) (hs : Sl w A xs) (ht : Sl w B ys) (hl : (xs.length : Int) ≤ 4294967296) :
    Calls Try.prog 13 #[.agg (strC A xs.length c a0 F G l).toArray, .agg (strC B ys.length d b0 F' G' l').toArray] w fun e w' => e = .returned (.bool (ssB xs ys a0 b0 F F' G G' l l')) ∧ Below w.heap.size w w' := by
  have q1 : Row ((w.alloc (.cells (strC A xs.length c a0 F G l).toArray 37)).alloc (.cells (strC B ys.length d b0 F' G' l').toArray 37)) w.heap.size (strC A xs.length c a0 F G l).toArray 37 := (Row.new _ _ _ _ rfl).alloc _
  have q2 : Row ((w.alloc (.cells (strC A xs.length c a0 F G l).toArray 37)).alloc (.cells (strC B ys.length d b0 F' G' l').toArray 37)) (w.heap.size + 1) (strC B ys.length d b0 F' G' l').toArray 37 := Row.new _ _ _ _ (by simp)
  have hb := Go.Joins.below_alloc2 w (.cells (strC A xs.length c a0 F G l).toArray 37) (.cells (strC B ys.length d b0 F' G' l').toArray 37)
  have HS := Lib.hid (hs.below hb); have HT := Lib.hid (ht.below hb); have HL := Lib.hid hl; clear hs ht hl
  have HP0 := Lib.hid (strC_p0 A xs.length c a0 F G l); have HP2 := Lib.hid (strC_p2 A xs.length c a0 F G l); have HP8 := Lib.hid (strC_p8 A xs.length c a0 F G l)
  have HQ0 := Lib.hid (strC_p0 B ys.length d b0 F' G' l'); have HQ2 := Lib.hid (strC_p2 B ys.length d b0 F' G' l'); have HQ8 := Lib.hid (strC_p8 B ys.length d b0 F' G' l')
  have P14 : Hid (∀ W, Row W w.heap.size (strC A xs.length c a0 F G l).toArray 37 → W.cell? ⟨w.heap.size, 14, none⟩ = some (.float .f32 l)) := fun W h => h.cell 14 _ rfl
  have Q14 : Hid (∀ W, Row W (w.heap.size + 1) (strC B ys.length d b0 F' G' l').toArray 37 → W.cell? ⟨w.heap.size + 1, 14, none⟩ = some (.float .f32 l')) := fun W h => h.cell 14 _ rfl
  have PF2 : Hid (∀ W, Row W w.heap.size (strC A xs.length c a0 F G l).toArray 37 → FilAt W w.heap.size 2 F) := fun W h => filAt_2 h
  have PF8 : Hid (∀ W, Row W w.heap.size (strC A xs.length c a0 F G l).toArray 37 → FilAt W w.heap.size 8 G) := fun W h => filAt_8 h
  have QF2 : Hid (∀ W, Row W (w.heap.size + 1) (strC B ys.length d b0 F' G' l').toArray 37 → FilAt W (w.heap.size + 1) 2 F') := fun W h => filAt_2 h
  have QF8 : Hid (∀ W, Row W (w.heap.size + 1) (strC B ys.length d b0 F' G' l').toArray 37 → FilAt W (w.heap.size + 1) 8 G') := fun W h => filAt_8 h
  generalize strC A xs.length c a0 F G l = T1 at *
  generalize strC B ys.length d b0 F' G' l' = T2 at *
  have HR := Lib.hid (show (srB xs ys a0 b0 && (sfF F F' && (sfF G G' && sameB l l'))) = ssB xs ys a0 b0 F F' G G' l l' from rfl)
  cases v1 : srB xs ys a0 b0
  · rw [v1, Bool.false_and] at HR
    have V1 := Lib.hid v1; clear v1
    go_enter Try.func13, Try.ntmps13
    go_wp2_with (first | (refine wpList_load_part rfl 34 _ rfl (w.heap.size) 0 rfl [.slice A xs.length c, .int .i64 a0] q1 HP0.out Try.underlying34 rfl info_ring ?_) | (refine wpList_load_part rfl 34 _ rfl (w.heap.size + 1) 0 rfl [.slice B ys.length d, .int .i64 b0] q2 HQ0.out Try.underlying34 rfl info_ring ?_))
    refine (c_iSameRing _ _ _ _ _ _ _ _ _ HS.out HT.out HL.out).mono ?_; rintro e w1 ⟨rfl, b⟩; rw [V1.out]; replace q1 := q1.below b q1.lt; replace q2 := q2.below b q2.lt; replace hb := seq_below hb b; clear b
    go_wp2_with fail
    go_ret
    exact ⟨ret_boolx HR.out, hb⟩
  rw [v1, Bool.true_and] at HR
  have V1 := Lib.hid v1; clear v1
  cases v2 : sfF F F'
  · rw [v2, Bool.false_and] at HR
    have V2 := Lib.hid v2; clear v2
    go_enter Try.func13, Try.ntmps13
    go_wp2_with (first | (refine wpList_load_part rfl 34 _ rfl (w.heap.size) 0 rfl [.slice A xs.length c, .int .i64 a0] q1 HP0.out Try.underlying34 rfl info_ring ?_) | (refine wpList_load_part rfl 34 _ rfl (w.heap.size + 1) 0 rfl [.slice B ys.length d, .int .i64 b0] q2 HQ0.out Try.underlying34 rfl info_ring ?_))
    refine (c_iSameRing _ _ _ _ _ _ _ _ _ HS.out HT.out HL.out).mono ?_; rintro e w1 ⟨rfl, b⟩; rw [V1.out]; replace q1 := q1.below b q1.lt; replace q2 := q2.below b q2.lt; replace hb := seq_below hb b; clear b
    go_wp2_with (first | (refine wpList_load_partG rfl 35 _ rfl (w.heap.size) 2 rfl F.cells q1 HP2.out Try.underlying35 rfl info_filt ?_) | (refine wpList_load_partG rfl 35 _ rfl (w.heap.size + 1) 2 rfl F'.cells q2 HQ2.out Try.underlying35 rfl info_filt ?_))
    refine (c_iSameFil _ _ _ _ V2.out).mono ?_; rintro e w2 ⟨rfl, b⟩; replace q1 := q1.below b q1.lt; replace q2 := q2.below b q2.lt; replace hb := seq_below hb b; clear b
    go_wp2_with fail
    go_ret
    exact ⟨ret_boolx HR.out, hb⟩
  rw [v2, Bool.true_and] at HR
  have V2 := Lib.hid v2; clear v2
  cases v3 : sfF G G'
  · rw [v3, Bool.false_and] at HR
    have V3 := Lib.hid v3; clear v3
    go_enter Try.func13, Try.ntmps13
    go_wp2_with (first | (refine wpList_load_part rfl 34 _ rfl (w.heap.size) 0 rfl [.slice A xs.length c, .int .i64 a0] q1 HP0.out Try.underlying34 rfl info_ring ?_) | (refine wpList_load_part rfl 34 _ rfl (w.heap.size + 1) 0 rfl [.slice B ys.length d, .int .i64 b0] q2 HQ0.out Try.underlying34 rfl info_ring ?_))
    refine (c_iSameRing _ _ _ _ _ _ _ _ _ HS.out HT.out HL.out).mono ?_; rintro e w1 ⟨rfl, b⟩; rw [V1.out]; replace q1 := q1.below b q1.lt; replace q2 := q2.below b q2.lt; replace hb := seq_below hb b; clear b
    go_wp2_with (first | (refine wpList_load_partG rfl 35 _ rfl (w.heap.size) 2 rfl F.cells q1 HP2.out Try.underlying35 rfl info_filt ?_) | (refine wpList_load_partG rfl 35 _ rfl (w.heap.size + 1) 2 rfl F'.cells q2 HQ2.out Try.underlying35 rfl info_filt ?_))
    refine (c_iSameFil _ _ _ _ V2.out).mono ?_; rintro e w2 ⟨rfl, b⟩; replace q1 := q1.below b q1.lt; replace q2 := q2.below b q2.lt; replace hb := seq_below hb b; clear b
    go_wp2_with (first | (refine wpList_load_partG rfl 35 _ rfl (w.heap.size) 8 rfl G.cells q1 HP8.out Try.underlying35 rfl info_filt ?_) | (refine wpList_load_partG rfl 35 _ rfl (w.heap.size + 1) 8 rfl G'.cells q2 HQ8.out Try.underlying35 rfl info_filt ?_))
    refine (c_iSameFil _ _ _ _ V3.out).mono ?_; rintro e w3 ⟨rfl, b⟩; replace q1 := q1.below b q1.lt; replace q2 := q2.below b q2.lt; replace hb := seq_below hb b; clear b
    go_wp2_with fail
    go_ret
    exact ⟨ret_boolx HR.out, hb⟩
  rw [v3, Bool.true_and] at HR
  have V3 := Lib.hid v3; clear v3
  go_enter Try.func13, Try.ntmps13
  go_wp2_with (first | (refine wpList_load_part rfl 34 _ rfl (w.heap.size) 0 rfl [.slice A xs.length c, .int .i64 a0] q1 HP0.out Try.underlying34 rfl info_ring ?_) | (refine wpList_load_part rfl 34 _ rfl (w.heap.size + 1) 0 rfl [.slice B ys.length d, .int .i64 b0] q2 HQ0.out Try.underlying34 rfl info_ring ?_))
  refine (c_iSameRing _ _ _ _ _ _ _ _ _ HS.out HT.out HL.out).mono ?_; rintro e w1 ⟨rfl, b⟩; rw [V1.out]; replace q1 := q1.below b q1.lt; replace q2 := q2.below b q2.lt; replace hb := seq_below hb b; clear b
  go_wp2_with (first | (refine wpList_load_partG rfl 35 _ rfl (w.heap.size) 2 rfl F.cells q1 HP2.out Try.underlying35 rfl info_filt ?_) | (refine wpList_load_partG rfl 35 _ rfl (w.heap.size + 1) 2 rfl F'.cells q2 HQ2.out Try.underlying35 rfl info_filt ?_))
  refine (c_iSameFil _ _ _ _ V2.out).mono ?_; rintro e w2 ⟨rfl, b⟩; replace q1 := q1.below b q1.lt; replace q2 := q2.below b q2.lt; replace hb := seq_below hb b; clear b
  go_wp2_with (first | (refine wpList_load_partG rfl 35 _ rfl (w.heap.size) 8 rfl G.cells q1 HP8.out Try.underlying35 rfl info_filt ?_) | (refine wpList_load_partG rfl 35 _ rfl (w.heap.size + 1) 8 rfl G'.cells q2 HQ8.out Try.underlying35 rfl info_filt ?_))
  refine (c_iSameFil _ _ _ _ V3.out).mono ?_; rintro e w3 ⟨rfl, b⟩; replace q1 := q1.below b q1.lt; replace q2 := q2.below b q2.lt; replace hb := seq_below hb b; clear b
  have p14 := P14.out _ q1; have p15 := Q14.out _ q2
  go_wp2_with fail
  refine (c_SameSample _ _ _).mono ?_; rintro e w4 ⟨rfl, hww⟩; obtain rfl := hww.symm
  go_wp2_with fail
  go_ret
  exact ⟨ret_boolx HR.out, hb⟩
set_option maxRecDepth 20000 in
set_option maxHeartbeats 2000000 in
theorem c_sSameString (A B : Option Addr) (c d : Nat) (xs ys : List Nat) (a0 b0 : Int) (F G F' G' : Fil) (l l' : Nat) (w : World) (hs : Sl w A xs) (ht : Sl w B ys) (hl : (xs.length : Int) ≤ 4294967296) :
    Calls Try.prog 11 #[.agg (strC A xs.length c a0 F G l).toArray, .agg (strC B ys.length d b0 F' G' l').toArray] w fun e w' => e = .returned (.bool (ssB xs ys a0 b0 F F' G G' l l')) ∧ Below w.heap.size w w' := by
  have q1 : Row ((w.alloc (.cells (strC A xs.length c a0 F G l).toArray 37)).alloc (.cells (strC B ys.length d b0 F' G' l').toArray 37)) w.heap.size (strC A xs.length c a0 F G l).toArray 37 := (Row.new _ _ _ _ rfl).alloc _
  have q2 : Row ((w.alloc (.cells (strC A xs.length c a0 F G l).toArray 37)).alloc (.cells (strC B ys.length d b0 F' G' l').toArray 37)) (w.heap.size + 1) (strC B ys.length d b0 F' G' l').toArray 37 := Row.new _ _ _ _ (by simp)
  have hb := Go.Joins.below_alloc2 w (.cells (strC A xs.length c a0 F G l).toArray 37) (.cells (strC B ys.length d b0 F' G' l').toArray 37)
  have HS := Lib.hid (hs.below hb); have HT := Lib.hid (ht.below hb); have HL := Lib.hid hl; clear hs ht hl
  have HP0 := Lib.hid (strC_p0 A xs.length c a0 F G l); have HP2 := Lib.hid (strC_p2 A xs.length c a0 F G l); have HP8 := Lib.hid (strC_p8 A xs.length c a0 F G l)
  have HQ0 := Lib.hid (strC_p0 B ys.length d b0 F' G' l'); have HQ2 := Lib.hid (strC_p2 B ys.length d b0 F' G' l'); have HQ8 := Lib.hid (strC_p8 B ys.length d b0 F' G' l')
  have P14 : Hid (∀ W, Row W w.heap.size (strC A xs.length c a0 F G l).toArray 37 → W.cell? ⟨w.heap.size, 14, none⟩ = some (.float .f32 l)) := fun W h => h.cell 14 _ rfl
  have Q14 : Hid (∀ W, Row W (w.heap.size + 1) (strC B ys.length d b0 F' G' l').toArray 37 → W.cell? ⟨w.heap.size + 1, 14, none⟩ = some (.float .f32 l')) := fun W h => h.cell 14 _ rfl
  have PF2 : Hid (∀ W, Row W w.heap.size (strC A xs.length c a0 F G l).toArray 37 → FilAt W w.heap.size 2 F) := fun W h => filAt_2 h
  have PF8 : Hid (∀ W, Row W w.heap.size (strC A xs.length c a0 F G l).toArray 37 → FilAt W w.heap.size 8 G) := fun W h => filAt_8 h
  have QF2 : Hid (∀ W, Row W (w.heap.size + 1) (strC B ys.length d b0 F' G' l').toArray 37 → FilAt W (w.heap.size + 1) 2 F') := fun W h => filAt_2 h
  have QF8 : Hid (∀ W, Row W (w.heap.size + 1) (strC B ys.length d b0 F' G' l').toArray 37 → FilAt W (w.heap.size + 1) 8 G') := fun W h => filAt_8 h
  generalize strC A xs.length c a0 F G l = T1 at *
  generalize strC B ys.length d b0 F' G' l' = T2 at *
  have HR := Lib.hid (show (srB xs ys a0 b0 && (sfF F F' && (sfF G G' && sameB l l'))) = ssB xs ys a0 b0 F F' G G' l l' from rfl)
  cases v1 : srB xs ys a0 b0
  · rw [v1, Bool.false_and] at HR
    have V1 := Lib.hid v1; clear v1
    go_enter Try.func11, Try.ntmps11
    go_wp2_with (first | (refine wpList_load_part rfl 34 _ rfl (w.heap.size) 0 rfl [.slice A xs.length c, .int .i64 a0] q1 HP0.out Try.underlying34 rfl info_ring ?_) | (refine wpList_load_part rfl 34 _ rfl (w.heap.size + 1) 0 rfl [.slice B ys.length d, .int .i64 b0] q2 HQ0.out Try.underlying34 rfl info_ring ?_))
    refine (c_sSameRing _ _ _ _ _ _ _ _ _ HS.out HT.out HL.out).mono ?_; rintro e w1 ⟨rfl, b⟩; rw [V1.out]; replace q1 := q1.below b q1.lt; replace q2 := q2.below b q2.lt; replace hb := seq_below hb b; clear b
    go_wp2_with fail
    go_ret
    exact ⟨ret_boolx HR.out, hb⟩
  rw [v1, Bool.true_and] at HR
  have V1 := Lib.hid v1; clear v1
  cases v2 : sfF F F'
  · rw [v2, Bool.false_and] at HR
    have V2 := Lib.hid v2; clear v2
    go_enter Try.func11, Try.ntmps11
    go_wp2_with (first | (refine wpList_load_part rfl 34 _ rfl (w.heap.size) 0 rfl [.slice A xs.length c, .int .i64 a0] q1 HP0.out Try.underlying34 rfl info_ring ?_) | (refine wpList_load_part rfl 34 _ rfl (w.heap.size + 1) 0 rfl [.slice B ys.length d, .int .i64 b0] q2 HQ0.out Try.underlying34 rfl info_ring ?_))
    refine (c_sSameRing _ _ _ _ _ _ _ _ _ HS.out HT.out HL.out).mono ?_; rintro e w1 ⟨rfl, b⟩; rw [V1.out]; replace q1 := q1.below b q1.lt; replace q2 := q2.below b q2.lt; replace hb := seq_below hb b; clear b
    go_wp2_with fail
    refine (c_sL02Same_2 _ _ _ _ _ (PF2.out _ q1) (QF2.out _ q2)).mono ?_; rintro e w2 ⟨rfl, b⟩; rw [V2.out]; replace q1 := q1.below b q1.lt; replace q2 := q2.below b q2.lt; replace hb := seq_below hb b; clear b
    go_wp2_with fail
    go_ret
    exact ⟨ret_boolx HR.out, hb⟩
  rw [v2, Bool.true_and] at HR
  have V2 := Lib.hid v2; clear v2
  cases v3 : sfF G G'
  · rw [v3, Bool.false_and] at HR
    have V3 := Lib.hid v3; clear v3
    go_enter Try.func11, Try.ntmps11
    go_wp2_with (first | (refine wpList_load_part rfl 34 _ rfl (w.heap.size) 0 rfl [.slice A xs.length c, .int .i64 a0] q1 HP0.out Try.underlying34 rfl info_ring ?_) | (refine wpList_load_part rfl 34 _ rfl (w.heap.size + 1) 0 rfl [.slice B ys.length d, .int .i64 b0] q2 HQ0.out Try.underlying34 rfl info_ring ?_))
    refine (c_sSameRing _ _ _ _ _ _ _ _ _ HS.out HT.out HL.out).mono ?_; rintro e w1 ⟨rfl, b⟩; rw [V1.out]; replace q1 := q1.below b q1.lt; replace q2 := q2.below b q2.lt; replace hb := seq_below hb b; clear b
    go_wp2_with fail
    refine (c_sL02Same_2 _ _ _ _ _ (PF2.out _ q1) (QF2.out _ q2)).mono ?_; rintro e w2 ⟨rfl, b⟩; rw [V2.out]; replace q1 := q1.below b q1.lt; replace q2 := q2.below b q2.lt; replace hb := seq_below hb b; clear b
    go_wp2_with fail
    refine (c_sL02Same_8 _ _ _ _ _ (PF8.out _ q1) (QF8.out _ q2)).mono ?_; rintro e w3 ⟨rfl, b⟩; rw [V3.out]; replace q1 := q1.below b q1.lt; replace q2 := q2.below b q2.lt; replace hb := seq_below hb b; clear b
    go_wp2_with fail
    go_ret
    exact ⟨ret_boolx HR.out, hb⟩
  rw [v3, Bool.true_and] at HR
  have V3 := Lib.hid v3; clear v3
  go_enter Try.func11, Try.ntmps11
  go_wp2_with (first | (refine wpList_load_part rfl 34 _ rfl (w.heap.size) 0 rfl [.slice A xs.length c, .int .i64 a0] q1 HP0.out Try.underlying34 rfl info_ring ?_) | (refine wpList_load_part rfl 34 _ rfl (w.heap.size + 1) 0 rfl [.slice B ys.length d, .int .i64 b0] q2 HQ0.out Try.underlying34 rfl info_ring ?_))
  refine (c_sSameRing _ _ _ _ _ _ _ _ _ HS.out HT.out HL.out).mono ?_; rintro e w1 ⟨rfl, b⟩; rw [V1.out]; replace q1 := q1.below b q1.lt; replace q2 := q2.below b q2.lt; replace hb := seq_below hb b; clear b
  go_wp2_with fail
  refine (c_sL02Same_2 _ _ _ _ _ (PF2.out _ q1) (QF2.out _ q2)).mono ?_; rintro e w2 ⟨rfl, b⟩; rw [V2.out]; replace q1 := q1.below b q1.lt; replace q2 := q2.below b q2.lt; replace hb := seq_below hb b; clear b
  go_wp2_with fail
  refine (c_sL02Same_8 _ _ _ _ _ (PF8.out _ q1) (QF8.out _ q2)).mono ?_; rintro e w3 ⟨rfl, b⟩; rw [V3.out]; replace q1 := q1.below b q1.lt; replace q2 := q2.below b q2.lt; replace hb := seq_below hb b; clear b
  have p14 := P14.out _ q1; have p15 := Q14.out _ q2
  go_wp2_with fail
  refine (c_l01Same _ _ _).mono ?_; rintro e w4 ⟨rfl, hww⟩; obtain rfl := hww.symm
  go_wp2_with fail
  go_ret
  exact ⟨ret_boolx HR.out, hb⟩
def vsB (n : Nat) (a : Int) (F G : Fil) (l : Nat) : Bool := ringOk n a && ((okFil F && F.k == 3) && ((okFil G && G.k == 2) && finB l))
set_option maxRecDepth 20000 in
theorem c_isFilter (F : Fil) (k : Int) (v : Bool) (w : World) (hv : (okFil F && F.k == k) = v) : Calls Try.prog 54 #[.agg F.cells.toArray, .int .i64 k] w fun e w' => e = .returned (.bool v) ∧ Below w.heap.size w w' := by
  have q1 : Row (w.alloc (.cells F.cells.toArray 35)) w.heap.size F.cells.toArray 35 := Row.new _ _ _ _ rfl
  have hb := Go.Joins.below_alloc1 w (.cells F.cells.toArray 35)
  have P0 : Hid (∀ W, Row W w.heap.size F.cells.toArray 35 → W.cell? ⟨w.heap.size, 0, none⟩ = some (.int .i64 F.k)) := fun W h => h.cell 0 _ rfl
  have HP : Hid ((F.cells.drop 0).take F.cells.length = F.cells) := rfl
  have HI : Hid ((Try.prog.info? 35).map (·.size) = some F.cells.length) := info_filt
  have CV := Lib.hid (fun W => show Calls Try.prog 96 #[.agg F.cells.toArray] W fun e w' => e = .returned (.bool (okFil F)) ∧ Below W.heap.size W w' from c_iValidFilter F.k F.c0 F.c1 F.c2 F.s0 F.s1 W)
  have HV := Lib.hid hv; clear hv
  generalize F.cells = T at *
  generalize F.k = k' at *
  cases v1 : okFil F
  · rw [v1] at CV HV
    go_enter Try.func54, Try.ntmps54
    go_wp2_with (refine wpList_load_part rfl 35 _ rfl (w.heap.size) 0 rfl T q1 HP.out Try.underlying35 rfl HI.out ?_)
    refine (CV.out _).mono ?_; rintro e w1 ⟨rfl, b⟩
    go_wp2_with fail
    go_ret
    exact ⟨ret_boolx HV.out, seq_below hb b⟩
  · rw [v1, Bool.true_and] at HV
    rw [v1] at CV
    go_enter Try.func54, Try.ntmps54
    go_wp2_with (refine wpList_load_part rfl 35 _ rfl (w.heap.size) 0 rfl T q1 HP.out Try.underlying35 rfl HI.out ?_)
    refine (CV.out _).mono ?_; rintro e w1 ⟨rfl, b⟩
    have p0 := P0.out _ (q1.below b q1.lt)
    go_wp2_with fail
    go_ret
    exact ⟨ret_boolx HV.out, seq_below hb b⟩
set_option maxRecDepth 20000 in
set_option maxHeartbeats 2000000 in
theorem c_iValidString (A : Option Addr) (n c : Nat) (a0 : Int) (F G : Fil) (l : Nat) (w : World) (hn : (n : Int) ≤ 4294967296) :
    Calls Try.prog 16 #[.agg (strC A n c a0 F G l).toArray] w fun e w' => e = .returned (.bool (vsB n a0 F G l)) ∧ Below w.heap.size w w' := by
  have q1 : Row (w.alloc (.cells (strC A n c a0 F G l).toArray 37)) w.heap.size (strC A n c a0 F G l).toArray 37 := Row.new _ _ _ _ rfl
  have hb := Go.Joins.below_alloc1 w (.cells (strC A n c a0 F G l).toArray 37)
  have HP0 := Lib.hid (strC_p0 A n c a0 F G l); have HP2 := Lib.hid (strC_p2 A n c a0 F G l); have HP8 := Lib.hid (strC_p8 A n c a0 F G l)
  have P14 : Hid (∀ W, Row W w.heap.size (strC A n c a0 F G l).toArray 37 → W.cell? ⟨w.heap.size, 14, none⟩ = some (.float .f32 l)) := fun W h => h.cell 14 _ rfl
  have HN := Lib.hid hn; clear hn
  generalize strC A n c a0 F G l = T1 at *
  have HR := Lib.hid (show (ringOk n a0 && ((okFil F && F.k == 3) && ((okFil G && G.k == 2) && finB l))) = vsB n a0 F G l from rfl)
  cases v1 : ringOk n a0
  · rw [v1, Bool.false_and] at HR
    have V1 := Lib.hid v1; clear v1
    go_enter Try.func16, Try.ntmps16
    go_wp2_with (refine wpList_load_part rfl 34 _ rfl (w.heap.size) 0 rfl [.slice A n c, .int .i64 a0] q1 HP0.out Try.underlying34 rfl info_ring ?_)
    refine (c_iValidRing _ _ _ _ _ HN.out).mono ?_; rintro e w1 ⟨rfl, b⟩; rw [V1.out]; replace q1 := q1.below b q1.lt; replace hb := seq_below hb b; clear b
    go_wp2_with fail
    go_ret
    exact ⟨ret_boolx HR.out, by first | exact hb | exact below_drewN hb _⟩
  rw [v1, Bool.true_and] at HR
  have V1 := Lib.hid v1; clear v1
  cases v2 : (okFil F && F.k == 3)
  · rw [v2, Bool.false_and] at HR
    have V2 := Lib.hid v2; clear v2
    go_enter Try.func16, Try.ntmps16
    go_wp2_with (refine wpList_load_part rfl 34 _ rfl (w.heap.size) 0 rfl [.slice A n c, .int .i64 a0] q1 HP0.out Try.underlying34 rfl info_ring ?_)
    refine (c_iValidRing _ _ _ _ _ HN.out).mono ?_; rintro e w1 ⟨rfl, b⟩; rw [V1.out]; replace q1 := q1.below b q1.lt; replace hb := seq_below hb b; clear b
    go_wp2_with (refine wpList_load_partG rfl 35 _ rfl (w.heap.size) 2 rfl F.cells q1 HP2.out Try.underlying35 rfl info_filt ?_)
    refine (c_isFilter _ _ _ _ V2.out).mono ?_; rintro e w2 ⟨rfl, b⟩; replace q1 := q1.below b q1.lt; replace hb := seq_below hb b; clear b
    go_wp2_with fail
    go_ret
    exact ⟨ret_boolx HR.out, by first | exact hb | exact below_drewN hb _⟩
  rw [v2, Bool.true_and] at HR
  have V2 := Lib.hid v2; clear v2
  cases v3 : (okFil G && G.k == 2)
  · rw [v3, Bool.false_and] at HR
    have V3 := Lib.hid v3; clear v3
    go_enter Try.func16, Try.ntmps16
    go_wp2_with (refine wpList_load_part rfl 34 _ rfl (w.heap.size) 0 rfl [.slice A n c, .int .i64 a0] q1 HP0.out Try.underlying34 rfl info_ring ?_)
    refine (c_iValidRing _ _ _ _ _ HN.out).mono ?_; rintro e w1 ⟨rfl, b⟩; rw [V1.out]; replace q1 := q1.below b q1.lt; replace hb := seq_below hb b; clear b
    go_wp2_with (refine wpList_load_partG rfl 35 _ rfl (w.heap.size) 2 rfl F.cells q1 HP2.out Try.underlying35 rfl info_filt ?_)
    refine (c_isFilter _ _ _ _ V2.out).mono ?_; rintro e w2 ⟨rfl, b⟩; replace q1 := q1.below b q1.lt; replace hb := seq_below hb b; clear b
    go_wp2_with (refine wpList_load_partG rfl 35 _ rfl (w.heap.size) 8 rfl G.cells q1 HP8.out Try.underlying35 rfl info_filt ?_)
    refine (c_isFilter _ _ _ _ V3.out).mono ?_; rintro e w3 ⟨rfl, b⟩; replace q1 := q1.below b q1.lt; replace hb := seq_below hb b; clear b
    go_wp2_with fail
    go_ret
    exact ⟨ret_boolx HR.out, by first | exact hb | exact below_drewN hb _⟩
  rw [v3, Bool.true_and] at HR
  have V3 := Lib.hid v3; clear v3
  go_enter Try.func16, Try.ntmps16
  go_wp2_with (refine wpList_load_part rfl 34 _ rfl (w.heap.size) 0 rfl [.slice A n c, .int .i64 a0] q1 HP0.out Try.underlying34 rfl info_ring ?_)
  refine (c_iValidRing _ _ _ _ _ HN.out).mono ?_; rintro e w1 ⟨rfl, b⟩; rw [V1.out]; replace q1 := q1.below b q1.lt; replace hb := seq_below hb b; clear b
  go_wp2_with (refine wpList_load_partG rfl 35 _ rfl (w.heap.size) 2 rfl F.cells q1 HP2.out Try.underlying35 rfl info_filt ?_)
  refine (c_isFilter _ _ _ _ V2.out).mono ?_; rintro e w2 ⟨rfl, b⟩; replace q1 := q1.below b q1.lt; replace hb := seq_below hb b; clear b
  go_wp2_with (refine wpList_load_partG rfl 35 _ rfl (w.heap.size) 8 rfl G.cells q1 HP8.out Try.underlying35 rfl info_filt ?_)
  refine (c_isFilter _ _ _ _ V3.out).mono ?_; rintro e w3 ⟨rfl, b⟩; replace q1 := q1.below b q1.lt; replace hb := seq_below hb b; clear b
  have p14 := P14.out _ q1
  go_wp2_with fail
  refine (c_isFinite _ _ _ rfl).mono ?_; rintro e w4 ⟨rfl, nq, rfl⟩
  go_wp2_with fail
  go_ret
  exact ⟨ret_boolx HR.out, by first | exact hb | exact below_drewN hb _⟩
set_option maxRecDepth 20000 in
set_option maxHeartbeats 2000000 in
theorem c_sL03Ok (g : Nat) (A : Option Addr) (n c : Nat) (a0 : Int) (F G : Fil) (l : Nat) (w : World) (hn : (n : Int) ≤ 4294967296) (q : Row w g (strC A n c a0 F G l).toArray 37) :
    Calls Try.prog 52 #[.pointer (some ⟨g, 0, none⟩)] w fun e w' => e = .returned (.bool (vsB n a0 F G l)) ∧ ∃ m, w' = w.drewN m := by
  have k0 : w.cell? ⟨g, 0, none⟩ = some (.slice A n c) := q.cell 0 _ rfl
  have k1 : w.cell? ⟨g, 1, none⟩ = some (.int .i64 a0) := q.cell 1 _ rfl
  have k2 : w.cell? ⟨g, 2, none⟩ = some (.int .i64 F.k) := q.cell 2 _ rfl
  have k8 : w.cell? ⟨g, 8, none⟩ = some (.int .i64 G.k) := q.cell 8 _ rfl
  have k14 : w.cell? ⟨g, 14, none⟩ = some (.float .f32 l) := q.cell 14 _ rfl
  have Q2 := Lib.hid (filAt_2 q); have Q8 := Lib.hid (filAt_8 q); have HN := Lib.hid hn
  clear q hn
  have HR := Lib.hid (show (ringOk n a0 && ((okFil F && F.k == 3) && ((okFil G && G.k == 2) && finB l))) = vsB n a0 F G l from rfl)
  cases v1 : ringOk n a0
  · rw [v1, Bool.false_and] at HR
    have V1 := Lib.hid v1; clear v1
    go_enter Try.func52, Try.ntmps52
    go_wp2_with fail
    refine (c_sL02Ring_c _ _ _ _ _ _ HN.out k0 k1).mono ?_; rintro e w1 ⟨rfl, rfl⟩; rw [V1.out]
    go_wp2_with fail
    go_ret
    exact ⟨ret_boolx HR.out, by first | exact ⟨0, rfl⟩ | exact ⟨_, rfl⟩ | exact ⟨_, World.drewN_drewN ..⟩⟩
  rw [v1, Bool.true_and] at HR
  have V1 := Lib.hid v1; clear v1
  cases v2 : okFil F
  · rw [v2, Bool.false_and, Bool.false_and] at HR
    have V2 := Lib.hid v2; clear v2
    go_enter Try.func52, Try.ntmps52
    go_wp2_with fail
    refine (c_sL02Ring_c _ _ _ _ _ _ HN.out k0 k1).mono ?_; rintro e w1 ⟨rfl, rfl⟩; rw [V1.out]
    go_wp2_with fail
    refine (c_sL02Ok_2 _ _ _ Q2.out).mono ?_; rintro e w2 ⟨rfl, n2, rfl⟩; rw [V2.out]
    go_wp2_with fail
    go_ret
    exact ⟨ret_boolx HR.out, by first | exact ⟨0, rfl⟩ | exact ⟨_, rfl⟩ | exact ⟨_, World.drewN_drewN ..⟩⟩
  rw [v2, Bool.true_and] at HR
  have V2 := Lib.hid v2; clear v2
  cases v3 : (F.k == 3)
  · rw [v3, Bool.false_and] at HR
    go_enter Try.func52, Try.ntmps52
    go_wp2_with fail
    refine (c_sL02Ring_c _ _ _ _ _ _ HN.out k0 k1).mono ?_; rintro e w1 ⟨rfl, rfl⟩; rw [V1.out]
    go_wp2_with fail
    refine (c_sL02Ok_2 _ _ _ Q2.out).mono ?_; rintro e w2 ⟨rfl, n2, rfl⟩; rw [V2.out]
    go_wp2_with fail
    go_ret
    exact ⟨ret_boolx HR.out, by first | exact ⟨0, rfl⟩ | exact ⟨_, rfl⟩ | exact ⟨_, World.drewN_drewN ..⟩⟩
  rw [v3, Bool.true_and] at HR
  cases v4 : okFil G
  · rw [v4, Bool.false_and, Bool.false_and] at HR
    have V4 := Lib.hid v4; clear v4
    go_enter Try.func52, Try.ntmps52
    go_wp2_with fail
    refine (c_sL02Ring_c _ _ _ _ _ _ HN.out k0 k1).mono ?_; rintro e w1 ⟨rfl, rfl⟩; rw [V1.out]
    go_wp2_with fail
    refine (c_sL02Ok_2 _ _ _ Q2.out).mono ?_; rintro e w2 ⟨rfl, n2, rfl⟩; rw [V2.out]
    go_wp2_with fail
    refine (c_sL02Ok_8 _ _ _ (Q8.out.drawn ⟨_, rfl⟩)).mono ?_; rintro e w3 ⟨rfl, n3, rfl⟩; rw [V4.out]
    go_wp2_with fail
    go_ret
    exact ⟨ret_boolx HR.out, by first | exact ⟨0, rfl⟩ | exact ⟨_, rfl⟩ | exact ⟨_, World.drewN_drewN ..⟩⟩
  rw [v4, Bool.true_and] at HR
  have V4 := Lib.hid v4; clear v4
  cases v5 : (G.k == 2)
  · rw [v5, Bool.false_and] at HR
    go_enter Try.func52, Try.ntmps52
    go_wp2_with fail
    refine (c_sL02Ring_c _ _ _ _ _ _ HN.out k0 k1).mono ?_; rintro e w1 ⟨rfl, rfl⟩; rw [V1.out]
    go_wp2_with fail
    refine (c_sL02Ok_2 _ _ _ Q2.out).mono ?_; rintro e w2 ⟨rfl, n2, rfl⟩; rw [V2.out]
    go_wp2_with fail
    refine (c_sL02Ok_8 _ _ _ (Q8.out.drawn ⟨_, rfl⟩)).mono ?_; rintro e w3 ⟨rfl, n3, rfl⟩; rw [V4.out]
    go_wp2_with fail
    go_ret
    exact ⟨ret_boolx HR.out, by first | exact ⟨0, rfl⟩ | exact ⟨_, rfl⟩ | exact ⟨_, World.drewN_drewN ..⟩⟩
  rw [v5, Bool.true_and] at HR
  go_enter Try.func52, Try.ntmps52
  go_wp2_with fail
  refine (c_sL02Ring_c _ _ _ _ _ _ HN.out k0 k1).mono ?_; rintro e w1 ⟨rfl, rfl⟩; rw [V1.out]
  go_wp2_with fail
  refine (c_sL02Ok_2 _ _ _ Q2.out).mono ?_; rintro e w2 ⟨rfl, n2, rfl⟩; rw [V2.out]
  go_wp2_with fail
  refine (c_sL02Ok_8 _ _ _ (Q8.out.drawn ⟨_, rfl⟩)).mono ?_; rintro e w3 ⟨rfl, n3, rfl⟩; rw [V4.out]
  go_wp2_with fail
  refine (c_l01Finite _ _ _ rfl).mono ?_; rintro e w4 ⟨rfl, n4, rfl⟩
  go_wp2_with fail
  go_ret
  exact ⟨ret_boolx HR.out, by first | exact ⟨0, rfl⟩ | exact ⟨_, rfl⟩ | exact ⟨_, World.drewN_drewN ..⟩⟩
theorem c_sValidString (A : Option Addr) (n c : Nat) (a0 : Int) (F G : Fil) (l : Nat) (w : World) (hn : (n : Int) ≤ 4294967296) :
    Calls Try.prog 15 #[.agg (strC A n c a0 F G l).toArray] w fun e w' => e = .returned (.bool (vsB n a0 F G l)) ∧ Below w.heap.size w w' := by
  have q1 : Row (w.alloc (.cells (strC A n c a0 F G l).toArray 37)) w.heap.size (strC A n c a0 F G l).toArray 37 := Row.new _ _ _ _ rfl
  have hb := Go.Joins.below_alloc1 w (.cells (strC A n c a0 F G l).toArray 37)
  have HC := Lib.hid (c_sL03Ok _ _ _ _ _ _ _ _ _ hn q1)
  clear q1 hn
  generalize strC A n c a0 F G l = T1 at *
  go_enter Try.func15, Try.ntmps15
  go_wp2_with fail
  refine HC.out.mono ?_; rintro e w1 ⟨rfl, nq, rfl⟩
  go_wp2_with fail
  go_ret
  exact ⟨rfl, below_drewN hb _⟩
end Go.Proofs.Ytpchebclhjgcmaa
