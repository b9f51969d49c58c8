/- The text of a filter, in the program and in the reference. Filters as arguments, with the bounds of their numbers. No condition. -/
import Derived.Test.YtdhpaglcggeknaaGreatDoorPf
import Derived.Test.YtdhpaglcggeknaaGreatDoorPe
import Derived.Test.YtdhpaglcggeknaaGreatDoorHb
import Derived.Test.YtdhpaglcggeknaaGreatDoorGd
namespace Go.Fl
open Go.RowKit
theorem wpSeq_heldE {P : Program} {ops : Array Oper} {Q : Exit → Act → World → Prop} {S : World → Prop} {i : Nat} {o : Oper} {v : Value} {l : List (Bool × Nat)} {a : Act} {w : World} (ho : ops[i]? = some o) {d : Tmp} (hd : o.dst = some d) (hy : YieldsIf P ops S o v a) (tm : Array Value) (ht : a.tmps.setIfInBounds d v = tm) (h : wpSeq P ops Q S l { tmps := tm, defers := a.defers } w) : wpSeq P ops Q S ((true, i) :: l) a w :=
  wpSeq_held ho hy (by unfold Act.put; rw [hd]; subst ht; exact h)
theorem yields_str_addE {P : Program} {ops : Array Oper} {S : World → Prop} {o : Oper} {a : Act} (hgd : o.guard = none) (t t' : TypeId) (x y : Operand) (ho : o.op = .binOp .add t x y t') {l r T : List UInt8} (hE : l ++ r = T) (hx : a.eval x = .string (bs l)) (hy : a.eval y = .string (bs r)) (hlen : T.length ≤ 9223372036854775807) : YieldsIf P ops S o (.string (bs T)) a := by
  subst hE
  exact yields_str_add hgd t t' x y ho l r hx hy (by rw [← List.length_append]; exact hlen)
theorem cat_len {l r T : List UInt8} (h : l ++ r = T) : T.length = l.length + r.length := by rw [← h, List.length_append]
def Fb (c0 c1 c2 s0 s1 : Nat) : Prop := c0 < 4294967296 ∧ c1 < 4294967296 ∧ c2 < 4294967296 ∧ s0 < 4294967296 ∧ s1 < 4294967296
theorem Fb.c {c0 c1 c2 s0 s1 : Nat} (h : Fb c0 c1 c2 s0 s1) : ∀ k, k < 3 → nth [c0, c1, c2] k < 4294967296 := by
  intro k hk
  rcases (by omega : k = 0 ∨ k = 1 ∨ k = 2) with rfl | rfl | rfl
  · exact h.1
  · exact h.2.1
  · exact h.2.2.1
theorem Fb.s {c0 c1 c2 s0 s1 : Nat} (h : Fb c0 c1 c2 s0 s1) : ∀ k, k < 2 → nth [s0, s1] k < 4294967296 := by
  intro k hk
  rcases (by omega : k = 0 ∨ k = 1) with rfl | rfl
  · exact h.2.2.2.1
  · exact h.2.2.2.2
end Go.Fl
namespace Go.Proofs.YtdhpaglcggeknaaGreatDoor
open Go.RowKit Go.Fl
def fltW : List UInt8 := [102, 105, 108, 116, 101, 114, 32]
/-- The text of a filter. -/
def filX (k : Nat) (c0 c1 c2 s0 s1 : Nat) : List UInt8 := ((((fltW ++ Lib.decDigits k) ++ [32]) ++ smT [c0, c1, c2]) ++ [32]) ++ smT [s0, s1]
/-- The answer. -/
def filTV (k : Int) (c0 c1 c2 s0 s1 : Nat) : List UInt8 := if okF k [c0, c1, c2] [s0, s1] = true then filX k.toNat c0 c1 c2 s0 s1 else []
theorem filTV_yes {k : Int} {c0 c1 c2 s0 s1 : Nat} (h : okF k [c0, c1, c2] [s0, s1] = true) : filTV k c0 c1 c2 s0 s1 = filX k.toNat c0 c1 c2 s0 s1 := if_pos h
theorem filTV_no {k : Int} {c0 c1 c2 s0 s1 : Nat} (h : okF k [c0, c1, c2] [s0, s1] = false) : filTV k c0 c1 c2 s0 s1 = [] := if_neg (by rw [h]; exact Bool.false_ne_true)
theorem okF_five {k : Int} {cs ss : List Nat} (h : okF k cs ss = true) : ∃ n : Nat, n ≤ 5 ∧ k = n := by
  unfold okF at h
  rw [Bool.and_eq_true] at h
  rcases five k h.1 with rfl | rfl | rfl | rfl | rfl
  · exact ⟨1, by decide, rfl⟩
  · exact ⟨2, by decide, rfl⟩
  · exact ⟨3, by decide, rfl⟩
  · exact ⟨4, by decide, rfl⟩
  · exact ⟨5, by decide, rfl⟩
theorem dec_small {n : Nat} (h : n ≤ 5) : (Lib.decDigits n).length ≤ 6 := Nat.le_trans (decDigits_length n) (by omega)
set_option maxRecDepth 20000 in
set_option maxHeartbeats 2000000 in
theorem c_iFilterText (k : Int) (c0 c1 c2 s0 s1 : Nat) (w : World) (hf : Fb c0 c1 c2 s0 s1) (hT : Tz w) :
    Calls Tryz.prog 36 #[.agg (filC k c0 c1 c2 s0 s1).toArray] w fun e w' => e = .returned (.string (bs (filTV k c0 c1 c2 s0 s1))) ∧ Below w.heap.size w w' := by
  have q : Row (w.alloc (.cells (filC k c0 c1 c2 s0 s1).toArray 29)) w.heap.size (filC k c0 c1 c2 s0 s1).toArray 29 := Row.new _ _ _ _ rfl
  have hb := Go.Joins.below_alloc1 w (.cells (filC k c0 c1 c2 s0 s1).toArray 29)
  have cV := fun W => c_iValidFilter k c0 c1 c2 s0 s1 W
  have HT := Lib.hid (hT.on hb)
  cases hv : okF k [c0, c1, c2] [s0, s1]
  · rw [filTV_no hv]
    rw [hv] at cV
    have CV := Lib.hid cV; have Q := Lib.hid q; have HB := Lib.hid hb
    have I1 := Lib.hid (show (Tryz.prog.info? 29).map (·.size) = some (filC k c0 c1 c2 s0 s1).toArray.size by kernel_rfl)
    clear cV q hb hv hf hT
    generalize (filC k c0 c1 c2 s0 s1).toArray = F at *
    go_enter Tryz.func36, Tryz.ntmps36
    go_wp2_with (refine wpList_load_cells rfl 29 _ rfl _ rfl Q.out Tryz.underlying29 rfl I1.out ?_)
    refine (CV.out _).mono ?_; rintro e w1 ⟨rfl, b⟩
    replace HB := Lib.hid (seq_below HB.out b); clear b
    go_wp2_with fail
    go_ret
    exact ⟨rfl, HB.out⟩
  · rw [filTV_yes hv]
    rw [hv] at cV
    obtain ⟨n, hn, rfl⟩ := okF_five hv
    have CV := Lib.hid cV; have Q := Lib.hid q; have HB := Lib.hid hb; have HN := Lib.hid hn
    have HF := Lib.hid hf
    have L1 := Lib.hid (dec_small hn); have L2 := Lib.hid (smT_length [c0, c1, c2]); have L3 := Lib.hid (smT_length [s0, s1])
    have hnn : ((n : Int)).toNat = n := rfl
    rw [hnn]
    unfold filX
    have hD : (Lib.decDigits n).length ≤ 6 := L1.out
    have hC : (smT [c0, c1, c2]).length ≤ 27 := L2.out
    have hS : (smT [s0, s1]).length ≤ 18 := L3.out
    obtain ⟨T1, E1⟩ : ∃ T, fltW ++ Lib.decDigits n = T := ⟨_, rfl⟩
    obtain ⟨T2, E2⟩ : ∃ T, T1 ++ [32] = T := ⟨_, rfl⟩
    obtain ⟨T3, E3⟩ : ∃ T, T2 ++ smT [c0, c1, c2] = T := ⟨_, rfl⟩
    obtain ⟨T4, E4⟩ : ∃ T, T3 ++ [32] = T := ⟨_, rfl⟩
    obtain ⟨T5, E5⟩ : ∃ T, T4 ++ smT [s0, s1] = T := ⟨_, rfl⟩
    rw [E1, E2, E3, E4, E5]
    have M1 := cat_len E1; have M2 := cat_len E2; have M3 := cat_len E3; have M4 := cat_len E4; have M5 := cat_len E5
    simp [fltW] at M1 M2 M4
    replace M5 : Hid (T5.length ≤ 1000) := Lib.hid (by omega)
    replace M4 : Hid (T4.length ≤ 1000) := Lib.hid (by omega)
    replace M3 : Hid (T3.length ≤ 1000) := Lib.hid (by omega)
    replace M2 : Hid (T2.length ≤ 1000) := Lib.hid (by omega)
    replace M1 : Hid (T1.length ≤ 1000) := Lib.hid (by omega)
    replace E1 := Lib.hid E1; replace E2 := Lib.hid E2; replace E3 := Lib.hid E3; replace E4 := Lib.hid E4; replace E5 := Lib.hid E5
    clear cV q hb hv hf hT hn hnn hD hC hS L1 L2 L3
    unfold filC at *
    go_enter Tryz.func36, Tryz.ntmps36
    go_wp2_with (refine wpList_load_cells rfl 29 _ rfl _ rfl Q.out Tryz.underlying29 rfl info_filt ?_)
    refine (CV.out _).mono ?_; rintro e w1 ⟨rfl, b⟩
    replace Q := Lib.hid (Q.out.below b Q.out.lt); replace HT := Lib.hid (HT.out.on b); replace HB := Lib.hid (seq_below HB.out b); clear b
    go_wp2_with fail
    have z0 := (Below.refl w1.heap.size w1).drew
    refine wp_region_seq (S := fun w' => Below w1.heap.size w1 w') [(true, 0), (true, 1), (true, 5), (true, 6), (true, 10), (true, 11), (false, 2), (true, 3), (true, 4), (false, 7), (true, 8), (true, 9), (false, 12), (true, 13), (true, 14)] (by kernel_rfl) (by kernel_rfl) (by kernel_rfl) (fun _ _ d _ _ h => by cases d <;> exact h) z0 ?_
    refine wpSeq_heldE (v := .pointer (some ⟨w.heap.size, 0, none⟩)) rfl rfl (.inl ⟨rfl, fun w' hw => by go_simp⟩) _ (by simp only [List.setIfInBounds_toArray, List.set_cons_zero, List.set_cons_succ]; rfl) ?_
    refine wpSeq_heldE (v := .int .i64 (n : Int)) rfl rfl (.inl ⟨rfl, fun w' hw => by have k := (Q.out.below hw Q.out.lt).cell 0 _ rfl; go_simp⟩) _ (by simp only [List.setIfInBounds_toArray, List.set_cons_zero, List.set_cons_succ]; rfl) ?_
    refine wpSeq_heldE (v := .pointer (some ⟨w.heap.size, 1, none⟩)) rfl rfl (.inl ⟨rfl, fun w' hw => by go_simp⟩) _ (by simp only [List.setIfInBounds_toArray, List.set_cons_zero, List.set_cons_succ]; rfl) ?_
    refine wpSeq_heldE (v := .slice (some ⟨w.heap.size, 1, none⟩) 3 3) rfl rfl (.inl ⟨rfl, fun w' hw => by go_simp⟩) _ (by simp only [List.setIfInBounds_toArray, List.set_cons_zero, List.set_cons_succ]; rfl) ?_
    refine wpSeq_heldE (v := .pointer (some ⟨w.heap.size, 4, none⟩)) rfl rfl (.inl ⟨rfl, fun w' hw => by go_simp⟩) _ (by simp only [List.setIfInBounds_toArray, List.set_cons_zero, List.set_cons_succ]; rfl) ?_
    refine wpSeq_heldE (v := .slice (some ⟨w.heap.size, 4, none⟩) 2 2) rfl rfl (.inl ⟨rfl, fun w' hw => by go_simp⟩) _ (by simp only [List.setIfInBounds_toArray, List.set_cons_zero, List.set_cons_succ]; rfl) ?_
    refine wpSeq_step rfl rfl (fun K hK => ?_)
    go_wp2_with fail
    refine (Tryz.strconv_FormatInt_10_small n (by have := HN.out; omega) _).mono ?_; rintro e w2 ⟨rfl, rfl⟩
    refine hK _ _ ⟨z0, ?_⟩; clear hK
    refine wpSeq_heldE rfl rfl (yields_str_addE rfl _ _ _ _ rfl E1.out rfl rfl (Nat.le_trans M1.out (by decide))) _ (by simp only [List.setIfInBounds_toArray, List.set_cons_zero, List.set_cons_succ]; rfl) ?_
    refine wpSeq_heldE rfl rfl (yields_str_addE rfl _ _ _ _ rfl E2.out rfl rfl (Nat.le_trans M2.out (by decide))) _ (by simp only [List.setIfInBounds_toArray, List.set_cons_zero, List.set_cons_succ]; rfl) ?_
    refine wpSeq_step rfl rfl (fun K hK => ?_)
    go_wp2_with fail
    refine (c_samplesText _ 3 3 [c0, c1, c2] _ (filC_C (Q.out.below z0 Q.out.lt)) rfl (by decide) (by decide) HF.out.c (HT.out.on z0)).mono ?_; rintro e w3 ⟨rfl, b⟩
    have s3 := seq_below z0 b; clear b
    refine hK _ _ ⟨s3, ?_⟩; clear hK
    refine wpSeq_heldE rfl rfl (yields_str_addE rfl _ _ _ _ rfl E3.out rfl rfl (Nat.le_trans M3.out (by decide))) _ (by simp only [List.setIfInBounds_toArray, List.set_cons_zero, List.set_cons_succ]; rfl) ?_
    refine wpSeq_heldE rfl rfl (yields_str_addE rfl _ _ _ _ rfl E4.out rfl rfl (Nat.le_trans M4.out (by decide))) _ (by simp only [List.setIfInBounds_toArray, List.set_cons_zero, List.set_cons_succ]; rfl) ?_
    refine wpSeq_step rfl rfl (fun K hK => ?_)
    go_wp2_with fail
    refine (c_samplesText _ 2 2 [s0, s1] _ (filC_S (Q.out.below s3 Q.out.lt)) rfl (by decide) (by decide) HF.out.s (HT.out.on s3)).mono ?_; rintro e w4 ⟨rfl, b⟩
    have s4 := seq_below s3 b; clear b
    refine hK _ _ ⟨s4, ?_⟩; clear hK
    refine wpSeq_heldE rfl rfl (yields_str_addE rfl _ _ _ _ rfl E5.out rfl rfl (Nat.le_trans M5.out (by decide))) _ (by simp only [List.setIfInBounds_toArray, List.set_cons_zero, List.set_cons_succ]; rfl) ?_
    refine wpSeq_held rfl (yields_move rfl _ (.inr rfl)) ?_
    refine wpSeq_nil ?_
    have HZ := Lib.hid (seq_below HB.out s4)
    clear z0 s3 s4
    go_wp2_with fail
    go_ret
    exact ⟨rfl, HZ.out⟩
end Go.Proofs.YtdhpaglcggeknaaGreatDoor
namespace Go.Fl
open Go.RowKit Go.ChangeShapes Go.WideShapes Go.WideElems
section
variable {H : Type} {enc : TypeId × Value → H} {P : Program} {w : World} {base : Nat} {spare : Nat → Bool} {held : Bool} {t e : TypeId} {fuel : Nat} {cs : List Value} {x : DataW H × List MemPlace}
theorem trod_farrb {n : Nat} (ht : P.underlying t = some (.array n e)) (he : P.underlying e = some (.float .f32)) (hc : P.cellsOf e = 1) (hn : P.cellsOf t = n) (hf : DataW.trod enc P w base spare held fuel t cs = some x) :
    ∃ xs : List Nat, cs = fll xs ∧ xs.length = n ∧ ∀ v ∈ xs, v < 4294967296 := by
  obtain ⟨ys, m, rfl, _, hl, hy, hget⟩ := DataW.trod_array ht hf
  rw [hn] at hl
  have key : ∀ i (hi : i < cs.length), cs[i] = .float .f32 (bitsV cs[i]) ∧ bitsV cs[i] < 4294967296 := by
    intro i hi
    have h1 := hget i (by omega)
    simp only [hc, Nat.mul_one] at h1
    have e1 : List.take 1 (List.drop i cs) = [cs[i]] := by
      rw [List.drop_eq_getElem_cons hi]; rfl
    rw [e1, List.getElem?_eq_getElem (by omega)] at h1
    exact trod_f32 he h1
  refine ⟨cs.map bitsV, ?_, by simpa using hl, ?_⟩
  · unfold fll
    rw [List.map_map]
    apply List.ext_getElem (by simp)
    intro i h1 h2
    rw [List.getElem_map]
    exact (key i h1).1
  · intro v hv
    obtain ⟨z, hz, rfl⟩ := List.mem_map.1 hv
    obtain ⟨i, hi, rfl⟩ := List.mem_iff_getElem.1 hz
    exact (key i hi).2
theorem trod_filtb {f0 f1 f2 : Field} {e1 e2 : TypeId} (ht : P.underlying t = some (.struct #[f0, f1, f2])) (o0 : f0.offset = 0) (o1 : f1.offset = 1) (o2 : f2.offset = 4) (c0 : P.cellsOf f0.type = 1) (c1 : P.cellsOf f1.type = 3) (c2 : P.cellsOf f2.type = 2) (ct : P.cellsOf t = 6)
    (hi : P.underlying f0.type = some (.int .i64)) (h3 : P.underlying f1.type = some (.array 3 e1)) (h2 : P.underlying f2.type = some (.array 2 e2)) (he1 : P.underlying e1 = some (.float .f32)) (he2 : P.underlying e2 = some (.float .f32)) (hc1 : P.cellsOf e1 = 1) (hc2 : P.cellsOf e2 = 1)
    (hf : DataW.trod enc P w base spare held fuel t cs = some x) : ∃ (k : Int) (a0 a1 a2 b0 b1 : Nat), cs = filC k a0 a1 a2 b0 b1 ∧ (Lit.int .i64 k).wf = true ∧ Fb a0 a1 a2 b0 b1 := by
  obtain ⟨ys, m, _, _, hl, hlen, hfs⟩ := DataW.trod_struct ht hf
  rw [ct] at hl
  match cs, hl with
  | [v0, v1, v2, v3, v4, v5], _ =>
    match ys, hlen with
    | [y0, y1, y2], _ =>
      have q0 := hfs 0 f0 rfl
      have q1 := hfs 1 f1 rfl
      have q2 := hfs 2 f2 rfl
      rw [o0, c0] at q0; rw [o1, c1] at q1; rw [o2, c2] at q2
      have q0' : DataW.trod enc P w base spare held m f0.type [v0] = some y0 := q0
      have q1' : DataW.trod enc P w base spare held m f1.type [v1, v2, v3] = some y1 := q1
      have q2' : DataW.trod enc P w base spare held m f2.type [v4, v5] = some y2 := q2
      obtain ⟨n, e3, _, hw⟩ := DataW.trod_int hi q0'
      obtain ⟨l1, g1, g2, k1⟩ := trod_farrb h3 he1 hc1 c1 q1'
      obtain ⟨l2, g3, g4, k2⟩ := trod_farrb h2 he2 hc2 c2 q2'
      match l1, g2, l2, g4 with
      | [a0, a1, a2], _, [b0, b1], _ =>
        cases e3
        simp only [fll, List.map_cons, List.map_nil, List.cons.injEq, and_true] at g1 g3
        obtain ⟨rfl, rfl, rfl⟩ := g1
        obtain ⟨rfl, rfl⟩ := g3
        exact ⟨n, a0, a1, a2, b0, b1, rfl, hw, k1 _ (by simp), k1 _ (by simp), k1 _ (by simp), k2 _ (by simp), k2 _ (by simp)⟩
theorem open_filtb {r : Reach} {b0 : Nat} {v : Value} {d : DataW H} {ps : List MemPlace} {f0 f1 f2 : Field} {e1 e2 : TypeId} (ht : P.underlying t = some (.struct #[f0, f1, f2])) (o0 : f0.offset = 0) (o1 : f1.offset = 1) (o2 : f2.offset = 4) (c0 : P.cellsOf f0.type = 1) (c1 : P.cellsOf f1.type = 3) (c2 : P.cellsOf f2.type = 2) (ct : P.cellsOf t = 6)
    (hi : P.underlying f0.type = some (.int .i64)) (h3 : P.underlying f1.type = some (.array 3 e1)) (h2 : P.underlying f2.type = some (.array 2 e2)) (he1 : P.underlying e1 = some (.float .f32)) (he2 : P.underlying e2 = some (.float .f32)) (hc1 : P.cellsOf e1 = 1) (hc2 : P.cellsOf e2 = 1)
    (hval : Value.okWide P w r b0 t v) (hd : DataW.Trod enc P w base spare held t v d ps) : ∃ (k : Int) (a0 a1 a2 b0 b1 : Nat), v = .agg (filC k a0 a1 a2 b0 b1).toArray ∧ (Lit.int .i64 k).wf = true ∧ Fb a0 a1 a2 b0 b1 := by
  simp only [Value.okWide, ht] at hval
  obtain ⟨cs, rfl, hz, _⟩ := hval
  obtain ⟨fuel, hf⟩ := hd
  obtain ⟨k, a0, a1, a2, b0, b1, h, hw, hb⟩ := trod_filtb ht o0 o1 o2 c0 c1 c2 ct hi h3 h2 he1 he2 hc1 hc2 hf
  refine ⟨k, a0, a1, a2, b0, b1, ?_, hw, hb⟩
  have h' : cs.toList = filC k a0 a1 a2 b0 b1 := h
  rw [← h']
end
end Go.Fl
