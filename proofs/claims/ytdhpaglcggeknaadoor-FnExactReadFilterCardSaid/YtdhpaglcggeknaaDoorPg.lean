/- The text of a filter, in the program and in the reference. Filters as arguments, with the bounds of their numbers. No condition. -/
import Derived.Test.YtdhpaglcggeknaaDoorPf
import Derived.Test.YtdhpaglcggeknaaDoorPe
import Derived.Test.YtdhpaglcggeknaaDoorHb
import Derived.Test.YtdhpaglcggeknaaDoorGd
namespace Go.Fl
open Go.RowKit
theorem wpSeq_heldE {P : Program} {ops : Array Oper} {Q : Exit → Act → World → Prop} {S : World → Prop} {i : Nat} {o : Oper} {v : Value} {l : List (Bool × Nat)} {a : Act} {w : World} (ho : ops[i]? = some o) {d : Tmp} (hd : o.dst = some d) (hy : YieldsIf P ops S o v a) (tm : Array Value) (ht : a.tmps.setIfInBounds d v = tm) (h : wpSeq P ops Q S l { tmps := tm, defers := a.defers } w) : wpSeq P ops Q S ((true, i) :: l) a w :=
  wpSeq_held ho hy (by unfold Act.put; rw [hd]; subst ht; exact h)
theorem yields_str_addE {P : Program} {ops : Array Oper} {S : World → Prop} {o : Oper} {a : Act} (hgd : o.guard = none) (t t' : TypeId) (x y : Operand) (ho : o.op = .binOp .add t x y t') {l r T : List UInt8} (hE : l ++ r = T) (hx : a.eval x = .string (bs l)) (hy : a.eval y = .string (bs r)) (hlen : T.length ≤ 9223372036854775807) : YieldsIf P ops S o (.string (bs T)) a := by
  subst hE
  exact yields_str_add hgd t t' x y ho l r hx hy (by rw [← List.length_append]; exact hlen)
theorem cat_len {l r T : List UInt8} (h : l ++ r = T) : T.length = l.length + r.length := by rw [← h, List.length_append]
def Fb (c0 c1 c2 s0 s1 : Nat) : Prop := c0 < 4294967296 ∧ c1 < 4294967296 ∧ c2 < 4294967296 ∧ s0 < 4294967296 ∧ s1 < 4294967296
theorem Fb.c {c0 c1 c2 s0 s1 : Nat} (h : Fb c0 c1 c2 s0 s1) : ∀ k, k < 3 → nth [c0, c1, c2] k < 4294967296 := by
  intro k hk
  rcases (by omega : k = 0 ∨ k = 1 ∨ k = 2) with rfl | rfl | rfl
  · exact h.1
  · exact h.2.1
  · exact h.2.2.1
theorem Fb.s {c0 c1 c2 s0 s1 : Nat} (h : Fb c0 c1 c2 s0 s1) : ∀ k, k < 2 → nth [s0, s1] k < 4294967296 := by
  intro k hk
  rcases (by omega : k = 0 ∨ k = 1) with rfl | rfl
  · exact h.2.2.2.1
  · exact h.2.2.2.2
end Go.Fl
namespace Go.Proofs.YtdhpaglcggeknaaDoor
open Go.RowKit Go.Fl
def fltW : List UInt8 := [102, 105, 108, 116, 101, 114, 32]
/-- The text of a filter. -/
def filX (k : Nat) (c0 c1 c2 s0 s1 : Nat) : List UInt8 := ((((fltW ++ Lib.decDigits k) ++ [32]) ++ smT [c0, c1, c2]) ++ [32]) ++ smT [s0, s1]
/-- The answer. -/
def filTV (k : Int) (c0 c1 c2 s0 s1 : Nat) : List UInt8 := if okF k [c0, c1, c2] [s0, s1] = true then filX k.toNat c0 c1 c2 s0 s1 else []
theorem filTV_yes {k : Int} {c0 c1 c2 s0 s1 : Nat} (h : okF k [c0, c1, c2] [s0, s1] = true) : filTV k c0 c1 c2 s0 s1 = filX k.toNat c0 c1 c2 s0 s1 := if_pos h
theorem filTV_no {k : Int} {c0 c1 c2 s0 s1 : Nat} (h : okF k [c0, c1, c2] [s0, s1] = false) : filTV k c0 c1 c2 s0 s1 = [] := if_neg (by rw [h]; exact Bool.false_ne_true)
theorem okF_five {k : Int} {cs ss : List Nat} (h : okF k cs ss = true) : ∃ n : Nat, n ≤ 5 ∧ k = n := by
  unfold okF at h
  rw [Bool.and_eq_true] at h
  rcases five k h.1 with rfl | rfl | rfl | rfl | rfl
  · exact ⟨1, by decide, rfl⟩
  · exact ⟨2, by decide, rfl⟩
  · exact ⟨3, by decide, rfl⟩
  · exact ⟨4, by decide, rfl⟩
  · exact ⟨5, by decide, rfl⟩
theorem dec_small {n : Nat} (h : n ≤ 5) : (Lib.decDigits n).length ≤ 6 := Nat.le_trans (decDigits_length n) (by omega)
set_option maxRecDepth 20000 in
set_option maxHeartbeats 2000000 in
theorem c_iFilterText (k : Int) (c0 c1 c2 s0 s1 : Nat) (w : World) (hf : Fb c0 c1 c2 s0 s1) (hT : Tz w) :
    Calls Tryd.prog 13 #[.agg (filC k c0 c1 c2 s0 s1).toArray] w fun e w' => e = .returned (.string (bs (filTV k c0 c1 c2 s0 s1))) ∧ Below w.heap.size w w' := by
  have q : Row (w.alloc (.cells (filC k c0 c1 c2 s0 s1).toArray 33)) w.heap.size (filC k c0 c1 c2 s0 s1).toArray 33 := Row.new _ _ _ _ rfl
  have hb := Go.Joins.below_alloc1 w (.cells (filC k c0 c1 c2 s0 s1).toArray 33)
  have cV := fun W => c_iValidFilter k c0 c1 c2 s0 s1 W
  have HT := Lib.hid (hT.on hb)
  cases hv : okF k [c0, c1, c2] [s0, s1]
  · rw [filTV_no hv]
    rw [hv] at cV
    have CV := Lib.hid cV; have Q := Lib.hid q; have HB := Lib.hid hb
    have I1 := Lib.hid (show (Tryd.prog.info? 33).map (·.size) = some (filC k c0 c1 c2 s0 s1).toArray.size by kernel_rfl)
    clear cV q hb hv hf hT
    generalize (filC k c0 c1 c2 s0 s1).toArray = F at *
    go_enter Tryd.func13, Tryd.ntmps13
    go_wp2_with (refine wpList_load_cells rfl 33 _ rfl _ rfl Q.out Tryd.underlying33 rfl I1.out ?_)
    refine (CV.out _).mono ?_; rintro e w1 ⟨rfl, b⟩
    replace HB := Lib.hid (seq_below HB.out b); clear b
    go_wp2_with fail
    go_ret
    exact ⟨rfl, HB.out⟩
  · rw [filTV_yes hv]
    rw [hv] at cV
    obtain ⟨n, hn, rfl⟩ := okF_five hv
    have CV := Lib.hid cV; have Q := Lib.hid q; have HB := Lib.hid hb; have HN := Lib.hid hn
    have HF := Lib.hid hf
    have L1 := Lib.hid (dec_small hn); have L2 := Lib.hid (smT_length [c0, c1, c2]); have L3 := Lib.hid (smT_length [s0, s1])
    have hnn : ((n : Int)).toNat = n := rfl
    rw [hnn]
    unfold filX
    have hD : (Lib.decDigits n).length ≤ 6 := L1.out
    have hC : (smT [c0, c1, c2]).length ≤ 27 := L2.out
    have hS : (smT [s0, s1]).length ≤ 18 := L3.out
    obtain ⟨T1, E1⟩ : ∃ T, fltW ++ Lib.decDigits n = T := ⟨_, rfl⟩
    obtain ⟨T2, E2⟩ : ∃ T, T1 ++ [32] = T := ⟨_, rfl⟩
    obtain ⟨T3, E3⟩ : ∃ T, T2 ++ smT [c0, c1, c2] = T := ⟨_, rfl⟩
    obtain ⟨T4, E4⟩ : ∃ T, T3 ++ [32] = T := ⟨_, rfl⟩
    obtain ⟨T5, E5⟩ : ∃ T, T4 ++ smT [s0, s1] = T := ⟨_, rfl⟩
    rw [E1, E2, E3, E4, E5]
    have M1 := cat_len E1; have M2 := cat_len E2; have M3 := cat_len E3; have M4 := cat_len E4; have M5 := cat_len E5
    simp [fltW] at M1 M2 M4
    replace M5 : Hid (T5.length ≤ 1000) := Lib.hid (by omega)
    replace M4 : Hid (T4.length ≤ 1000) := Lib.hid (by omega)
    replace M3 : Hid (T3.length ≤ 1000) := Lib.hid (by omega)
    replace M2 : Hid (T2.length ≤ 1000) := Lib.hid (by omega)
    replace M1 : Hid (T1.length ≤ 1000) := Lib.hid (by omega)
    replace E1 := Lib.hid E1; replace E2 := Lib.hid E2; replace E3 := Lib.hid E3; replace E4 := Lib.hid E4; replace E5 := Lib.hid E5
    clear cV q hb hv hf hT hn hnn hD hC hS L1 L2 L3
    unfold filC at *
    go_enter Tryd.func13, Tryd.ntmps13
    go_wp2_with (refine wpList_load_cells rfl 33 _ rfl _ rfl Q.out Tryd.underlying33 rfl info_filt ?_)
    refine (CV.out _).mono ?_; rintro e w1 ⟨rfl, b⟩
    replace Q := Lib.hid (Q.out.below b Q.out.lt); replace HT := Lib.hid (HT.out.on b); replace HB := Lib.hid (seq_below HB.out b); clear b
    go_wp2_with fail
    have z0 := (Below.refl w1.heap.size w1).drew
    refine wp_region_seq (S := fun w' => Below w1.heap.size w1 w') [(true, 0), (true, 1), (true, 5), (true, 6), (true, 10), (true, 11), (false, 2), (true, 3), (true, 4), (false, 7), (true, 8), (true, 9), (false, 12), (true, 13), (true, 14)] (by kernel_rfl) (by kernel_rfl) (by kernel_rfl) (fun _ _ d _ _ h => by cases d <;> exact h) z0 ?_
    refine wpSeq_heldE (v := .pointer (some ⟨w.heap.size, 0, none⟩)) rfl rfl (.inl ⟨rfl, fun w' hw => by go_simp⟩) _ (by simp only [List.setIfInBounds_toArray, List.set_cons_zero, List.set_cons_succ]; rfl) ?_
    refine wpSeq_heldE (v := .int .i64 (n : Int)) rfl rfl (.inl ⟨rfl, fun w' hw => by have k := (Q.out.below hw Q.out.lt).cell 0 _ rfl; go_simp⟩) _ (by simp only [List.setIfInBounds_toArray, List.set_cons_zero, List.set_cons_succ]; rfl) ?_
    refine wpSeq_heldE (v := .pointer (some ⟨w.heap.size, 1, none⟩)) rfl rfl (.inl ⟨rfl, fun w' hw => by go_simp⟩) _ (by simp only [List.setIfInBounds_toArray, List.set_cons_zero, List.set_cons_succ]; rfl) ?_
    refine wpSeq_heldE (v := .slice (some ⟨w.heap.size, 1, none⟩) 3 3) rfl rfl (.inl ⟨rfl, fun w' hw => by go_simp⟩) _ (by simp only [List.setIfInBounds_toArray, List.set_cons_zero, List.set_cons_succ]; rfl) ?_
    refine wpSeq_heldE (v := .pointer (some ⟨w.heap.size, 4, none⟩)) rfl rfl (.inl ⟨rfl, fun w' hw => by go_simp⟩) _ (by simp only [List.setIfInBounds_toArray, List.set_cons_zero, List.set_cons_succ]; rfl) ?_
    refine wpSeq_heldE (v := .slice (some ⟨w.heap.size, 4, none⟩) 2 2) rfl rfl (.inl ⟨rfl, fun w' hw => by go_simp⟩) _ (by simp only [List.setIfInBounds_toArray, List.set_cons_zero, List.set_cons_succ]; rfl) ?_
    refine wpSeq_step rfl rfl (fun K hK => ?_)
    go_wp2_with fail
    refine (Tryd.strconv_FormatInt_10_small n (by have := HN.out; omega) _).mono ?_; rintro e w2 ⟨rfl, rfl⟩
    refine hK _ _ ⟨z0, ?_⟩; clear hK
    refine wpSeq_heldE rfl rfl (yields_str_addE rfl _ _ _ _ rfl E1.out rfl rfl (Nat.le_trans M1.out (by decide))) _ (by simp only [List.setIfInBounds_toArray, List.set_cons_zero, List.set_cons_succ]; rfl) ?_
    refine wpSeq_heldE rfl rfl (yields_str_addE rfl _ _ _ _ rfl E2.out rfl rfl (Nat.le_trans M2.out (by decide))) _ (by simp only [List.setIfInBounds_toArray, List.set_cons_zero, List.set_cons_succ]; rfl) ?_
    refine wpSeq_step rfl rfl (fun K hK => ?_)
    go_wp2_with fail
    refine (c_samplesText _ 3 3 [c0, c1, c2] _ (filC_C (Q.out.below z0 Q.out.lt)) rfl (by decide) (by decide) HF.out.c (HT.out.on z0)).mono ?_; rintro e w3 ⟨rfl, b⟩
    have s3 := seq_below z0 b; clear b
    refine hK _ _ ⟨s3, ?_⟩; clear hK
    refine wpSeq_heldE rfl rfl (yields_str_addE rfl _ _ _ _ rfl E3.out rfl rfl (Nat.le_trans M3.out (by decide))) _ (by simp only [List.setIfInBounds_toArray, List.set_cons_zero, List.set_cons_succ]; rfl) ?_
    refine wpSeq_heldE rfl rfl (yields_str_addE rfl _ _ _ _ rfl E4.out rfl rfl (Nat.le_trans M4.out (by decide))) _ (by simp only [List.setIfInBounds_toArray, List.set_cons_zero, List.set_cons_succ]; rfl) ?_
    refine wpSeq_step rfl rfl (fun K hK => ?_)
    go_wp2_with fail
    refine (c_samplesText _ 2 2 [s0, s1] _ (filC_S (Q.out.below s3 Q.out.lt)) rfl (by decide) (by decide) HF.out.s (HT.out.on s3)).mono ?_; rintro e w4 ⟨rfl, b⟩
    have s4 := seq_below s3 b; clear b
    refine hK _ _ ⟨s4, ?_⟩; clear hK
    refine wpSeq_heldE rfl rfl (yields_str_addE rfl _ _ _ _ rfl E5.out rfl rfl (Nat.le_trans M5.out (by decide))) _ (by simp only [List.setIfInBounds_toArray, List.set_cons_zero, List.set_cons_succ]; rfl) ?_
    refine wpSeq_held rfl (yields_move rfl _ (.inr rfl)) ?_
    refine wpSeq_nil ?_
    have HZ := Lib.hid (seq_below HB.out s4)
    clear z0 s3 s4
    go_wp2_with fail
    go_ret
    exact ⟨rfl, HZ.out⟩
theorem smT_two (a b : Nat) : smT [a, b] = (hexT8 a ++ [32]) ++ hexT8 b := by
  rw [show [a, b] = [a] ++ [b] from rfl, smT_snoc _ _ (by simp), smT_one, List.append_assoc]
/-- What the reference has written of the first numbers. -/
def filP (n : Nat) (cs : List Nat) (j : Nat) : List UInt8 := (fltW ++ Lib.decDigits n) ++ (if j = 0 then [] else [32] ++ smT (cs.take j))
theorem filP_zero (n : Nat) (cs : List Nat) : fltW ++ Lib.decDigits n = filP n cs 0 := by simp [filP]
theorem filP_step (n : Nat) (cs : List Nat) (j : Nat) (h : j < cs.length) : filP n cs j ++ ([32] ++ hexT8 (nth cs j)) = filP n cs (j + 1) := by
  unfold filP
  rw [if_neg (Nat.succ_ne_zero j), take_snoc_nth cs j h]
  by_cases e : j = 0
  · subst e
    rw [if_pos rfl, List.take_zero, List.nil_append, smT_one, List.append_nil]
  · rw [if_neg e, smT_snoc _ _ (by intro e2; have := congrArg List.length e2; rw [List.length_take] at this; rw [List.length_nil] at this; omega)]
    simp only [List.append_assoc]
theorem filP_full (n c0 c1 c2 s0 s1 : Nat) : (((filP n [c0, c1, c2] 3 ++ [32]) ++ hexT8 s0) ++ [32]) ++ hexT8 s1 = filX n c0 c1 c2 s0 s1 := by
  unfold filP filX
  rw [if_neg (by decide), smT_two]
  simp only [List.append_assoc]
  rfl
theorem filP_length (n : Nat) (cs : List Nat) (j : Nat) (h : (Lib.decDigits n).length ≤ 6) (hj : j ≤ 3) : (filP n cs j).length ≤ 100 := by
  unfold filP
  have h1 := smT_length (cs.take j)
  have h2 : (cs.take j).length ≤ j := by rw [List.length_take]; omega
  split <;> simp [fltW] <;> omega
set_option maxRecDepth 20000 in
set_option maxHeartbeats 2000000 in
theorem c_sFilterText (k : Int) (c0 c1 c2 s0 s1 : Nat) (w : World) (hf : Fb c0 c1 c2 s0 s1) :
    Calls Tryd.prog 11 #[.agg (filC k c0 c1 c2 s0 s1).toArray] w fun e w' => e = .returned (.string (bs (filTV k c0 c1 c2 s0 s1))) ∧ Below w.heap.size w w' := by
  have q : Row (w.alloc (.cells (filC k c0 c1 c2 s0 s1).toArray 33)) w.heap.size (filC k c0 c1 c2 s0 s1).toArray 33 := Row.new _ _ _ _ rfl
  have hb := Go.Joins.below_alloc1 w (.cells (filC k c0 c1 c2 s0 s1).toArray 33)
  have cV := c_sL02Ok _ _ _ _ _ _ _ _ q
  cases hv : okF k [c0, c1, c2] [s0, s1]
  · rw [filTV_no hv]
    rw [hv] at cV
    have CV := Lib.hid cV; have HB := Lib.hid hb
    clear cV q hb hv hf
    generalize (filC k c0 c1 c2 s0 s1).toArray = F at *
    go_enter Tryd.func11, Tryd.ntmps11
    go_wp2_with fail
    refine CV.out.mono ?_; rintro e w1 ⟨rfl, nq, rfl⟩
    go_wp2_with fail
    go_ret
    exact ⟨rfl, below_drewN HB.out _⟩
  · rw [filTV_yes hv]
    rw [hv] at cV
    obtain ⟨n, hn, rfl⟩ := okF_five hv
    have CV := Lib.hid cV; have Q := Lib.hid q; have HB := Lib.hid hb; have HN := Lib.hid hn
    have HF := Lib.hid hf
    have L1 := Lib.hid (dec_small hn)
    have hnn : ((n : Int)).toNat = n := rfl
    rw [hnn]
    clear cV q hb hv hf hn hnn
    have p0 := Q.out.cell 0 (.int .i64 (n : Int)) rfl
    have hn1 : (0 : Int) ≤ n := by omega
    unfold filC at *
    go_enter Tryd.func11, Tryd.ntmps11
    go_wp2_with fail
    refine CV.out.mono ?_; rintro e w1 ⟨rfl, nq, rfl⟩
    go_wp2_with fail
    refine (c_Decimal n (by have := HN.out; omega) _).mono ?_; rintro e w2 ⟨rfl, b⟩
    have hb1 := below_drewN HB.out nq
    have q0 := Q.out.below (below_drewN (Below.refl _ _) nq) Q.out.lt
    have q1 := q0.below b q0.lt
    replace HB := Lib.hid (seq_below hb1 b)
    replace Q := Lib.hid q1
    clear b p0 hb1 q0 q1 CV
    go_wp2_with (refine wpList_str_add rfl _ _ _ _ rfl fltW (Lib.decDigits n) rfl rfl (by have := L1.out; simp [fltW]; omega) ?_)
    rw [filP_zero n [c0, c1, c2]]
    go_loopw [3, 4] (fun v i wr => ∃ j : Nat, j ≤ 3 ∧ i = .int .i64 j ∧ v = .string (bs (filP n [c0, c1, c2] j)) ∧ Below w.heap.size w wr ∧ Row wr w.heap.size (filC n c0 c1 c2 s0 s1).toArray 33) (fun _ i _ => 3 - (intOf i).toNat)
    case atStart => exact ⟨0, by decide, rfl, rfl, HB.out, Q.out⟩
    case round =>
      clear HB Q
      obtain ⟨j, hj, rfl, rfl, hb, hq⟩ := hrel
      have HB := Lib.hid hb; have Q := Lib.hid hq; clear hb hq
      by_cases hlt : j < 3
      · obtain ⟨ad, e1, hbl, cc⟩ := (filC_C Q.out).at_ (k := j) (by simpa using hlt)
        cases e1
        rw [addr_lit_add] at cc
        have hi : (0 : Int) ≤ j := by omega
        have hi2 : (j : Int) < 3 := by omega
        have HZ := Lib.hid (HF.out.c j hlt)
        have HS := Lib.hid (filP_step n [c0, c1, c2] j (by simpa using hlt))
        have HL := Lib.hid (filP_length n [c0, c1, c2] j L1.out hj)
        generalize nth [c0, c1, c2] j = x at *
        go_wp2_with fail
        refine (c_l01Hex _ HZ.out _).mono ?_; rintro e w3 ⟨rfl, b⟩
        replace HB := Lib.hid (seq_below HB.out b); replace Q := Lib.hid (Q.out.below b Q.out.lt); clear b
        go_wp2_with (first
          | (refine wpList_str_add rfl _ _ _ _ rfl [32] (hexT8 x) rfl rfl (by rw [hexT8_length]; decide) ?_)
          | (refine wpList_str_add rfl _ _ _ _ rfl (filP n [c0, c1, c2] j) ([32] ++ hexT8 x) rfl rfl (by have := HL.out; rw [List.length_append, hexT8_length]; simp; omega) ?_))
        go_roundw
        case rel => exact ⟨j + 1, by omega, by go_num, by rw [← HS.out]; rfl, HB.out, Q.out⟩
        case measure => simp [intOf]; omega
      · have e : j = 3 := by omega
        subst e
        have HL := Lib.hid (filP_length n [c0, c1, c2] 3 L1.out (by decide))
        have HE := filP_full n c0 c1 c2 s0 s1
        obtain ⟨T, E0⟩ : ∃ T, filP n [c0, c1, c2] 3 = T := ⟨_, rfl⟩
        obtain ⟨T1, E1⟩ : ∃ U, T ++ [32] = U := ⟨_, rfl⟩
        obtain ⟨T2, E2⟩ : ∃ U, T1 ++ hexT8 s0 = U := ⟨_, rfl⟩
        obtain ⟨T3, E3⟩ : ∃ U, T2 ++ [32] = U := ⟨_, rfl⟩
        obtain ⟨T4, E4⟩ : ∃ U, T3 ++ hexT8 s1 = U := ⟨_, rfl⟩
        rw [E0, E1, E2, E3, E4] at HE
        rw [E0]
        replace HE := Lib.hid HE
        have hl := HL.out
        rw [E0] at hl
        have M1 := cat_len E1; have M2 := cat_len E2; have M3 := cat_len E3; have M4 := cat_len E4
        rw [hexT8_length] at M2 M4
        simp only [List.length_cons, List.length_nil] at M1 M3
        replace M4 : Hid (T4.length ≤ 1000) := Lib.hid (by omega)
        replace M3 : Hid (T3.length ≤ 1000) := Lib.hid (by omega)
        replace M2 : Hid (T2.length ≤ 1000) := Lib.hid (by omega)
        replace M1 : Hid (T1.length ≤ 1000) := Lib.hid (by omega)
        replace E1 := Lib.hid E1; replace E2 := Lib.hid E2; replace E3 := Lib.hid E3; replace E4 := Lib.hid E4
        clear E0 hl HL
        go_wp2_with fail
        have z0 := (Below.refl wr.heap.size wr).drew
        refine wp_region_seq (S := fun w' => Below wr.heap.size wr w') [(true, 0), (true, 1), (true, 2), (true, 3), (true, 4), (true, 8), (true, 9), (true, 10), (false, 5), (true, 6), (true, 7), (false, 11), (true, 12), (true, 13)] (by kernel_rfl) (by kernel_rfl) (by kernel_rfl) (fun _ _ d _ _ h => by cases d <;> exact h) z0 ?_
        refine wpSeq_heldE (v := .string (bs T)) rfl rfl (yields_move rfl (.tmp 3) (.inl rfl)) _ (by simp only [List.setIfInBounds_toArray, List.set_cons_zero, List.set_cons_succ]; rfl) ?_
        refine wpSeq_heldE rfl rfl (yields_str_addE rfl _ _ _ _ rfl E1.out rfl rfl (Nat.le_trans M1.out (by decide))) _ (by simp only [List.setIfInBounds_toArray, List.set_cons_zero, List.set_cons_succ]; rfl) ?_
        refine wpSeq_heldE (v := .pointer (some ⟨w.heap.size, 4, none⟩)) rfl rfl (.inl ⟨rfl, fun w' hw => by go_simp⟩) _ (by simp only [List.setIfInBounds_toArray, List.set_cons_zero, List.set_cons_succ]; rfl) ?_
        refine wpSeq_heldE (v := .pointer (some ⟨w.heap.size, 4, none⟩)) rfl rfl (.inl ⟨rfl, fun w' hw => by go_simp⟩) _ (by simp only [List.setIfInBounds_toArray, List.set_cons_zero, List.set_cons_succ]; rfl) ?_
        refine wpSeq_heldE (v := .float .f32 s0) rfl rfl (.inl ⟨rfl, fun w' hw => by have k := (show w'.cell? ⟨w.heap.size, 4, none⟩ = some (.float .f32 s0) from (Q.out.below hw Q.out.lt).cell 4 _ rfl); go_simp⟩) _ (by simp only [List.setIfInBounds_toArray, List.set_cons_zero, List.set_cons_succ]; rfl) ?_
        refine wpSeq_heldE (v := .pointer (some ⟨w.heap.size, 4, none⟩)) rfl rfl (.inl ⟨rfl, fun w' hw => by go_simp⟩) _ (by simp only [List.setIfInBounds_toArray, List.set_cons_zero, List.set_cons_succ]; rfl) ?_
        refine wpSeq_heldE (v := .pointer (some ⟨w.heap.size, 5, none⟩)) rfl rfl (.inl ⟨rfl, fun w' hw => by go_simp⟩) _ (by simp only [List.setIfInBounds_toArray, List.set_cons_zero, List.set_cons_succ]; rfl) ?_
        refine wpSeq_heldE (v := .float .f32 s1) rfl rfl (.inl ⟨rfl, fun w' hw => by have k := (show w'.cell? ⟨w.heap.size, 5, none⟩ = some (.float .f32 s1) from (Q.out.below hw Q.out.lt).cell 5 _ rfl); go_simp⟩) _ (by simp only [List.setIfInBounds_toArray, List.set_cons_zero, List.set_cons_succ]; rfl) ?_
        refine wpSeq_step rfl rfl (fun K hK => ?_)
        go_wp2_with fail
        refine (c_l01Hex _ HF.out.2.2.2.1 _).mono ?_; rintro e w3 ⟨rfl, b⟩
        have z3 := seq_below z0 b; clear b
        refine hK _ _ ⟨z3, ?_⟩; clear hK
        refine wpSeq_heldE rfl rfl (yields_str_addE rfl _ _ _ _ rfl E2.out rfl rfl (Nat.le_trans M2.out (by decide))) _ (by simp only [List.setIfInBounds_toArray, List.set_cons_zero, List.set_cons_succ]; rfl) ?_
        refine wpSeq_heldE rfl rfl (yields_str_addE rfl _ _ _ _ rfl E3.out rfl rfl (Nat.le_trans M3.out (by decide))) _ (by simp only [List.setIfInBounds_toArray, List.set_cons_zero, List.set_cons_succ]; rfl) ?_
        refine wpSeq_step rfl rfl (fun K hK => ?_)
        go_wp2_with fail
        refine (c_l01Hex _ HF.out.2.2.2.2 _).mono ?_; rintro e w4 ⟨rfl, b⟩
        have z4 := seq_below z3 b; clear b
        refine hK _ _ ⟨z4, ?_⟩; clear hK
        refine wpSeq_heldE rfl rfl (yields_str_addE rfl _ _ _ _ rfl E4.out rfl rfl (Nat.le_trans M4.out (by decide))) _ (by simp only [List.setIfInBounds_toArray, List.set_cons_zero, List.set_cons_succ]; rfl) ?_
        refine wpSeq_held rfl (yields_move rfl _ (.inr rfl)) ?_
        refine wpSeq_nil ?_
        have HZ := Lib.hid (seq_below HB.out z4)
        clear z0 z3 z4
        go_wp2_with fail
        go_ret
        exact ⟨by rw [← HE.out]; rfl, HZ.out⟩
end Go.Proofs.YtdhpaglcggeknaaDoor
namespace Go.Fl
open Go.RowKit Go.ChangeShapes Go.WideShapes Go.WideElems
section
variable {H : Type} {enc : TypeId × Value → H} {P : Program} {w : World} {base : Nat} {spare : Nat → Bool} {held : Bool} {t e : TypeId} {fuel : Nat} {cs : List Value} {x : DataW H × List MemPlace}
theorem trod_farrb {n : Nat} (ht : P.underlying t = some (.array n e)) (he : P.underlying e = some (.float .f32)) (hc : P.cellsOf e = 1) (hn : P.cellsOf t = n) (hf : DataW.trod enc P w base spare held fuel t cs = some x) :
    ∃ xs : List Nat, cs = fll xs ∧ xs.length = n ∧ ∀ v ∈ xs, v < 4294967296 := by
  obtain ⟨ys, m, rfl, _, hl, hy, hget⟩ := DataW.trod_array ht hf
  rw [hn] at hl
  have key : ∀ i (hi : i < cs.length), cs[i] = .float .f32 (bitsV cs[i]) ∧ bitsV cs[i] < 4294967296 := by
    intro i hi
    have h1 := hget i (by omega)
    simp only [hc, Nat.mul_one] at h1
    have e1 : List.take 1 (List.drop i cs) = [cs[i]] := by
      rw [List.drop_eq_getElem_cons hi]; rfl
    rw [e1, List.getElem?_eq_getElem (by omega)] at h1
    exact trod_f32 he h1
  refine ⟨cs.map bitsV, ?_, by simpa using hl, ?_⟩
  · unfold fll
    rw [List.map_map]
    apply List.ext_getElem (by simp)
    intro i h1 h2
    rw [List.getElem_map]
    exact (key i h1).1
  · intro v hv
    obtain ⟨z, hz, rfl⟩ := List.mem_map.1 hv
    obtain ⟨i, hi, rfl⟩ := List.mem_iff_getElem.1 hz
    exact (key i hi).2
theorem trod_filtb {f0 f1 f2 : Field} {e1 e2 : TypeId} (ht : P.underlying t = some (.struct #[f0, f1, f2])) (o0 : f0.offset = 0) (o1 : f1.offset = 1) (o2 : f2.offset = 4) (c0 : P.cellsOf f0.type = 1) (c1 : P.cellsOf f1.type = 3) (c2 : P.cellsOf f2.type = 2) (ct : P.cellsOf t = 6)
    (hi : P.underlying f0.type = some (.int .i64)) (h3 : P.underlying f1.type = some (.array 3 e1)) (h2 : P.underlying f2.type = some (.array 2 e2)) (he1 : P.underlying e1 = some (.float .f32)) (he2 : P.underlying e2 = some (.float .f32)) (hc1 : P.cellsOf e1 = 1) (hc2 : P.cellsOf e2 = 1)
    (hf : DataW.trod enc P w base spare held fuel t cs = some x) : ∃ (k : Int) (a0 a1 a2 b0 b1 : Nat), cs = filC k a0 a1 a2 b0 b1 ∧ (Lit.int .i64 k).wf = true ∧ Fb a0 a1 a2 b0 b1 := by
  obtain ⟨ys, m, _, _, hl, hlen, hfs⟩ := DataW.trod_struct ht hf
  rw [ct] at hl
  match cs, hl with
  | [v0, v1, v2, v3, v4, v5], _ =>
    match ys, hlen with
    | [y0, y1, y2], _ =>
      have q0 := hfs 0 f0 rfl
      have q1 := hfs 1 f1 rfl
      have q2 := hfs 2 f2 rfl
      rw [o0, c0] at q0; rw [o1, c1] at q1; rw [o2, c2] at q2
      have q0' : DataW.trod enc P w base spare held m f0.type [v0] = some y0 := q0
      have q1' : DataW.trod enc P w base spare held m f1.type [v1, v2, v3] = some y1 := q1
      have q2' : DataW.trod enc P w base spare held m f2.type [v4, v5] = some y2 := q2
      obtain ⟨n, e3, _, hw⟩ := DataW.trod_int hi q0'
      obtain ⟨l1, g1, g2, k1⟩ := trod_farrb h3 he1 hc1 c1 q1'
      obtain ⟨l2, g3, g4, k2⟩ := trod_farrb h2 he2 hc2 c2 q2'
      match l1, g2, l2, g4 with
      | [a0, a1, a2], _, [b0, b1], _ =>
        cases e3
        simp only [fll, List.map_cons, List.map_nil, List.cons.injEq, and_true] at g1 g3
        obtain ⟨rfl, rfl, rfl⟩ := g1
        obtain ⟨rfl, rfl⟩ := g3
        exact ⟨n, a0, a1, a2, b0, b1, rfl, hw, k1 _ (by simp), k1 _ (by simp), k1 _ (by simp), k2 _ (by simp), k2 _ (by simp)⟩
theorem open_filtb {r : Reach} {b0 : Nat} {v : Value} {d : DataW H} {ps : List MemPlace} {f0 f1 f2 : Field} {e1 e2 : TypeId} (ht : P.underlying t = some (.struct #[f0, f1, f2])) (o0 : f0.offset = 0) (o1 : f1.offset = 1) (o2 : f2.offset = 4) (c0 : P.cellsOf f0.type = 1) (c1 : P.cellsOf f1.type = 3) (c2 : P.cellsOf f2.type = 2) (ct : P.cellsOf t = 6)
    (hi : P.underlying f0.type = some (.int .i64)) (h3 : P.underlying f1.type = some (.array 3 e1)) (h2 : P.underlying f2.type = some (.array 2 e2)) (he1 : P.underlying e1 = some (.float .f32)) (he2 : P.underlying e2 = some (.float .f32)) (hc1 : P.cellsOf e1 = 1) (hc2 : P.cellsOf e2 = 1)
    (hval : Value.okWide P w r b0 t v) (hd : DataW.Trod enc P w base spare held t v d ps) : ∃ (k : Int) (a0 a1 a2 b0 b1 : Nat), v = .agg (filC k a0 a1 a2 b0 b1).toArray ∧ (Lit.int .i64 k).wf = true ∧ Fb a0 a1 a2 b0 b1 := by
  simp only [Value.okWide, ht] at hval
  obtain ⟨cs, rfl, hz, _⟩ := hval
  obtain ⟨fuel, hf⟩ := hd
  obtain ⟨k, a0, a1, a2, b0, b1, h, hw, hb⟩ := trod_filtb ht o0 o1 o2 c0 c1 c2 ct hi h3 h2 he1 he2 hc1 hc2 hf
  refine ⟨k, a0, a1, a2, b0, b1, ?_, hw, hb⟩
  have h' : cs.toList = filC k a0 a1 a2 b0 b1 := h
  rw [← h']
end
end Go.Fl
