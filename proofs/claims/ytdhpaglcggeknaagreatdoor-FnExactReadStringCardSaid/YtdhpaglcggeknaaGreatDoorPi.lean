/- The text of a string, in the program and in the reference. The text of a string, in the reference. No condition. -/
import Derived.Test.YtdhpaglcggeknaaGreatDoorPg
import Derived.Test.YtdhpaglcggeknaaGreatDoorHe
import Derived.Lib.SmallJoins
import Derived.Lib.AppendIntMem
namespace Go.Proofs.YtdhpaglcggeknaaGreatDoor
open Go.RowKit Go.Fl
/-- The table of powers of ten is as it was laid. -/
def Pw (w : World) : Prop := Lib.TabIs Tryz.prog w "internal/strconv.uint64pow10" .u64 Lib.pow10Tab
theorem Pw.on {w w' : World} (h : Pw w) (hb : Below w.heap.size w w') : Pw w' := Go.Joins.var_stays (show Tryz.prog.globalNamed "internal/strconv.uint64pow10" = some 6 by kernel_rfl) h hb (Nat.le_refl _)
theorem c_decimal (n : Nat) (hn : n ≤ 4294967296) (w : World) (h : Pw w) :
    Calls Tryz.prog 35 #[.int .i64 n] w fun e w' => e = .returned (.string (bs (Lib.decDigits n))) ∧ Below w.heap.size w w' := by
  have HC := Lib.hid (Tryz.strconv_FormatInt_10 n (by omega) (by omega) w h)
  rw [Lib.itoa_nonneg] at HC
  clear h hn
  go_enter Tryz.func35, Tryz.ntmps35
  go_wp2_with fail
  refine HC.out.mono ?_; rintro e w1 ⟨rfl, k, os, rfl⟩
  have HB := Lib.hid (Lib.below_grow w.heap.size w (Nat.le_refl _) k os)
  go_wp2_with fail
  go_ret
  exact ⟨rfl, HB.out⟩
def filTF (F : Fil) : List UInt8 := filTV F.k F.c0 F.c1 F.c2 F.s0 F.s1
def FbF (F : Fil) : Prop := Fb F.c0 F.c1 F.c2 F.s0 F.s1
theorem filTF_length (F : Fil) : (filTF F).length ≤ 100 := by
  unfold filTF
  cases h : okF F.k [F.c0, F.c1, F.c2] [F.s0, F.s1]
  · rw [filTV_no h]; simp
  · rw [filTV_yes h]
    obtain ⟨n, hn, e⟩ := okF_five h
    rw [e]
    have h1 := dec_small hn
    have h2 := smT_length [F.c0, F.c1, F.c2]
    have h3 := smT_length [F.s0, F.s1]
    have e2 : ((n : Int)).toNat = n := rfl
    rw [e2]
    unfold filX
    simp [fltW] at *
    omega
def strW : List UInt8 := [115, 116, 114, 105, 110, 103, 32]
/-- The head of a string's text, its filters, the whole. -/
def strT6 (n a0 l : Nat) : List UInt8 := ((((((strW ++ hexT8 l) ++ [32]) ++ Lib.decDigits n) ++ [32]) ++ Lib.decDigits a0) ++ [10])
def strT10 (n a0 : Nat) (F G : Fil) (l : Nat) : List UInt8 := (((strT6 n a0 l ++ filTF F) ++ [10]) ++ filTF G) ++ [10]
def strX (xs : List Nat) (n a0 : Nat) (F G : Fil) (l : Nat) : List UInt8 := (strT10 n a0 F G l ++ smT xs) ++ [10]
def strTV (xs : List Nat) (n : Nat) (a0 : Int) (F G : Fil) (l : Nat) : List UInt8 := if vsB n a0 F G l = true then strX xs n a0.toNat F G l else []
theorem strTV_yes {xs : List Nat} {n : Nat} {a0 : Int} {F G : Fil} {l : Nat} (h : vsB n a0 F G l = true) : strTV xs n a0 F G l = strX xs n a0.toNat F G l := if_pos h
theorem strTV_no {xs : List Nat} {n : Nat} {a0 : Int} {F G : Fil} {l : Nat} (h : vsB n a0 F G l = false) : strTV xs n a0 F G l = [] := if_neg (by rw [h]; exact Bool.false_ne_true)
theorem vsB_ring {n : Nat} {a0 : Int} {F G : Fil} {l : Nat} (h : vsB n a0 F G l = true) : 1 ≤ n ∧ n ≤ 1024 ∧ ∃ a : Nat, a ≤ 1024 ∧ a0 = a := by
  unfold vsB at h
  rw [Bool.and_eq_true] at h
  obtain ⟨h1, h2, h3, h4⟩ := ringOk_facts h.1
  exact ⟨by omega, by omega, a0.toNat, by omega, by omega⟩
theorem dec_len {n : Nat} (h : n ≤ 1024) : (Lib.decDigits n).length ≤ 1025 := Nat.le_trans (decDigits_length n) (by omega)
theorem c_iFilTF (F : Fil) (w : World) (hf : FbF F) (hT : Tz w) : Calls Tryz.prog 36 #[.agg F.cells.toArray] w fun e w' => e = .returned (.string (bs (filTF F))) ∧ Below w.heap.size w w' := c_iFilterText F.k F.c0 F.c1 F.c2 F.s0 F.s1 w hf hT
set_option maxRecDepth 20000 in
set_option maxHeartbeats 4000000 in
theorem c_iStringText (A : Option Addr) (n c : Nat) (a0 : Int) (F G : Fil) (l : Nat) (xs : List Nat) (w : World) (hs : Sl w A xs) (hx : xs.length = n) (hm : n ≤ 1048576) (hxb : ∀ k, k < n → nth xs k < 4294967296) (hF : FbF F) (hG : FbF G) (hl : l < 4294967296) (hT : Tz w) (hP : Pw w) :
    Calls Tryz.prog 20 #[.agg (strC A n c a0 F G l).toArray] w fun e w' => e = .returned (.string (bs (strTV xs n a0 F G l))) ∧ Below w.heap.size w w' := by
  have q : Row (w.alloc (.cells (strC A n c a0 F G l).toArray 31)) w.heap.size (strC A n c a0 F G l).toArray 31 := Row.new _ _ _ _ rfl
  have hb := Go.Joins.below_alloc1 w (.cells (strC A n c a0 F G l).toArray 31)
  have cV := fun W => c_iValidString A n c a0 F G l W (by omega)
  have i1 : (Tryz.prog.info? 31).map (·.size) = some (strC A n c a0 F G l).toArray.size := by kernel_rfl
  cases hv : vsB n a0 F G l
  · rw [strTV_no hv]
    rw [hv] at cV
    have CV := Lib.hid cV; have Q := Lib.hid q; have HB := Lib.hid hb; have I1 := Lib.hid i1
    clear cV q hb hv hs hx hm hxb hF hG hl hT hP i1
    generalize (strC A n c a0 F G l).toArray = T at *
    go_enter Tryz.func20, Tryz.ntmps20
    go_wp2_with (refine wpList_load_cells rfl 31 _ rfl _ rfl Q.out Tryz.underlying31 rfl I1.out ?_)
    refine (CV.out _).mono ?_; rintro e w1 ⟨rfl, b⟩
    replace HB := Lib.hid (seq_below HB.out b); clear b
    go_wp2_with fail
    go_ret
    exact ⟨rfl, HB.out⟩
  · rw [strTV_yes hv]
    rw [hv] at cV
    obtain ⟨h1, h2, a, ha, rfl⟩ := vsB_ring hv
    have haa : ((a : Int)).toNat = a := rfl
    rw [haa]
    unfold strX strT10 strT6
    have l1 := hexT8_length l
    have l2 := dec_len h2
    have l3 := dec_len ha
    have l4 := filTF_length F
    have l5 := filTF_length G
    have l6 := smT_length xs
    rw [hx] at l6
    obtain ⟨T1, E1⟩ : ∃ T, strW ++ hexT8 l = T := ⟨_, rfl⟩
    obtain ⟨T2, E2⟩ : ∃ T, T1 ++ [32] = T := ⟨_, rfl⟩
    obtain ⟨T3, E3⟩ : ∃ T, T2 ++ Lib.decDigits n = T := ⟨_, rfl⟩
    obtain ⟨T4, E4⟩ : ∃ T, T3 ++ [32] = T := ⟨_, rfl⟩
    obtain ⟨T5, E5⟩ : ∃ T, T4 ++ Lib.decDigits a = T := ⟨_, rfl⟩
    obtain ⟨T6, E6⟩ : ∃ T, T5 ++ [10] = T := ⟨_, rfl⟩
    obtain ⟨T7, E7⟩ : ∃ T, T6 ++ filTF F = T := ⟨_, rfl⟩
    obtain ⟨T8, E8⟩ : ∃ T, T7 ++ [10] = T := ⟨_, rfl⟩
    obtain ⟨T9, E9⟩ : ∃ T, T8 ++ filTF G = T := ⟨_, rfl⟩
    obtain ⟨T10, E10⟩ : ∃ T, T9 ++ [10] = T := ⟨_, rfl⟩
    obtain ⟨T11, E11⟩ : ∃ T, T10 ++ smT xs = T := ⟨_, rfl⟩
    obtain ⟨T12, E12⟩ : ∃ T, T11 ++ [10] = T := ⟨_, rfl⟩
    rw [E1, E2, E3, E4, E5, E6, E7, E8, E9, E10, E11, E12]
    have m1 := cat_len E1; have m2 := cat_len E2; have m3 := cat_len E3; have m4 := cat_len E4; have m5 := cat_len E5; have m6 := cat_len E6
    have m7 := cat_len E7; have m8 := cat_len E8; have m9 := cat_len E9; have m10 := cat_len E10; have m11 := cat_len E11; have m12 := cat_len E12
    have lw : strW.length = 7 := rfl
    simp only [List.length_cons, List.length_nil] at m2 m4 m6 m8 m10 m12
    have M1 : Hid (T1.length ≤ 100000000) := Lib.hid (by omega)
    have M2 : Hid (T2.length ≤ 100000000) := Lib.hid (by omega)
    have M3 : Hid (T3.length ≤ 100000000) := Lib.hid (by omega)
    have M4 : Hid (T4.length ≤ 100000000) := Lib.hid (by omega)
    have M5 : Hid (T5.length ≤ 100000000) := Lib.hid (by omega)
    have M6 : Hid (T6.length ≤ 100000000) := Lib.hid (by omega)
    have M7 : Hid (T7.length ≤ 100000000) := Lib.hid (by omega)
    have M8 : Hid (T8.length ≤ 100000000) := Lib.hid (by omega)
    have M9 : Hid (T9.length ≤ 100000000) := Lib.hid (by omega)
    have M10 : Hid (T10.length ≤ 100000000) := Lib.hid (by omega)
    have M11 : Hid (T11.length ≤ 100000000) := Lib.hid (by omega)
    have M12 : Hid (T12.length ≤ 100000000) := Lib.hid (by omega)
    clear m1 m2 m3 m4 m5 m6 m7 m8 m9 m10 m11 m12 lw l1 l2 l3 l4 l5 l6
    replace E1 := Lib.hid E1; replace E2 := Lib.hid E2; replace E3 := Lib.hid E3; replace E4 := Lib.hid E4; replace E5 := Lib.hid E5; replace E6 := Lib.hid E6
    replace E7 := Lib.hid E7; replace E8 := Lib.hid E8; replace E9 := Lib.hid E9; replace E10 := Lib.hid E10; replace E11 := Lib.hid E11; replace E12 := Lib.hid E12
    have CV := Lib.hid cV; have Q := Lib.hid q; have HB := Lib.hid hb; have I1 := Lib.hid i1
    have K0 : Hid (∀ W, Row W w.heap.size (strC A n c a F G l).toArray 31 → W.cell? ⟨w.heap.size, 0, none⟩ = some (.slice A n c)) := fun W h => h.cell 0 _ rfl
    have K1 : Hid (∀ W, Row W w.heap.size (strC A n c a F G l).toArray 31 → W.cell? ⟨w.heap.size, 1, none⟩ = some (.int .i64 a)) := fun W h => h.cell 1 _ rfl
    have K14 : Hid (∀ W, Row W w.heap.size (strC A n c a F G l).toArray 31 → W.cell? ⟨w.heap.size, 14, none⟩ = some (.float .f32 l)) := fun W h => h.cell 14 _ rfl
    have HP2 := Lib.hid (strC_p2 A n c a F G l); have HP8 := Lib.hid (strC_p8 A n c a F G l)
    have HS := Lib.hid (hs.below hb); have HT := Lib.hid (hT.on hb); have HPW := Lib.hid (hP.on hb)
    have CL := Lib.hid (fun W (h : Tz W) => c_bitsText l hl W h)
    have CN := Lib.hid (fun W (h : Pw W) => c_decimal n (by omega) W h)
    have CA := Lib.hid (fun W (h : Pw W) => c_decimal a (by omega) W h)
    have CF := Lib.hid (fun W (h : Tz W) => c_iFilTF F W hF h)
    have CG := Lib.hid (fun W (h : Tz W) => c_iFilTF G W hG h)
    have CX := Lib.hid (fun W (hs : Sl W A xs) (h : Tz W) => c_samplesText A c n xs W hs hx h1 hm hxb h)
    clear cV q hb hv hs hx hm hxb hF hG hl hT hP i1 h1 h2 ha haa
    generalize strC A n c a F G l = T at *
    go_enter Tryz.func20, Tryz.ntmps20
    go_wp2_with (refine wpList_load_cells rfl 31 _ rfl _ rfl Q.out Tryz.underlying31 rfl I1.out ?_)
    refine (CV.out _).mono ?_; rintro e w1 ⟨rfl, b⟩
    replace Q := Lib.hid (Q.out.below b Q.out.lt); replace HT := Lib.hid (HT.out.on b); replace HPW := Lib.hid (HPW.out.on b); replace HS := Lib.hid (HS.out.below b); replace HB := Lib.hid (seq_below HB.out b); clear b
    go_wp2_with fail
    have z0 := (Below.refl w1.heap.size w1).drew
    refine wp_region_seq (S := fun w' => Below w1.heap.size w1 w') [(true, 0), (true, 1), (true, 5), (true, 6), (true, 7), (true, 12), (true, 13), (true, 14), (true, 18), (true, 19), (true, 23), (true, 24), (true, 28), (true, 29), (true, 30), (false, 2), (true, 3), (true, 4), (false, 8), (false, 9), (true, 10), (true, 11), (false, 15), (true, 16), (true, 17), (false, 20), (true, 21), (true, 22), (false, 25), (true, 26), (true, 27), (false, 31), (true, 32), (true, 33), (true, 34)] (by kernel_rfl) (by kernel_rfl) (by kernel_rfl) (fun _ _ d _ _ h => by cases d <;> exact h) z0 ?_
    refine wpSeq_heldE (v := .pointer (some ⟨w.heap.size, 14, none⟩)) rfl rfl (.inl ⟨rfl, fun w' hw => by go_simp⟩) _ (by simp only [List.setIfInBounds_toArray, List.set_cons_zero, List.set_cons_succ]; rfl) ?_
    refine wpSeq_heldE (v := .float .f32 l) rfl rfl (.inl ⟨rfl, fun w' hw => by have k := K14.out w' (Q.out.below hw Q.out.lt); go_simp⟩) _ (by simp only [List.setIfInBounds_toArray, List.set_cons_zero, List.set_cons_succ]; rfl) ?_
    refine wpSeq_heldE (v := .pointer (some ⟨w.heap.size, 0, none⟩)) rfl rfl (.inl ⟨rfl, fun w' hw => by go_simp⟩) _ (by simp only [List.setIfInBounds_toArray, List.set_cons_zero, List.set_cons_succ]; rfl) ?_
    refine wpSeq_heldE (v := .pointer (some ⟨w.heap.size, 0, none⟩)) rfl rfl (.inl ⟨rfl, fun w' hw => by go_simp⟩) _ (by simp only [List.setIfInBounds_toArray, List.set_cons_zero, List.set_cons_succ]; rfl) ?_
    refine wpSeq_heldE (v := .slice A n c) rfl rfl (.inl ⟨rfl, fun w' hw => by have k := K0.out w' (Q.out.below hw Q.out.lt); go_simp⟩) _ (by simp only [List.setIfInBounds_toArray, List.set_cons_zero, List.set_cons_succ]; rfl) ?_
    refine wpSeq_heldE (v := .pointer (some ⟨w.heap.size, 0, none⟩)) rfl rfl (.inl ⟨rfl, fun w' hw => by go_simp⟩) _ (by simp only [List.setIfInBounds_toArray, List.set_cons_zero, List.set_cons_succ]; rfl) ?_
    refine wpSeq_heldE (v := .pointer (some ⟨w.heap.size, 1, none⟩)) rfl rfl (.inl ⟨rfl, fun w' hw => by go_simp⟩) _ (by simp only [List.setIfInBounds_toArray, List.set_cons_zero, List.set_cons_succ]; rfl) ?_
    refine wpSeq_heldE (v := .int .i64 (a : Int)) rfl rfl (.inl ⟨rfl, fun w' hw => by have k := K1.out w' (Q.out.below hw Q.out.lt); go_simp⟩) _ (by simp only [List.setIfInBounds_toArray, List.set_cons_zero, List.set_cons_succ]; rfl) ?_
    refine wpSeq_heldE (v := .pointer (some ⟨w.heap.size, 2, none⟩)) rfl rfl (.inl ⟨rfl, fun w' hw => by go_simp⟩) _ (by simp only [List.setIfInBounds_toArray, List.set_cons_zero, List.set_cons_succ]; rfl) ?_
    refine wpSeq_heldE (v := .agg F.cells.toArray) rfl rfl (yields_load_part (w0 := w1) rfl _ _ rfl w.heap.size 2 rfl F.cells Q.out Q.out.lt (fun _ h => h) HP2.out Tryz.underlying29 rfl info_filt) _ (by simp only [List.setIfInBounds_toArray, List.set_cons_zero, List.set_cons_succ]; rfl) ?_
    refine wpSeq_heldE (v := .pointer (some ⟨w.heap.size, 8, none⟩)) rfl rfl (.inl ⟨rfl, fun w' hw => by go_simp⟩) _ (by simp only [List.setIfInBounds_toArray, List.set_cons_zero, List.set_cons_succ]; rfl) ?_
    refine wpSeq_heldE (v := .agg G.cells.toArray) rfl rfl (yields_load_part (w0 := w1) rfl _ _ rfl w.heap.size 8 rfl G.cells Q.out Q.out.lt (fun _ h => h) HP8.out Tryz.underlying29 rfl info_filt) _ (by simp only [List.setIfInBounds_toArray, List.set_cons_zero, List.set_cons_succ]; rfl) ?_
    refine wpSeq_heldE (v := .pointer (some ⟨w.heap.size, 0, none⟩)) rfl rfl (.inl ⟨rfl, fun w' hw => by go_simp⟩) _ (by simp only [List.setIfInBounds_toArray, List.set_cons_zero, List.set_cons_succ]; rfl) ?_
    refine wpSeq_heldE (v := .pointer (some ⟨w.heap.size, 0, none⟩)) rfl rfl (.inl ⟨rfl, fun w' hw => by go_simp⟩) _ (by simp only [List.setIfInBounds_toArray, List.set_cons_zero, List.set_cons_succ]; rfl) ?_
    refine wpSeq_heldE (v := .slice A n c) rfl rfl (.inl ⟨rfl, fun w' hw => by have k := K0.out w' (Q.out.below hw Q.out.lt); go_simp⟩) _ (by simp only [List.setIfInBounds_toArray, List.set_cons_zero, List.set_cons_succ]; rfl) ?_
    refine wpSeq_step rfl rfl (fun K hK => ?_)
    go_wp2_with fail
    refine (CL.out _ (HT.out.on z0)).mono ?_; rintro e w2 ⟨rfl, b⟩
    have z1 := seq_below z0 b
    refine hK _ _ ⟨z1, ?_⟩; clear hK
    refine wpSeq_heldE rfl rfl (yields_str_addE rfl _ _ _ _ rfl E1.out rfl rfl (Nat.le_trans M1.out (by decide))) _ (by simp only [List.setIfInBounds_toArray, List.set_cons_zero, List.set_cons_succ]; rfl) ?_
    refine wpSeq_heldE rfl rfl (yields_str_addE rfl _ _ _ _ rfl E2.out rfl rfl (Nat.le_trans M2.out (by decide))) _ (by simp only [List.setIfInBounds_toArray, List.set_cons_zero, List.set_cons_succ]; rfl) ?_
    refine wpSeq_step rfl rfl (fun K hK => ?_)
    go_wp2_with fail
    refine (c_length _ _ _ _).mono ?_; rintro e w3 ⟨rfl, hww⟩; obtain rfl := hww.symm
    refine hK _ _ ⟨z1, ?_⟩; clear hK
    refine wpSeq_step rfl rfl (fun K hK => ?_)
    go_wp2_with fail
    refine (CN.out _ (HPW.out.on z1)).mono ?_; rintro e w4 ⟨rfl, b⟩
    have z2 := seq_below z1 b
    refine hK _ _ ⟨z2, ?_⟩; clear hK
    refine wpSeq_heldE rfl rfl (yields_str_addE rfl _ _ _ _ rfl E3.out rfl rfl (Nat.le_trans M3.out (by decide))) _ (by simp only [List.setIfInBounds_toArray, List.set_cons_zero, List.set_cons_succ]; rfl) ?_
    refine wpSeq_heldE rfl rfl (yields_str_addE rfl _ _ _ _ rfl E4.out rfl rfl (Nat.le_trans M4.out (by decide))) _ (by simp only [List.setIfInBounds_toArray, List.set_cons_zero, List.set_cons_succ]; rfl) ?_
    refine wpSeq_step rfl rfl (fun K hK => ?_)
    go_wp2_with fail
    refine (CA.out _ (HPW.out.on z2)).mono ?_; rintro e w5 ⟨rfl, b⟩
    have z3 := seq_below z2 b
    refine hK _ _ ⟨z3, ?_⟩; clear hK
    refine wpSeq_heldE rfl rfl (yields_str_addE rfl _ _ _ _ rfl E5.out rfl rfl (Nat.le_trans M5.out (by decide))) _ (by simp only [List.setIfInBounds_toArray, List.set_cons_zero, List.set_cons_succ]; rfl) ?_
    refine wpSeq_heldE rfl rfl (yields_str_addE rfl _ _ _ _ rfl E6.out rfl rfl (Nat.le_trans M6.out (by decide))) _ (by simp only [List.setIfInBounds_toArray, List.set_cons_zero, List.set_cons_succ]; rfl) ?_
    refine wpSeq_step rfl rfl (fun K hK => ?_)
    go_wp2_with fail
    refine (CF.out _ (HT.out.on z3)).mono ?_; rintro e w6 ⟨rfl, b⟩
    have z4 := seq_below z3 b
    refine hK _ _ ⟨z4, ?_⟩; clear hK
    refine wpSeq_heldE rfl rfl (yields_str_addE rfl _ _ _ _ rfl E7.out rfl rfl (Nat.le_trans M7.out (by decide))) _ (by simp only [List.setIfInBounds_toArray, List.set_cons_zero, List.set_cons_succ]; rfl) ?_
    refine wpSeq_heldE rfl rfl (yields_str_addE rfl _ _ _ _ rfl E8.out rfl rfl (Nat.le_trans M8.out (by decide))) _ (by simp only [List.setIfInBounds_toArray, List.set_cons_zero, List.set_cons_succ]; rfl) ?_
    refine wpSeq_step rfl rfl (fun K hK => ?_)
    go_wp2_with fail
    refine (CG.out _ (HT.out.on z4)).mono ?_; rintro e w7 ⟨rfl, b⟩
    have z5 := seq_below z4 b
    refine hK _ _ ⟨z5, ?_⟩; clear hK
    refine wpSeq_heldE rfl rfl (yields_str_addE rfl _ _ _ _ rfl E9.out rfl rfl (Nat.le_trans M9.out (by decide))) _ (by simp only [List.setIfInBounds_toArray, List.set_cons_zero, List.set_cons_succ]; rfl) ?_
    refine wpSeq_heldE rfl rfl (yields_str_addE rfl _ _ _ _ rfl E10.out rfl rfl (Nat.le_trans M10.out (by decide))) _ (by simp only [List.setIfInBounds_toArray, List.set_cons_zero, List.set_cons_succ]; rfl) ?_
    refine wpSeq_step rfl rfl (fun K hK => ?_)
    go_wp2_with fail
    refine (CX.out _ (HS.out.below z5) (HT.out.on z5)).mono ?_; rintro e w8 ⟨rfl, b⟩
    have z6 := seq_below z5 b
    refine hK _ _ ⟨z6, ?_⟩; clear hK
    refine wpSeq_heldE rfl rfl (yields_str_addE rfl _ _ _ _ rfl E11.out rfl rfl (Nat.le_trans M11.out (by decide))) _ (by simp only [List.setIfInBounds_toArray, List.set_cons_zero, List.set_cons_succ]; rfl) ?_
    refine wpSeq_heldE rfl rfl (yields_str_addE rfl _ _ _ _ rfl E12.out rfl rfl (Nat.le_trans M12.out (by decide))) _ (by simp only [List.setIfInBounds_toArray, List.set_cons_zero, List.set_cons_succ]; rfl) ?_
    refine wpSeq_held rfl (yields_move rfl _ (.inr rfl)) ?_
    refine wpSeq_nil ?_
    have HZ := Lib.hid (seq_below HB.out z6)
    clear z0 z1 z2 z3 z4 z5 z6
    go_wp2_with fail
    go_ret
    exact ⟨rfl, HZ.out⟩
end Go.Proofs.YtdhpaglcggeknaaGreatDoor
namespace Go.Proofs.YtdhpaglcggeknaaGreatDoor
open Go.RowKit Go.Fl
end Go.Proofs.YtdhpaglcggeknaaGreatDoor
