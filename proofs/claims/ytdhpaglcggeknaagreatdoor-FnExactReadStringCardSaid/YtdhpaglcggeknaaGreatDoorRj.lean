/- ReadFilter, in the program. ReadFilter, in the reference. Written by genrf.py. No condition. -/
import Derived.Test.YtdhpaglcggeknaaGreatDoorRh
import Derived.Test.YtdhpaglcggeknaaGreatDoorHa
import Derived.Laws.Cover3
namespace Go.Proofs.YtdhpaglcggeknaaGreatDoor
open Go.RowKit Go.Fl
def fzer : List Value := filC 0 0 0 0 0 0
/-- What ReadFilter hands back. -/
def RfE (s : List UInt8) (e : Ending) : Prop := (∃ F, rfP s = some F ∧ e = .returned (.tuple #[.agg (filC F.k F.c0 F.c1 F.c2 F.s0 F.s1).toArray, .int .i64 0])) ∨ (rfP s = none ∧ e = .returned (.tuple #[.agg fzer.toArray, .int .i64 5]))
theorem seven {α : Type} {l : List α} (h : l.length = 7) : ∃ a b c d e f g, l = [a, b, c, d, e, f, g] := by
  match l, h with
  | [a, b, c, d, e, f, g], _ => exact ⟨a, b, c, d, e, f, g, rfl⟩
theorem five_of {l : List Nat} (h : l.length = 5) : ∃ a b c d e, l = [a, b, c, d, e] := by
  match l, h with
  | [a, b, c, d, e], _ => exact ⟨a, b, c, d, e, rfl⟩
theorem info_a3f : (Tryz.prog.info? 26).map (·.size) = some 3 := by kernel_rfl
theorem info_a2f : (Tryz.prog.info? 27).map (·.size) = some 2 := by kernel_rfl
set_option maxRecDepth 20000 in
set_option maxHeartbeats 4000000 in
theorem c_iReadFilter (s : List UInt8) (hs : s.length ≤ 1048576) (w : World) (hT : Tz w) (hE : Ev w) (hM : Mx w) :
    Calls Tryz.prog 18 #[.string (bs s)] w fun e w' => RfE s e ∧ Below w.heap.size w w' := by
  have q2 : Row (w.alloc (.cells fzer.toArray 29)) w.heap.size fzer.toArray 29 := Row.new _ _ _ _ rfl
  have hb0 := Go.Joins.below_alloc1 w (.cells fzer.toArray 29)
  have HB0 := Lib.hid hb0
  have HQ2 := Lib.hid q2
  have CS := Lib.hid (fun W (h : Mx W) => c_split s (by omega) W h)
  have HT := Lib.hid (hT.on hb0); have HE := Lib.hid (hE.on hb0); have HM := Lib.hid (hM.on hb0)
  have HCN := Lib.hid (spl_count 32 s); have HSS := Lib.hid hs
  have HLE := Lib.hid (spl_le 32 s)
  clear q2 hs hT hE hM hb0
  by_cases h7 : (spl 32 s).length = 7
  · obtain ⟨p0, p1, p2, p3, p4, p5, p6, hps⟩ := seven h7
    have HPS := Lib.hid hps
    rw [hps] at CS HLE
    clear h7 hps HCN
    obtain ⟨t, ht⟩ : ∃ t, bs s = t := ⟨_, rfl⟩
    rw [ht] at CS ⊢
    have HTT := Lib.hid ht
    clear ht
    go_enter Tryz.func18, Tryz.ntmps18
    go_wp2_with fail
    refine (CS.out _ HM.out).mono ?_; rintro e w1 ⟨g, rfl, hp, b⟩
    have HB1 := Lib.hid (seq_below HB0.out b); have HQ3 := Lib.hid (HQ2.out.below b HQ2.out.lt); have HP1 := Lib.hid hp
    replace HT := Lib.hid (HT.out.on b); replace HE := Lib.hid (HE.out.on b)
    clear b hp HB0 HQ2 HM CS
    have hc1 : w1.cell? ⟨g, 1, none⟩ = some (.string (bs p1)) := by have := HP1.out.2 1 p1 rfl; rwa [Nat.zero_add] at this
    have HP2 : Hid (Prt w1 g 2 [p2, p3, p4, p5, p6]) := Lib.hid (by have := HP1.out.drop 2; rwa [Nat.zero_add] at this)
    have CP := Lib.hid (fun W (h : Ev W) => c_parseInt p1 (Nat.le_trans (HLE.out p1 (by simp)) (by have := HSS.out; omega)) W h)
    have CR := Lib.hid (fun W (hp : Prt W g 2 [p2, p3, p4, p5, p6]) (h1 : Tz W) (h2 : Ev W) => c_readSamples g 2 5 5 [p2, p3, p4, p5, p6] W hp rfl (by decide) (fun q hq => Nat.le_trans (HLE.out q (List.mem_cons_of_mem _ (List.mem_cons_of_mem _ hq))) (by have := HSS.out; omega)) h1 h2)
    clear HP1
    have hl7 : ([p0, p1, p2, p3, p4, p5, p6] : List (List UInt8)).length = 7 := rfl
    rw [hl7]
    clear hl7
    go_wp2_with fail
    refine (CP.out _ HE.out).mono ?_; rintro e w2 ⟨hpi, b⟩
    replace HB1 := Lib.hid (seq_below HB1.out b); replace HQ3 := Lib.hid (HQ3.out.below b HQ3.out.lt); replace HP2 := Lib.hid (HP2.out.on b)
    replace HT := Lib.hid (HT.out.on b); replace HE := Lib.hid (HE.out.on b)
    clear b hc1
    rcases hpi with ⟨v, hv, rfl⟩ | ⟨hv, v, N, rfl⟩
    · have HV := Lib.hid hv; clear hv
      go_wp2_with fail
      refine (CR.out _ HP2.out HT.out HE.out).mono ?_; rintro e w3 ⟨hr, b⟩
      replace HB1 := Lib.hid (seq_below HB1.out b); replace HQ3 := Lib.hid (HQ3.out.below b HQ3.out.lt)
      replace HT := Lib.hid (HT.out.on b)
      clear b
      rcases hr with ⟨xs, A, c, hx, rfl, ho⟩ | ⟨hx, rfl⟩
      · obtain ⟨x0, x1, x2, x3, x4, rfl⟩ := five_of (rdAll_length hx)
        have hlt := rdAll_lt hx
        have HF : Hid (Fb x0 x1 x2 x3 x4) := Lib.hid ⟨hlt _ (by simp), hlt _ (by simp), hlt _ (by simp), hlt _ (by simp), hlt _ (by simp)⟩
        have HX := Lib.hid hx
        obtain ⟨_, hA⟩ := ho
        rcases hA with ⟨_, h0, _⟩ | ⟨gA, r, rfl, hgA, hpre, hc⟩
        · exact absurd h0 (by simp)
        · have HPR := Lib.hid hpre
          have hgl : gA < w3.heap.size := HPR.out.lt
          have hc5 : 5 ≤ c := by simp at hc; omega
          have hcc : c ≤ maxLen := by assumption
          have HPA : Hid (((fll [x0, x1, x2, x3, x4] ++ r).drop 0).take (fll [x0, x1, x2]).length = fll [x0, x1, x2]) := rfl
          have HPB : Hid (((fll [x0, x1, x2, x3, x4] ++ r).drop 3).take (fll [x3, x4]).length = fll [x3, x4]) := rfl
          have hA3 := fun W => run_arrayAt (P := Tryz.prog) W 26 25 3 (some ⟨gA, 0, none⟩) 3 c Tryz.underlying26 (Nat.le_refl _)
          have hA2 := fun W => run_arrayAt (P := Tryz.prog) W 27 25 2 (some ⟨gA, 3, none⟩) 2 (c - 3) Tryz.underlying27 (Nat.le_refl _)
          have HA3 := Lib.hid hA3; have HA2 := Lib.hid hA2
          have CT := Lib.hid (fun W (h : Tz W) => c_iFilterText v x0 x1 x2 x3 x4 W HF.out h)
          have HGL := Lib.hid hgl
          have HC3 := Lib.hid (show ¬ ((c : Int) < 3) from by omega); have HC4 := Lib.hid (show ¬ c = 3 from by omega)
          clear hc5 hcc
          clear hx hlt hpre hc hgA hA3 hA2 hgl
          have hl5 : ([p2, p3, p4, p5, p6] : List (List UInt8)).length = 5 := rfl
          rw [hl5]
          clear hl5
          go_wp2_with fail
          have z0 := (Below.refl w3.heap.size w3).drew
          refine wp_region_seq (S := fun w' => Below w3.heap.size w3 w') [(true, 0), (true, 1), (true, 2), (true, 3), (true, 4), (true, 5), (true, 6), (true, 7), (true, 8), (true, 9), (false, 10), (false, 11)] (by kernel_rfl) (by kernel_rfl) (by kernel_rfl) (fun _ _ d _ _ h => by cases d <;> exact h) z0 ?_
          refine wpSeq_heldE (v := .int .i64 v) rfl rfl (.inl ⟨rfl, fun w' hw => by go_simp⟩) _ (by simp only [List.setIfInBounds_toArray, List.set_cons_zero, List.set_cons_succ]; rfl) ?_
          refine wpSeq_heldE (v := .slice (some ⟨gA, 0, none⟩) 5 c) rfl rfl (.inl ⟨rfl, fun w' hw => by go_simp⟩) _ (by simp only [List.setIfInBounds_toArray, List.set_cons_zero, List.set_cons_succ]; rfl) ?_
          refine wpSeq_heldE (v := .slice (some ⟨gA, 0, none⟩) 3 c) rfl rfl (.inl ⟨rfl, fun w' hw => by have k := HC3.out; go_simp⟩) _ (by simp only [List.setIfInBounds_toArray, List.set_cons_zero, List.set_cons_succ]; rfl) ?_
          refine wpSeq_heldE (v := .pointer (some ⟨gA, 0, none⟩)) rfl rfl (.inl ⟨rfl, fun w' hw => by have k := HA3.out w'; go_simp⟩) _ (by simp only [List.setIfInBounds_toArray, List.set_cons_zero, List.set_cons_succ]; rfl) ?_
          refine wpSeq_heldE (v := .agg (fll [x0, x1, x2]).toArray) rfl rfl (yields_load_part (w0 := w3) rfl _ _ rfl gA 0 rfl (fll [x0, x1, x2]) HPR.out HGL.out (fun _ h => h) HPA.out Tryz.underlying26 rfl info_a3f) _ (by simp only [List.setIfInBounds_toArray, List.set_cons_zero, List.set_cons_succ]; rfl) ?_
          refine wpSeq_heldE (v := .slice (some ⟨gA, 0, none⟩) 5 c) rfl rfl (.inl ⟨rfl, fun w' hw => by go_simp⟩) _ (by simp only [List.setIfInBounds_toArray, List.set_cons_zero, List.set_cons_succ]; rfl) ?_
          refine wpSeq_heldE (v := .slice (some ⟨gA, 3, none⟩) 2 (c - 3)) rfl rfl (.inl ⟨rfl, fun w' hw => by have k := HC4.out; have k2 := HC3.out; go_simp⟩) _ (by simp only [List.setIfInBounds_toArray, List.set_cons_zero, List.set_cons_succ]; rfl) ?_
          refine wpSeq_heldE (v := .pointer (some ⟨gA, 3, none⟩)) rfl rfl (.inl ⟨rfl, fun w' hw => by have k := HA2.out w'; go_simp⟩) _ (by simp only [List.setIfInBounds_toArray, List.set_cons_zero, List.set_cons_succ]; rfl) ?_
          refine wpSeq_heldE (v := .agg (fll [x3, x4]).toArray) rfl rfl (yields_load_part (w0 := w3) rfl _ _ rfl gA 3 rfl (fll [x3, x4]) HPR.out HGL.out (fun _ h => h) HPB.out Tryz.underlying27 rfl info_a2f) _ (by simp only [List.setIfInBounds_toArray, List.set_cons_zero, List.set_cons_succ]; rfl) ?_
          refine wpSeq_heldE (v := .agg (filC v x0 x1 x2 x3 x4).toArray) rfl rfl (.inl ⟨rfl, fun w' hw => by go_simp; rfl⟩) _ (by simp only [List.setIfInBounds_toArray, List.set_cons_zero, List.set_cons_succ]; rfl) ?_
          refine wpSeq_step rfl rfl (fun K hK => ?_)
          go_wp2_with fail
          have z1 : Below w3.heap.size w3 (w3.alloc (.cells #[.int .i64 0, .float .f32 0, .float .f32 0, .float .f32 0, .float .f32 0, .float .f32 0] 29)).drew := (Go.Joins.below_alloc1 w3 _).drew
          refine ⟨z1, ?_⟩
          refine wpSeq_step rfl rfl (fun K hK => ?_)
          have q8 : Row (w3.alloc (.cells #[.int .i64 0, .float .f32 0, .float .f32 0, .float .f32 0, .float .f32 0, .float .f32 0] 29)).drew w3.heap.size #[.int .i64 0, .float .f32 0, .float .f32 0, .float .f32 0, .float .f32 0, .float .f32 0] 29 := Row.new w3 #[.int .i64 0, .float .f32 0, .float .f32 0, .float .f32 0, .float .f32 0, .float .f32 0] 29 _ rfl
          refine wp_store_cells (cells := (filC v x0 x1 x2 x3 x4).toArray) 29 _ _ rfl _ rfl rfl q8 info_filt rfl rfl ?_
          have z2 := below_setRow z1 (g := w3.heap.size) (Nat.le_refl _) (filC v x0 x1 x2 x3 x4).toArray
          have q9 := q8.row (filC v x0 x1 x2 x3 x4).toArray
          refine hK _ _ ⟨z2, ?_⟩; clear hK q8
          refine wpSeq_nil ?_
          obtain ⟨w4, hw4⟩ : ∃ w4, w4 = ((w3.alloc (.cells #[.int .i64 0, .float .f32 0, .float .f32 0, .float .f32 0, .float .f32 0, .float .f32 0] 29)).drew).setRow w3.heap.size (filC v x0 x1 x2 x3 x4).toArray := ⟨_, rfl⟩
          rw [← hw4] at z2 q9 ⊢
          have HW4 := Lib.hid hw4
          have Q9 := Lib.hid q9
          replace HB1 := Lib.hid (seq_below HB1.out z2); replace HQ3 := Lib.hid (HQ3.out.below z2 HQ3.out.lt); replace HT := Lib.hid (HT.out.on z2)
          clear z0 z1 z2 q9 hw4 HPR HPA HPB HA3 HA2
          go_wp2_with (refine wpList_load_cells rfl 29 _ rfl _ rfl Q9.out Tryz.underlying29 rfl info_filt ?_)
          refine (CT.out _ HT.out).mono ?_; rintro e w5 ⟨rfl, b⟩
          replace HB1 := Lib.hid (seq_below HB1.out b); replace HQ3 := Lib.hid (HQ3.out.below b HQ3.out.lt); replace Q9 := Lib.hid (Q9.out.below b Q9.out.lt)
          clear b
          by_cases heq : filTV v x0 x1 x2 x3 x4 = s
          · have HR := Lib.hid (rfP_of HPS.out HV.out HX.out heq)
            have hb1 : ((bs (filTV v x0 x1 x2 x3 x4)).toList == t.toList) = true := by rw [← HTT.out, bs_beq, decide_eq_true heq]
            have hb2 : ((bs (filTV v x0 x1 x2 x3 x4)).toList != t.toList) = false := by unfold bne; rw [hb1]; rfl
            clear heq
            generalize bs (filTV v x0 x1 x2 x3 x4) = T at *
            go_wp2_with (first
              | (refine wpList_load_cells rfl 29 _ rfl _ rfl Q9.out Tryz.underlying29 rfl info_filt ?_)
              | (refine wpList_store_cells (cells := (filC v x0 x1 x2 x3 x4).toArray) rfl 29 _ _ rfl _ rfl rfl HQ3.out info_filt rfl rfl ?_))
            exact bodyPost_ret (results_cells_tmp rfl _ _ _ rfl rfl (HQ3.out.row (filC v x0 x1 x2 x3 x4).toArray) Tryz.underlying29 rfl info_filt) rfl ⟨.inl ⟨_, HR.out, rfl⟩, below_setRow HB1.out (Nat.le_refl _) _⟩
          · have HR : Hid (rfP s = none) := Lib.hid (by
              cases hr : rfP s with
              | none => rfl
              | some F =>
                exfalso
                obtain ⟨r1, r2, r3, r4, r5, r6, h1, _, h3, h4, _, h6⟩ := rfP_yes hr
                rw [HPS.out] at h1
                simp only [List.cons.injEq, and_true] at h1
                obtain ⟨_, rfl, rfl, rfl, rfl, rfl, rfl⟩ := h1
                rw [HX.out] at h4
                rw [HV.out] at h3
                cases h3
                simp only [Option.some.injEq, List.cons.injEq, and_true] at h4
                obtain ⟨e0, e1, e2, e3, e4⟩ := h4
                rw [← e0, ← e1, ← e2, ← e3, ← e4] at h6
                exact heq h6)
            have hb1 : ((bs (filTV v x0 x1 x2 x3 x4)).toList == t.toList) = false := by rw [← HTT.out, bs_beq, decide_eq_false heq]
            have hb2 : ((bs (filTV v x0 x1 x2 x3 x4)).toList != t.toList) = true := by unfold bne; rw [hb1]; rfl
            clear heq
            generalize bs (filTV v x0 x1 x2 x3 x4) = T at *
            go_wp2_with (refine wpList_store_cells (cells := fzer.toArray) rfl 29 _ _ rfl _ rfl rfl HQ3.out info_filt rfl rfl ?_)
            exact bodyPost_ret (results_cells_tmp rfl _ _ _ rfl rfl (HQ3.out.row fzer.toArray) Tryz.underlying29 rfl info_filt) rfl ⟨.inr ⟨HR.out, rfl⟩, below_setRow HB1.out (Nat.le_refl _) _⟩
      · have HR : Hid (rfP s = none) := Lib.hid (by
          cases hr : rfP s with
          | none => rfl
          | some F =>
            exfalso
            obtain ⟨r1, r2, r3, r4, r5, r6, h1, _, h3, h4, _, h6⟩ := rfP_yes hr
            rw [HPS.out] at h1
            simp only [List.cons.injEq, and_true] at h1
            obtain ⟨_, rfl, rfl, rfl, rfl, rfl, rfl⟩ := h1
            rw [hx] at h4; cases h4)
        clear hx
        go_wp2_with (refine wpList_store_cells (cells := fzer.toArray) rfl 29 _ _ rfl _ rfl rfl HQ3.out info_filt rfl rfl ?_)
        exact bodyPost_ret (results_cells_tmp rfl _ _ _ rfl rfl (HQ3.out.row fzer.toArray) Tryz.underlying29 rfl info_filt) rfl ⟨.inr ⟨HR.out, rfl⟩, below_setRow HB1.out (Nat.le_refl _) _⟩
    · have HR : Hid (rfP s = none) := Lib.hid (by
        cases hr : rfP s with
        | none => rfl
        | some F =>
          exfalso
          obtain ⟨r1, r2, r3, r4, r5, r6, h1, _, h3, h4, _, h6⟩ := rfP_yes hr
          rw [HPS.out] at h1
          simp only [List.cons.injEq, and_true] at h1
          obtain ⟨_, rfl, rfl, rfl, rfl, rfl, rfl⟩ := h1
          exact hv _ h3)
      clear hv
      go_wp2_with fail
      refine (CR.out _ HP2.out HT.out HE.out).mono ?_; rintro e w3 ⟨hr, b⟩
      replace HB1 := Lib.hid (seq_below HB1.out b); replace HQ3 := Lib.hid (HQ3.out.below b HQ3.out.lt)
      clear b
      rcases hr with ⟨xs, A, c, hx, rfl, ho⟩ | ⟨hx, rfl⟩
      all_goals
        try clear ho
        clear hx
        go_wp2_with (refine wpList_store_cells (cells := fzer.toArray) rfl 29 _ _ rfl _ rfl rfl HQ3.out info_filt rfl rfl ?_)
        exact bodyPost_ret (results_cells_tmp rfl _ _ _ rfl rfl (HQ3.out.row fzer.toArray) Tryz.underlying29 rfl info_filt) rfl ⟨.inr ⟨HR.out, rfl⟩, below_setRow HB1.out (Nat.le_refl _) _⟩
  · have HRR := Lib.hid (rfP_len h7)
    generalize spl 32 s = ps at *
    go_enter Tryz.func18, Tryz.ntmps18
    go_wp2_with fail
    refine (CS.out _ HM.out).mono ?_; rintro e w1 ⟨g, rfl, hp, b⟩
    have HB1 := Lib.hid (seq_below HB0.out b); have HQ3 := Lib.hid (HQ2.out.below b HQ2.out.lt)
    have hln : (ps.length : Int) ≤ 1048577 := by have := HCN.out; have := HSS.out; omega
    clear b hp HB0 HQ2
    go_wp2_with (refine wpList_store_cells (cells := fzer.toArray) rfl 29 _ _ rfl _ rfl rfl HQ3.out info_filt rfl rfl ?_)
    exact bodyPost_ret (results_cells_tmp rfl _ _ _ rfl rfl (HQ3.out.row fzer.toArray) Tryz.underlying29 rfl info_filt) rfl ⟨.inr ⟨HRR.out, rfl⟩, below_setRow HB1.out (Nat.le_refl _) _⟩
end Go.Proofs.YtdhpaglcggeknaaGreatDoor
namespace Go.Proofs.YtdhpaglcggeknaaGreatDoor
open Go.RowKit Go.Fl
def RR (p1 : List UInt8) (qs : List (List UInt8)) (k : Int) (j : Nat) (ys : List Nat) (b : Bool) : Prop := (b = true → (∃ n : Nat, k = n ∧ numS p1 = some n) ∧ rdAll (qs.take j) = some (ys.take j)) ∧ (b = false → numS p1 = none ∨ rdAll qs = none)
theorem RR.ok {p1 : List UInt8} {qs : List (List UInt8)} {k : Int} {j : Nat} {ys : List Nat} (h : RR p1 qs k j ys true) (hj : j < qs.length) (hy : j < ys.length) {m : Nat} (hm : rd qs[j] = some m) : RR p1 qs k (j + 1) (ys.set j m) true := by
  refine ⟨fun _ => ⟨(h.1 rfl).1, ?_⟩, fun e => by cases e⟩
  rw [rdAll_take hj (h.1 rfl).2 hm]
  rw [List.take_succ_eq_append_getElem (by rw [List.length_set]; exact hy), List.take_set_of_le (Nat.le_refl _)]
  simp
theorem RR.bad {p1 : List UInt8} {qs : List (List UInt8)} {k : Int} {j : Nat} (ys : List Nat) (hj : j < qs.length) (hm : rd qs[j] = none) (i : Nat) : RR p1 qs k i ys false :=
  ⟨(fun e => by cases e), fun _ => .inr (rdAll_bad hm qs (List.getElem_mem hj))⟩
theorem RR.no {p1 : List UInt8} {qs : List (List UInt8)} {k : Int} {j : Nat} {ys : List Nat} (h : RR p1 qs k j ys false) (zs : List Nat) (i : Nat) : RR p1 qs k i zs false :=
  ⟨(fun e => by cases e), fun _ => h.2 rfl⟩
theorem rfP_none {s p0 p1 p2 p3 p4 p5 p6 : List UInt8} (hs : spl 32 s = [p0, p1, p2, p3, p4, p5, p6]) (h : p0 ≠ fltN ∨ numS p1 = none ∨ rdAll [p2, p3, p4, p5, p6] = none) : rfP s = none := by
  cases hr : rfP s with
  | none => rfl
  | some F =>
    exfalso
    obtain ⟨r1, r2, r3, r4, r5, r6, h1, ⟨n, _, h2⟩, _, h4, _⟩ := rfP_yes hr
    rw [hs] at h1
    simp only [List.cons.injEq, and_true] at h1
    obtain ⟨rfl, rfl, rfl, rfl, rfl, rfl, rfl⟩ := h1
    rcases h with h | h | h
    · exact h rfl
    · rw [h] at h2; cases h2
    · rw [h] at h4; cases h4
theorem rfP_ok {s p1 p2 p3 p4 p5 p6 : List UInt8} (hs : spl 32 s = [fltN, p1, p2, p3, p4, p5, p6]) {n a b c d e : Nat} (h1 : numS p1 = some n) (h2 : rdAll [p2, p3, p4, p5, p6] = some [a, b, c, d, e]) : rfP s = if okF (n : Int) [a, b, c] [d, e] = true then some ⟨n, a, b, c, d, e⟩ else none := by
  unfold rfP
  rw [hs]
  show (if fltN = fltN then _ else none) = _
  rw [if_pos rfl, h1, h2]
set_option maxRecDepth 20000 in
set_option maxHeartbeats 8000000 in
theorem c_sReadFilter (s : List UInt8) (hs : s.length ≤ 1048576) (w : World) :
    Calls Tryz.prog 12 #[.string (bs s)] w fun e w' => RfE s e ∧ Below w.heap.size w w' := by
  have q2 : Row (w.alloc (.cells fzer.toArray 29)) w.heap.size fzer.toArray 29 := Row.new _ _ _ _ rfl
  have hb0 := Go.Joins.below_alloc1 w (.cells fzer.toArray 29)
  have HB0 := Lib.hid hb0
  have HQ2 := Lib.hid q2
  have CS := Lib.hid (fun W => c_l01Split s hs W)
  have HCN := Lib.hid (spl_count 32 s); have HSS := Lib.hid hs
  clear q2 hs hb0
  by_cases h7 : (spl 32 s).length = 7
  · obtain ⟨p0, p1, p2, p3, p4, p5, p6, hps⟩ := seven h7
    have HPS := Lib.hid hps
    rw [hps] at CS
    clear h7 hps HCN
    obtain ⟨t, ht⟩ : ∃ t, bs s = t := ⟨_, rfl⟩
    rw [ht] at CS ⊢
    clear ht
    go_enter Tryz.func12, Tryz.ntmps12
    go_wp2_with fail
    refine (CS.out _).mono ?_; rintro e w1 ⟨g, c, rfl, hp, b⟩
    have HB1 := Lib.hid (seq_below HB0.out b); have HQ3 := Lib.hid (HQ2.out.below b HQ2.out.lt); have HP1 := Lib.hid hp
    clear b hp HB0 HQ2 CS
    have hl7 : ([p0, p1, p2, p3, p4, p5, p6] : List (List UInt8)).length = 7 := rfl
    rw [hl7]
    clear hl7
    have hc0 : w1.cell? ⟨g, 0, none⟩ = some (.string (bs p0)) := by have := HP1.out.2 0 p0 rfl; rwa [Nat.zero_add] at this
    by_cases h0 : p0 = fltN
    · subst h0
      have hb1 : ((bs fltN).toList == (bs fltN).toList) = true := by rw [bs_beq]; simp
      have hc1 : w1.cell? ⟨g, 1, none⟩ = some (.string (bs p1)) := by have := HP1.out.2 1 p1 rfl; rwa [Nat.zero_add] at this
      have CN := Lib.hid (fun W => c_l01Number p1 W)
      have hflt : (⟨#[102, 105, 108, 116, 101, 114]⟩ : ByteArray) = bs fltN := rfl
      go_wp2_with fail
      refine (CN.out _).mono ?_; rintro e w2 ⟨hn, b⟩
      replace HB1 := Lib.hid (seq_below HB1.out b); replace HQ3 := Lib.hid (HQ3.out.below b HQ3.out.lt); replace HP1 := Lib.hid (HP1.out.on b)
      clear b hc0 hc1 CN
      obtain ⟨k, ok, hR0, rfl⟩ : ∃ (k : Int) (ok : Bool), RR p1 [p2, p3, p4, p5, p6] k 0 [0, 0, 0, 0, 0] ok ∧ e = .returned (.tuple #[.int .i64 k, .bool ok]) := by
        rcases hn with ⟨n, hn, rfl⟩ | ⟨hn, rfl⟩
        · exact ⟨n, true, ⟨fun _ => ⟨⟨n, rfl, hn⟩, rfl⟩, fun e => by cases e⟩, rfl⟩
        · exact ⟨0, false, ⟨fun e => by (cases e), fun _ => .inl hn⟩, rfl⟩
      have HR0 := Lib.hid hR0
      clear hn hR0
      have HGP := Lib.hid HP1.out.1; have HLT := Lib.hid HQ3.out.lt
      go_wp2_with (refine wpList_store_newest (cells := (filC k 0 0 0 0 0).toArray) rfl 29 _ _ rfl rfl rfl info_filt rfl rfl (fun w4 b4 hr4 => ?_); replace HB1 := Lib.hid (seq_below HB1.out b4); replace HQ3 := Lib.hid (HQ3.out.below b4 HQ3.out.lt); replace HP1 := Lib.hid (HP1.out.on b4); have H7 := Lib.hid hr4; have HSZ := Lib.hid b4.size; clear b4 hr4)
      obtain ⟨G7, hG⟩ : ∃ G, G = w2.heap.size := ⟨_, rfl⟩
      rw [← hG] at H7 HSZ ⊢
      have HG2 := Lib.hid (show w.heap.size < G7 from by rw [hG]; exact HLT.out)
      have HGG := Lib.hid (show g < G7 from by rw [hG]; exact HGP.out)
      clear hG
      go_loopw [6, 8] (fun vb i wr => ∃ (j y0 y1 y2 y3 y4 : Nat) (b : Bool), j ≤ 5 ∧ i = .int .i64 j ∧ vb = .bool b ∧ Hid (RR p1 [p2, p3, p4, p5, p6] k j [y0, y1, y2, y3, y4] b) ∧ Row wr G7 (filC k y0 y1 y2 y3 y4).toArray 29 ∧ Row wr w.heap.size fzer.toArray 29 ∧ Prt wr g 0 [fltN, p1, p2, p3, p4, p5, p6] ∧ Below w.heap.size w wr) (fun _ i _ => 5 - (intOf i).toNat)
      case atStart => exact ⟨0, 0, 0, 0, 0, 0, ok, by decide, rfl, rfl, HR0.out, H7.out, HQ3.out, HP1.out, HB1.out⟩
      case round =>
        clear HR0 H7 HQ3 HP1 HB1
        obtain ⟨j, y0, y1, y2, y3, y4, b, hj, rfl, rfl, HR, h7, h2, hp, hb⟩ := hrel
        have H7 := Lib.hid h7; have H2 := Lib.hid h2; have HP := Lib.hid hp; have HB := Lib.hid hb
        clear h7 h2 hp hb
        rcases (by omega : j = 0 ∨ j = 1 ∨ j = 2 ∨ j = 3 ∨ j = 4 ∨ j = 5) with rfl | rfl | rfl | rfl | rfl | rfl
        · have hc : wr.cell? ⟨g, 2, none⟩ = some (.string (bs p2)) := by have := HP.out.2 2 p2 rfl; rwa [Nat.zero_add] at this
          go_wp2_with fail
          refine (c_l01Read p2 _).mono ?_; rintro e w9 ⟨hr, b9⟩
          replace H7 := Lib.hid (H7.out.below b9 H7.out.lt); replace H2 := Lib.hid (H2.out.below b9 H2.out.lt); replace HP := Lib.hid (HP.out.on b9); replace HB := Lib.hid (seq_below HB.out b9)
          clear b9 hc
          have c7 : w9.cell? ⟨G7, 1, none⟩ = some (.float .f32 y0) := H7.out.cell 1 _ rfl
          have f7 := H7.out.free 1
          rcases hr with ⟨m, hm, rfl⟩ | ⟨hm, m, rfl⟩
          all_goals cases b
          · have HN := Lib.hid (HR.out.no [m, y1, y2, y3, y4] 1); clear hm HR
            go_wp2_with fail
            go_roundw
            case rel => exact ⟨1, m, y1, y2, y3, y4, false, by decide, rfl, rfl, HN.out, H7.out.set 1 (.float .f32 m), H2.out.other (Nat.ne_of_lt HG2.out) _, HP.out.below (below_setCell (Below.refl G7 _) (Nat.le_refl _) _) HGG.out, below_setCell HB.out (Nat.le_of_lt HG2.out) _⟩
            case measure => simp [intOf]
          · have HN := Lib.hid (HR.out.ok (by simp) (by simp) hm); clear hm HR
            go_wp2_with fail
            go_roundw
            case rel => exact ⟨1, m, y1, y2, y3, y4, true, by decide, rfl, rfl, HN.out, H7.out.set 1 (.float .f32 m), H2.out.other (Nat.ne_of_lt HG2.out) _, HP.out.below (below_setCell (Below.refl G7 _) (Nat.le_refl _) _) HGG.out, below_setCell HB.out (Nat.le_of_lt HG2.out) _⟩
            case measure => simp [intOf]
          · have HN := Lib.hid (HR.out.no [m, y1, y2, y3, y4] 1); clear hm HR
            go_wp2_with fail
            go_roundw
            case rel => exact ⟨1, m, y1, y2, y3, y4, false, by decide, rfl, rfl, HN.out, H7.out.set 1 (.float .f32 m), H2.out.other (Nat.ne_of_lt HG2.out) _, HP.out.below (below_setCell (Below.refl G7 _) (Nat.le_refl _) _) HGG.out, below_setCell HB.out (Nat.le_of_lt HG2.out) _⟩
            case measure => simp [intOf]
          · have HN := Lib.hid (RR.bad (p1 := p1) (k := k) (qs := [p2, p3, p4, p5, p6]) (j := 0) [m, y1, y2, y3, y4] (by simp) hm 1); clear hm HR
            go_wp2_with fail
            go_roundw
            case rel => exact ⟨1, m, y1, y2, y3, y4, false, by decide, rfl, rfl, HN.out, H7.out.set 1 (.float .f32 m), H2.out.other (Nat.ne_of_lt HG2.out) _, HP.out.below (below_setCell (Below.refl G7 _) (Nat.le_refl _) _) HGG.out, below_setCell HB.out (Nat.le_of_lt HG2.out) _⟩
            case measure => simp [intOf]
        · have hc : wr.cell? ⟨g, 3, none⟩ = some (.string (bs p3)) := by have := HP.out.2 3 p3 rfl; rwa [Nat.zero_add] at this
          go_wp2_with fail
          refine (c_l01Read p3 _).mono ?_; rintro e w9 ⟨hr, b9⟩
          replace H7 := Lib.hid (H7.out.below b9 H7.out.lt); replace H2 := Lib.hid (H2.out.below b9 H2.out.lt); replace HP := Lib.hid (HP.out.on b9); replace HB := Lib.hid (seq_below HB.out b9)
          clear b9 hc
          have c7 : w9.cell? ⟨G7, 2, none⟩ = some (.float .f32 y1) := H7.out.cell 2 _ rfl
          have f7 := H7.out.free 2
          rcases hr with ⟨m, hm, rfl⟩ | ⟨hm, m, rfl⟩
          all_goals cases b
          · have HN := Lib.hid (HR.out.no [y0, m, y2, y3, y4] 2); clear hm HR
            go_wp2_with fail
            go_roundw
            case rel => exact ⟨2, y0, m, y2, y3, y4, false, by decide, rfl, rfl, HN.out, H7.out.set 2 (.float .f32 m), H2.out.other (Nat.ne_of_lt HG2.out) _, HP.out.below (below_setCell (Below.refl G7 _) (Nat.le_refl _) _) HGG.out, below_setCell HB.out (Nat.le_of_lt HG2.out) _⟩
            case measure => simp [intOf]
          · have HN := Lib.hid (HR.out.ok (by simp) (by simp) hm); clear hm HR
            go_wp2_with fail
            go_roundw
            case rel => exact ⟨2, y0, m, y2, y3, y4, true, by decide, rfl, rfl, HN.out, H7.out.set 2 (.float .f32 m), H2.out.other (Nat.ne_of_lt HG2.out) _, HP.out.below (below_setCell (Below.refl G7 _) (Nat.le_refl _) _) HGG.out, below_setCell HB.out (Nat.le_of_lt HG2.out) _⟩
            case measure => simp [intOf]
          · have HN := Lib.hid (HR.out.no [y0, m, y2, y3, y4] 2); clear hm HR
            go_wp2_with fail
            go_roundw
            case rel => exact ⟨2, y0, m, y2, y3, y4, false, by decide, rfl, rfl, HN.out, H7.out.set 2 (.float .f32 m), H2.out.other (Nat.ne_of_lt HG2.out) _, HP.out.below (below_setCell (Below.refl G7 _) (Nat.le_refl _) _) HGG.out, below_setCell HB.out (Nat.le_of_lt HG2.out) _⟩
            case measure => simp [intOf]
          · have HN := Lib.hid (RR.bad (p1 := p1) (k := k) (qs := [p2, p3, p4, p5, p6]) (j := 1) [y0, m, y2, y3, y4] (by simp) hm 2); clear hm HR
            go_wp2_with fail
            go_roundw
            case rel => exact ⟨2, y0, m, y2, y3, y4, false, by decide, rfl, rfl, HN.out, H7.out.set 2 (.float .f32 m), H2.out.other (Nat.ne_of_lt HG2.out) _, HP.out.below (below_setCell (Below.refl G7 _) (Nat.le_refl _) _) HGG.out, below_setCell HB.out (Nat.le_of_lt HG2.out) _⟩
            case measure => simp [intOf]
        · have hc : wr.cell? ⟨g, 4, none⟩ = some (.string (bs p4)) := by have := HP.out.2 4 p4 rfl; rwa [Nat.zero_add] at this
          go_wp2_with fail
          refine (c_l01Read p4 _).mono ?_; rintro e w9 ⟨hr, b9⟩
          replace H7 := Lib.hid (H7.out.below b9 H7.out.lt); replace H2 := Lib.hid (H2.out.below b9 H2.out.lt); replace HP := Lib.hid (HP.out.on b9); replace HB := Lib.hid (seq_below HB.out b9)
          clear b9 hc
          have c7 : w9.cell? ⟨G7, 3, none⟩ = some (.float .f32 y2) := H7.out.cell 3 _ rfl
          have f7 := H7.out.free 3
          rcases hr with ⟨m, hm, rfl⟩ | ⟨hm, m, rfl⟩
          all_goals cases b
          · have HN := Lib.hid (HR.out.no [y0, y1, m, y3, y4] 3); clear hm HR
            go_wp2_with fail
            go_roundw
            case rel => exact ⟨3, y0, y1, m, y3, y4, false, by decide, rfl, rfl, HN.out, H7.out.set 3 (.float .f32 m), H2.out.other (Nat.ne_of_lt HG2.out) _, HP.out.below (below_setCell (Below.refl G7 _) (Nat.le_refl _) _) HGG.out, below_setCell HB.out (Nat.le_of_lt HG2.out) _⟩
            case measure => simp [intOf]
          · have HN := Lib.hid (HR.out.ok (by simp) (by simp) hm); clear hm HR
            go_wp2_with fail
            go_roundw
            case rel => exact ⟨3, y0, y1, m, y3, y4, true, by decide, rfl, rfl, HN.out, H7.out.set 3 (.float .f32 m), H2.out.other (Nat.ne_of_lt HG2.out) _, HP.out.below (below_setCell (Below.refl G7 _) (Nat.le_refl _) _) HGG.out, below_setCell HB.out (Nat.le_of_lt HG2.out) _⟩
            case measure => simp [intOf]
          · have HN := Lib.hid (HR.out.no [y0, y1, m, y3, y4] 3); clear hm HR
            go_wp2_with fail
            go_roundw
            case rel => exact ⟨3, y0, y1, m, y3, y4, false, by decide, rfl, rfl, HN.out, H7.out.set 3 (.float .f32 m), H2.out.other (Nat.ne_of_lt HG2.out) _, HP.out.below (below_setCell (Below.refl G7 _) (Nat.le_refl _) _) HGG.out, below_setCell HB.out (Nat.le_of_lt HG2.out) _⟩
            case measure => simp [intOf]
          · have HN := Lib.hid (RR.bad (p1 := p1) (k := k) (qs := [p2, p3, p4, p5, p6]) (j := 2) [y0, y1, m, y3, y4] (by simp) hm 3); clear hm HR
            go_wp2_with fail
            go_roundw
            case rel => exact ⟨3, y0, y1, m, y3, y4, false, by decide, rfl, rfl, HN.out, H7.out.set 3 (.float .f32 m), H2.out.other (Nat.ne_of_lt HG2.out) _, HP.out.below (below_setCell (Below.refl G7 _) (Nat.le_refl _) _) HGG.out, below_setCell HB.out (Nat.le_of_lt HG2.out) _⟩
            case measure => simp [intOf]
        · have hc : wr.cell? ⟨g, 5, none⟩ = some (.string (bs p5)) := by have := HP.out.2 5 p5 rfl; rwa [Nat.zero_add] at this
          go_wp2_with fail
          refine (c_l01Read p5 _).mono ?_; rintro e w9 ⟨hr, b9⟩
          replace H7 := Lib.hid (H7.out.below b9 H7.out.lt); replace H2 := Lib.hid (H2.out.below b9 H2.out.lt); replace HP := Lib.hid (HP.out.on b9); replace HB := Lib.hid (seq_below HB.out b9)
          clear b9 hc
          have c7 : w9.cell? ⟨G7, 4, none⟩ = some (.float .f32 y3) := H7.out.cell 4 _ rfl
          have f7 := H7.out.free 4
          rcases hr with ⟨m, hm, rfl⟩ | ⟨hm, m, rfl⟩
          all_goals cases b
          · have HN := Lib.hid (HR.out.no [y0, y1, y2, m, y4] 4); clear hm HR
            go_wp2_with fail
            go_roundw
            case rel => exact ⟨4, y0, y1, y2, m, y4, false, by decide, rfl, rfl, HN.out, H7.out.set 4 (.float .f32 m), H2.out.other (Nat.ne_of_lt HG2.out) _, HP.out.below (below_setCell (Below.refl G7 _) (Nat.le_refl _) _) HGG.out, below_setCell HB.out (Nat.le_of_lt HG2.out) _⟩
            case measure => simp [intOf]
          · have HN := Lib.hid (HR.out.ok (by simp) (by simp) hm); clear hm HR
            go_wp2_with fail
            go_roundw
            case rel => exact ⟨4, y0, y1, y2, m, y4, true, by decide, rfl, rfl, HN.out, H7.out.set 4 (.float .f32 m), H2.out.other (Nat.ne_of_lt HG2.out) _, HP.out.below (below_setCell (Below.refl G7 _) (Nat.le_refl _) _) HGG.out, below_setCell HB.out (Nat.le_of_lt HG2.out) _⟩
            case measure => simp [intOf]
          · have HN := Lib.hid (HR.out.no [y0, y1, y2, m, y4] 4); clear hm HR
            go_wp2_with fail
            go_roundw
            case rel => exact ⟨4, y0, y1, y2, m, y4, false, by decide, rfl, rfl, HN.out, H7.out.set 4 (.float .f32 m), H2.out.other (Nat.ne_of_lt HG2.out) _, HP.out.below (below_setCell (Below.refl G7 _) (Nat.le_refl _) _) HGG.out, below_setCell HB.out (Nat.le_of_lt HG2.out) _⟩
            case measure => simp [intOf]
          · have HN := Lib.hid (RR.bad (p1 := p1) (k := k) (qs := [p2, p3, p4, p5, p6]) (j := 3) [y0, y1, y2, m, y4] (by simp) hm 4); clear hm HR
            go_wp2_with fail
            go_roundw
            case rel => exact ⟨4, y0, y1, y2, m, y4, false, by decide, rfl, rfl, HN.out, H7.out.set 4 (.float .f32 m), H2.out.other (Nat.ne_of_lt HG2.out) _, HP.out.below (below_setCell (Below.refl G7 _) (Nat.le_refl _) _) HGG.out, below_setCell HB.out (Nat.le_of_lt HG2.out) _⟩
            case measure => simp [intOf]
        · have hc : wr.cell? ⟨g, 6, none⟩ = some (.string (bs p6)) := by have := HP.out.2 6 p6 rfl; rwa [Nat.zero_add] at this
          go_wp2_with fail
          refine (c_l01Read p6 _).mono ?_; rintro e w9 ⟨hr, b9⟩
          replace H7 := Lib.hid (H7.out.below b9 H7.out.lt); replace H2 := Lib.hid (H2.out.below b9 H2.out.lt); replace HP := Lib.hid (HP.out.on b9); replace HB := Lib.hid (seq_below HB.out b9)
          clear b9 hc
          have c7 : w9.cell? ⟨G7, 5, none⟩ = some (.float .f32 y4) := H7.out.cell 5 _ rfl
          have f7 := H7.out.free 5
          rcases hr with ⟨m, hm, rfl⟩ | ⟨hm, m, rfl⟩
          all_goals cases b
          · have HN := Lib.hid (HR.out.no [y0, y1, y2, y3, m] 5); clear hm HR
            go_wp2_with fail
            go_roundw
            case rel => exact ⟨5, y0, y1, y2, y3, m, false, by decide, rfl, rfl, HN.out, H7.out.set 5 (.float .f32 m), H2.out.other (Nat.ne_of_lt HG2.out) _, HP.out.below (below_setCell (Below.refl G7 _) (Nat.le_refl _) _) HGG.out, below_setCell HB.out (Nat.le_of_lt HG2.out) _⟩
            case measure => simp [intOf]
          · have HN := Lib.hid (HR.out.ok (by simp) (by simp) hm); clear hm HR
            go_wp2_with fail
            go_roundw
            case rel => exact ⟨5, y0, y1, y2, y3, m, true, by decide, rfl, rfl, HN.out, H7.out.set 5 (.float .f32 m), H2.out.other (Nat.ne_of_lt HG2.out) _, HP.out.below (below_setCell (Below.refl G7 _) (Nat.le_refl _) _) HGG.out, below_setCell HB.out (Nat.le_of_lt HG2.out) _⟩
            case measure => simp [intOf]
          · have HN := Lib.hid (HR.out.no [y0, y1, y2, y3, m] 5); clear hm HR
            go_wp2_with fail
            go_roundw
            case rel => exact ⟨5, y0, y1, y2, y3, m, false, by decide, rfl, rfl, HN.out, H7.out.set 5 (.float .f32 m), H2.out.other (Nat.ne_of_lt HG2.out) _, HP.out.below (below_setCell (Below.refl G7 _) (Nat.le_refl _) _) HGG.out, below_setCell HB.out (Nat.le_of_lt HG2.out) _⟩
            case measure => simp [intOf]
          · have HN := Lib.hid (RR.bad (p1 := p1) (k := k) (qs := [p2, p3, p4, p5, p6]) (j := 4) [y0, y1, y2, y3, m] (by simp) hm 5); clear hm HR
            go_wp2_with fail
            go_roundw
            case rel => exact ⟨5, y0, y1, y2, y3, m, false, by decide, rfl, rfl, HN.out, H7.out.set 5 (.float .f32 m), H2.out.other (Nat.ne_of_lt HG2.out) _, HP.out.below (below_setCell (Below.refl G7 _) (Nat.le_refl _) _) HGG.out, below_setCell HB.out (Nat.le_of_lt HG2.out) _⟩
            case measure => simp [intOf]
        · cases b
          · have HN : Hid (rfP s = none) := Lib.hid (rfP_none HPS.out (.inr (HR.out.2 rfl)))
            go_wp2_with (refine wpList_store_cells (cells := fzer.toArray) rfl 29 _ _ rfl _ rfl rfl H2.out info_filt rfl rfl ?_)
            exact bodyPost_ret (results_cells_tmp rfl _ _ _ rfl rfl (H2.out.row fzer.toArray) Tryz.underlying29 rfl info_filt) rfl ⟨.inr ⟨HN.out, rfl⟩, below_setRow HB.out (Nat.le_refl _) _⟩
          · obtain ⟨⟨n, rfl, hn⟩, hx⟩ := HR.out.1 rfl
            have hF := rfP_ok HPS.out hn hx
            have cV := c_sL02Ok G7 n y0 y1 y2 y3 y4 wr H7.out
            clear hn hx HR
            cases hok : okF (n : Int) [y0, y1, y2] [y3, y4]
            · rw [hok] at cV hF
              have HN : Hid (rfP s = none) := Lib.hid (hF.trans (if_neg Bool.false_ne_true))
              have CV := Lib.hid cV
              clear cV hF hok
              go_wp2_with (first
                | (go_at_call 28; refine CV.out.mono ?_; rintro e w9 ⟨rfl, nq, hw9⟩; replace H2 : Hid (Row w9 w.heap.size fzer.toArray 29) := Lib.hid (by rw [hw9]; exact H2.out); replace HB : Hid (Below w.heap.size w w9) := Lib.hid (by rw [hw9]; exact below_drewN HB.out _); clear hw9)
                | (refine wpList_store_cells (cells := fzer.toArray) rfl 29 _ _ rfl _ rfl rfl H2.out info_filt rfl rfl ?_))
              exact bodyPost_ret (results_cells_tmp rfl _ _ _ rfl rfl (H2.out.row fzer.toArray) Tryz.underlying29 rfl info_filt) rfl ⟨.inr ⟨HN.out, rfl⟩, below_setRow HB.out (Nat.le_refl _) _⟩
            · rw [hok] at cV hF
              have HN := Lib.hid (hF.trans (if_pos rfl))
              have CV := Lib.hid cV
              clear cV hF hok
              go_wp2_with (first
                | (go_at_call 28; refine CV.out.mono ?_; rintro e w9 ⟨rfl, nq, hw9⟩; replace H2 : Hid (Row w9 w.heap.size fzer.toArray 29) := Lib.hid (by rw [hw9]; exact H2.out); replace H7 : Hid (Row w9 G7 (filC n y0 y1 y2 y3 y4).toArray 29) := Lib.hid (by rw [hw9]; exact H7.out); replace HB : Hid (Below w.heap.size w w9) := Lib.hid (by rw [hw9]; exact below_drewN HB.out _); clear hw9)
                | (refine wpList_load_cells rfl 29 _ rfl _ rfl H7.out Tryz.underlying29 rfl info_filt ?_)
                | (refine wpList_store_cells (cells := (filC n y0 y1 y2 y3 y4).toArray) rfl 29 _ _ rfl _ rfl rfl H2.out info_filt rfl rfl ?_))
              exact bodyPost_ret (results_cells_tmp rfl _ _ _ rfl rfl (H2.out.row (filC n y0 y1 y2 y3 y4).toArray) Tryz.underlying29 rfl info_filt) rfl ⟨.inl ⟨_, HN.out, rfl⟩, below_setRow HB.out (Nat.le_refl _) _⟩
    · have HN : Hid (rfP s = none) := Lib.hid (rfP_none HPS.out (.inl h0))
      have hb1 : ((bs p0).toList == (bs fltN).toList) = false := by rw [bs_beq, decide_eq_false h0]
      have hb2 : ((bs p0).toList == ([102, 105, 108, 116, 101, 114] : List UInt8)) = false := by rw [bs_toList]; exact beq_false_of_ne h0
      clear h0
      go_wp2_with (refine wpList_store_cells (cells := fzer.toArray) rfl 29 _ _ rfl _ rfl rfl HQ3.out info_filt rfl rfl ?_)
      exact bodyPost_ret (results_cells_tmp rfl _ _ _ rfl rfl (HQ3.out.row fzer.toArray) Tryz.underlying29 rfl info_filt) rfl ⟨.inr ⟨HN.out, rfl⟩, below_setRow HB1.out (Nat.le_refl _) _⟩
  · have HRR := Lib.hid (rfP_len h7)
    generalize spl 32 s = ps at *
    obtain ⟨t, ht⟩ : ∃ t, bs s = t := ⟨_, rfl⟩
    rw [ht] at CS ⊢
    clear ht
    go_enter Tryz.func12, Tryz.ntmps12
    go_wp2_with fail
    refine (CS.out _).mono ?_; rintro e w1 ⟨g, c, rfl, hp, b⟩
    have HB1 := Lib.hid (seq_below HB0.out b); have HQ3 := Lib.hid (HQ2.out.below b HQ2.out.lt)
    have hln : (ps.length : Int) ≤ 1048577 := by have := HCN.out; have := HSS.out; omega
    clear b hp HB0 HQ2
    go_wp2_with (refine wpList_store_cells (cells := fzer.toArray) rfl 29 _ _ rfl _ rfl rfl HQ3.out info_filt rfl rfl ?_)
    exact bodyPost_ret (results_cells_tmp rfl _ _ _ rfl rfl (HQ3.out.row fzer.toArray) Tryz.underlying29 rfl info_filt) rfl ⟨.inr ⟨HRR.out, rfl⟩, below_setRow HB1.out (Nat.le_refl _) _⟩
end Go.Proofs.YtdhpaglcggeknaaGreatDoor
