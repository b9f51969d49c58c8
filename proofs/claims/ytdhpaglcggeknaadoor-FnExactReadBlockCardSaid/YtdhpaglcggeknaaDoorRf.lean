/- Samples read from texts: the program's list, the reference's block; ReadBlock, both. No condition. -/
import Derived.Test.YtdhpaglcggeknaaDoorRe
import Derived.Test.YtdhpaglcggeknaaDoorTf
import Derived.Test.YtdhpaglcggeknaaDoorCa
namespace Go.Proofs.YtdhpaglcggeknaaDoor
open Go.RowKit Go.Fl
/-- Samples read from texts, all or none. -/
def rdAll : List (List UInt8) → Option (List Nat)
  | [] => some []
  | p :: r => match rd p with
    | none => none
    | some n => match rdAll r with
      | none => none
      | some xs => some (n :: xs)
theorem rdAll_snoc (p : List UInt8) : ∀ l : List (List UInt8), rdAll (l ++ [p]) = match rdAll l with
    | none => none
    | some xs => match rd p with
      | none => none
      | some n => some (xs ++ [n])
  | [] => by
    show rdAll [p] = _
    unfold rdAll
    cases rd p <;> rfl
  | q :: l => by
    have ih := rdAll_snoc p l
    show rdAll (q :: (l ++ [p])) = _
    unfold rdAll
    rw [ih]
    cases rd q with
    | none => rfl
    | some n =>
      cases rdAll l with
      | none => rfl
      | some xs => cases rd p <;> rfl
theorem rdAll_bad {p : List UInt8} (hp : rd p = none) : ∀ l : List (List UInt8), p ∈ l → rdAll l = none
  | [], h => by cases h
  | q :: l, h => by
    unfold rdAll
    rcases List.mem_cons.1 h with rfl | h
    · rw [hp]
    · rw [rdAll_bad hp l h]
      cases rd q <;> rfl
theorem rdAll_take {ps : List (List UInt8)} {k : Nat} (h : k < ps.length) {xs : List Nat} {n : Nat} (h1 : rdAll (ps.take k) = some xs) (h2 : rd ps[k] = some n) : rdAll (ps.take (k + 1)) = some (xs ++ [n]) := by
  rw [List.take_succ_eq_append_getElem h, rdAll_snoc, h1, h2]
theorem rdAll_length : ∀ {l : List (List UInt8)} {xs : List Nat}, rdAll l = some xs → xs.length = l.length
  | [], xs, h => by cases h; rfl
  | p :: l, xs, h => by
    unfold rdAll at h
    cases hp : rd p with
    | none => rw [hp] at h; cases h
    | some n =>
      rw [hp] at h
      cases hl : rdAll l with
      | none => rw [hl] at h; cases h
      | some ys =>
        rw [hl] at h
        cases h
        simp [rdAll_length hl]
theorem rdAll_lt : ∀ {l : List (List UInt8)} {xs : List Nat}, rdAll l = some xs → ∀ v ∈ xs, v < 4294967296
  | [], xs, h, v, hv => by cases h; cases hv
  | p :: l, xs, h, v, hv => by
    unfold rdAll at h
    cases hp : rd p with
    | none => rw [hp] at h; cases h
    | some n =>
      rw [hp] at h
      cases hl : rdAll l with
      | none => rw [hl] at h; cases h
      | some ys =>
        rw [hl] at h
        cases h
        rcases List.mem_cons.1 hv with rfl | hv
        · exact (rd_some hp).1
        · exact rdAll_lt hl v hv
/-- What the program's reader of many hands back. -/
def RsR (ps : List (List UInt8)) (w w' : World) (e : Ending) : Prop := (∃ xs A c, rdAll ps = some xs ∧ e = .returned (.tuple #[.slice A ps.length c, .bool true]) ∧ Own w' w.heap.size A c xs 22) ∨ (rdAll ps = none ∧ e = .returned (.tuple #[.slice none 0 0, .bool false]))
theorem info_f32e2 : (Tryd.prog.info? 22).map (fun i => (i.zero, i.size, i.bytes)) = some (some (.float .f32 0), 1, 4) := by kernel_rfl
set_option maxRecDepth 20000 in
set_option maxHeartbeats 4000000 in
theorem c_readSamples (g o n c : Nat) (ps : List (List UInt8)) (w : World) (hps : Prt w g o ps) (hn : ps.length = n) (hl : n ≤ 1048577) (hsm : ∀ p ∈ ps, p.length ≤ 1073741824) (hT : Tz w) (hE : Ev w) :
    Calls Tryd.prog 45 #[.slice (some ⟨g, o, none⟩) n c] w fun e w' => RsR ps w w' e ∧ Below w.heap.size w w' := by
  have HP := Lib.hid hps; have HN := Lib.hid hn; have HS := Lib.hid hsm; have HT := Lib.hid hT; have HE := Lib.hid hE; have HL := Lib.hid hl
  have hn0 : (0 : Int) ≤ n := by omega
  have hn1 : (n : Int) ≤ 1048577 := by omega
  clear hps hn hsm hT hE hl
  go_enter Tryd.func45, Tryd.ntmps45
  go_wp2
  go_loopw [4, 11] (fun v i wr => ∃ (k : Nat) (xs : List Nat) (A : Option Addr) (d : Nat), k ≤ n ∧ i = .int .i64 k ∧ v = .slice A k d ∧ Hid (rdAll (ps.take k) = some xs) ∧ Hid (xs.length = k) ∧ Own wr w.heap.size A d xs 22 ∧ Below w.heap.size w wr) (fun _ i _ => n - (intOf i).toNat)
  case atStart => exact ⟨0, [], none, 0, by omega, rfl, rfl, rfl, rfl, ⟨by simp [maxLen], .inl ⟨rfl, rfl, rfl⟩⟩, Below.refl _ _⟩
  case round =>
    obtain ⟨k, xs, A, d, hk, rfl, rfl, HX, HXL, ho, hb⟩ := hrel
    have HO := Lib.hid ho; have HB := Lib.hid hb; clear ho hb
    have hk0 : (0 : Int) ≤ k := by omega
    by_cases hlt : k < n
    · have hkp : k < ps.length := by rw [HN.out]; exact hlt
      have hc : wr.cell? ⟨g, o + k, none⟩ = some (.string (bs ps[k])) := (HP.out.on HB.out).2 k _ (List.getElem?_eq_getElem hkp)
      have CR := Lib.hid (c_readBits ps[k] (HS.out _ (List.getElem_mem hkp)) wr (HT.out.on HB.out) (HE.out.on HB.out))
      have hmem : ps[k] ∈ ps := List.getElem_mem hkp
      have hstep : ∀ m, rd ps[k] = some m → rdAll (ps.take (k + 1)) = some (xs ++ [m]) := fun m hm => rdAll_take hkp HX.out hm
      have hbad : rd ps[k] = none → rdAll ps = none := fun h => rdAll_bad h ps hmem
      have HST := Lib.hid hstep; have HBD := Lib.hid hbad
      clear hstep hbad hmem
      generalize ps[k] = p at *
      have hi2 : (k : Int) < n := by omega
      go_wp2_with fail
      refine CR.out.mono ?_; rintro e w1 ⟨hr, b⟩
      replace HO := Lib.hid (HO.out.below b (Nat.le_refl _)); replace HB := Lib.hid (seq_below HB.out b); clear b
      have HSZ := Lib.hid HB.out.size
      rcases hr with ⟨m, hm, rfl⟩ | ⟨hm, v, rfl⟩
      · have HM := Lib.hid (HST.out m hm); clear hm
        go_wp2_with (at_builtin; refine wpList_append_one rfl _ _ 36 rfl w.heap.size 22 Tryd.underlying36 info_f32e2 HXL.out rfl HO.out rfl (by have := HL.out; omega) HSZ.out ?_; intro A2 c2 w2 ho2' hg2' _; have HO2 := Lib.hid ho2'; have HG2 := Lib.hid hg2'; clear ho2' hg2')
        go_roundw
        case rel => exact ⟨k + 1, xs ++ [m], A2, c2, by omega, by go_num, rfl, HM.out, by have := HXL.out; simp [Hid, this], HO2.out, HB.out.grown HG2.out HSZ.out HO.out.ge⟩
        case measure => simp [intOf]; omega
      · have HM := Lib.hid (HBD.out hm); clear hm
        go_wp2_with fail
        go_ret2
        exact ⟨.inr ⟨HM.out, rfl⟩, HB.out⟩
    · have e : k = n := by omega
      subst e
      have HM := Lib.hid (show rdAll ps = some xs from by
        have := HX.out
        rwa [List.take_of_length_le (by rw [HN.out]; exact Nat.le_refl _)] at this)
      go_wp2_with fail
      go_ret2
      exact ⟨.inl ⟨xs, A, d, HM.out, by rw [HN.out]; rfl, HO.out⟩, HB.out⟩
/-- A block's text read. -/
def rb (s : List UInt8) : Option (List Nat) := if (spl 32 s).length = 16 then rdAll (spl 32 s) else none
def zer : List Nat := List.replicate 16 0
theorem set_fill (xs : List Nat) (k m v : Nat) (h : xs.length = k) : (xs ++ List.replicate (m + 1) 0).set k v = (xs ++ [v]) ++ List.replicate m 0 := by
  subst h
  rw [List.replicate_succ, List.set_append_right _ _ (Nat.le_refl _)]
  simp
theorem spl_le (c : UInt8) : ∀ s : List UInt8, ∀ p ∈ spl c s, p.length ≤ s.length
  | [], p, h => by
    simp [spl] at h; subst h; simp
  | b :: s, p, h => by
    have ih := spl_le c s
    unfold spl at h
    split at h
    · rcases List.mem_cons.1 h with rfl | h
      · simp
      · have := ih p h; simp; omega
    · split at h
      · simp at h; subst h; simp
      · rename_i q qs heq
        rcases List.mem_cons.1 h with rfl | h
        · have := ih q (by rw [heq]; simp); simp; omega
        · have := ih p (by rw [heq]; simp [h]); simp; omega
theorem spl_count (c : UInt8) : ∀ s : List UInt8, (spl c s).length ≤ s.length + 1
  | [] => by simp [spl]
  | b :: s => by
    have ih := spl_count c s
    unfold spl
    split
    · simp; omega
    · split
      · simp
      · rename_i q qs heq
        rw [heq] at ih; simp at ih ⊢; omega
set_option maxRecDepth 20000 in
set_option maxHeartbeats 4000000 in
theorem c_l01ReadBlock (s : List UInt8) (hs : s.length ≤ 1048576) (w : World) :
    Calls Tryd.prog 43 #[.string (bs s)] w fun e w' => ((∃ xs, rb s = some xs ∧ e = .returned (.tuple #[.agg (fl xs), .bool true])) ∨ (rb s = none ∧ e = .returned (.tuple #[.agg (fl zer), .bool false]))) ∧ Below w.heap.size w w' := by
  have hz16 : zer.length = 16 := rfl
  have q2 : Blk (w.alloc (.cells (fl zer) 25)) w.heap.size zer 25 := Blk.new _ _ _ _ rfl
  have HB0 := Lib.hid (Go.Joins.below_alloc1 w (.cells (fl zer) 25))
  have HQ2 := Lib.hid q2
  have CS := Lib.hid (fun W => c_l01Split s hs W)
  have HCN := Lib.hid (spl_count 32 s); have HSS := Lib.hid hs
  have HR : Hid (rb s = if (spl 32 s).length = 16 then rdAll (spl 32 s) else none) := rfl
  clear q2 hs
  generalize spl 32 s = ps at *
  go_enter Tryd.func43, Tryd.ntmps43
  go_wp2_with fail
  refine (CS.out _).mono ?_; rintro e w1 ⟨g, c, rfl, hp, b⟩
  have HB1 := Lib.hid (seq_below HB0.out b); have HQ3 := Lib.hid (Blk.below HQ2.out b HQ2.out.lt); have HP1 := Lib.hid hp
  clear b hp HB0 HQ2
  have hg5 : w.heap.size < w1.heap.size := HQ3.out.lt
  by_cases h16 : ps.length = 16
  · have HRR : Hid (rb s = rdAll ps) := Lib.hid (HR.out.trans (if_pos h16))
    have HN := Lib.hid h16
    have h16' : (ps.length : Int) = 16 := by omega
    clear HR
    rw [h16]
    clear h16'
    go_wp2_with fail
    go_loopw [6] (fun i wr => ∃ (k : Nat) (xs : List Nat), k ≤ 16 ∧ i = .int .i64 k ∧ Hid (rdAll (ps.take k) = some xs) ∧ Hid (xs.length = k) ∧ Blk wr w.heap.size zer 25 ∧ Blk wr w1.heap.size (xs ++ List.replicate (16 - k) 0) 25 ∧ Prt wr g 0 ps ∧ g < w1.heap.size ∧ Below w.heap.size w wr ∧ w1.heap.size ≤ wr.heap.size) (fun i _ => 16 - (intOf i).toNat)
    case atStart =>
      have h1 := Go.Joins.below_alloc1 w1 (.cells (fl zer) 25)
      exact ⟨0, [], by omega, rfl, rfl, rfl, HQ3.out.alloc _, Blk.newRow _ _ _ _ _ rfl rfl, HP1.out.on h1, HP1.out.1, seq_below HB1.out h1, h1.size⟩
    case round =>
      obtain ⟨k, xs, hk, rfl, HX, HXL, h2, h5, hp, hgp, hb, hsz⟩ := hrel
      have hk0 : (0 : Int) ≤ k := by omega
      have HB := Lib.hid hb; have HP := Lib.hid hp; have H2 := Lib.hid h2; have H5 := Lib.hid h5; have HSZ := Lib.hid hsz
      clear hb hp h2 h5 hsz HP1 HQ3 HB1
      by_cases hlt : k < 16
      · have hkp : k < ps.length := by rw [HN.out]; exact hlt
        have hc : wr.cell? ⟨g, k, none⟩ = some (.string (bs ps[k])) := by have := HP.out.2 k _ (List.getElem?_eq_getElem hkp); rwa [Nat.zero_add] at this
        have CR := Lib.hid (fun W => c_l01Read ps[k] W)
        have hmem : ps[k] ∈ ps := List.getElem_mem hkp
        have HST := Lib.hid (show ∀ m, rd ps[k] = some m → rdAll (ps.take (k + 1)) = some (xs ++ [m]) from fun m hm => rdAll_take hkp HX.out hm)
        have HBD := Lib.hid (show rd ps[k] = none → rdAll ps = none from fun h => rdAll_bad h ps hmem)
        clear hmem
        generalize ps[k] = p at *
        have hi2 : (k : Int) < 16 := by omega
        go_wp2_with fail
        refine (CR.out _).mono ?_; rintro e w2 ⟨hr, b⟩
        replace H2 := Lib.hid (H2.out.below b H2.out.lt); replace H5 := Lib.hid (H5.out.below b H5.out.lt); replace HP := Lib.hid (HP.out.on b); replace HB := Lib.hid (seq_below HB.out b); replace HSZ := Lib.hid (Nat.le_trans HSZ.out b.size); clear b
        rcases hr with ⟨m, hm, rfl⟩ | ⟨hm, v, rfl⟩
        · have HM := Lib.hid (HST.out m hm); clear hm
          have c5 := H5.out.cell k (by have := HXL.out; simp; omega)
          have f5 := H5.out.free k
          go_wp2_with fail
          go_roundw
          case rel =>
            refine ⟨k + 1, xs ++ [m], by omega, by go_num, HM.out, by have := HXL.out; simp [Hid, this], H2.out.other (by omega) _, ?_, HP.out.below (below_setCell (Below.refl w1.heap.size _) (Nat.le_refl _) _) hgp, hgp, below_setCell HB.out (by omega) _, ?_⟩
            · have h1 := H5.out.set k m
              rw [show 16 - k = (16 - (k + 1)) + 1 from by omega, set_fill xs k _ m HXL.out] at h1
              exact h1
            · have := HSZ.out; simpa using this
          case measure => simp [intOf]; omega
        · have HM := Lib.hid (HBD.out hm); clear hm
          go_wp2_with (refine wpList_store_blk (ys := zer) rfl 25 _ _ rfl _ rfl rfl H2.out info_blk hz16 hz16 ?_)
          exact bodyPost_ret (results_blk_tmp rfl _ _ _ rfl rfl (H2.out.row zer) Tryd.underlying25 info_blk hz16) rfl ⟨.inr ⟨HRR.out.trans HM.out, rfl⟩, below_setRow HB.out (Nat.le_refl _) _⟩
      · have e : k = 16 := by omega
        subst e
        have HM := Lib.hid (show rdAll ps = some xs from by
          have := HX.out
          rwa [List.take_of_length_le (by rw [HN.out]; exact Nat.le_refl _)] at this)
        have h5 := H5.out
        rw [show 16 - 16 = 0 from rfl, List.replicate_zero, List.append_nil] at h5
        have H6 := Lib.hid h5
        clear h5 H5
        go_wp2_with (first | (refine wpList_load_blk rfl 25 _ rfl _ rfl H6.out Tryd.underlying25 info_blk HXL.out ?_) | (refine wpList_store_blk rfl 25 _ _ rfl _ rfl rfl H2.out info_blk HXL.out hz16 ?_))
        exact bodyPost_ret (results_blk_tmp rfl _ _ _ rfl rfl (H2.out.row xs) Tryd.underlying25 info_blk HXL.out) rfl ⟨.inl ⟨xs, HRR.out.trans HM.out, rfl⟩, below_setRow HB.out (Nat.le_refl _) _⟩
  · have HRR : Hid (rb s = none) := Lib.hid (HR.out.trans (if_neg h16))
    have hln : (ps.length : Int) ≤ 1048577 := by have := HCN.out; have := HSS.out; omega
    have h1 := Go.Joins.below_alloc1 w1 (.cells (fl zer) 25)
    have H5 : Hid (Blk (w1.alloc (.cells (fl zer) 25)) w1.heap.size zer 25) := Blk.new _ _ _ _ rfl
    have H2 : Hid (Blk (w1.alloc (.cells (fl zer) 25)) w.heap.size zer 25) := HQ3.out.alloc _
    have HB := Lib.hid (seq_below HB1.out h1)
    clear h1 HR HQ3 HB1
    go_wp2_with (first | (refine wpList_load_blk rfl 25 _ rfl _ rfl H5.out Tryd.underlying25 info_blk hz16 ?_) | (refine wpList_store_blk (ys := zer) rfl 25 _ _ rfl _ rfl rfl H2.out info_blk hz16 hz16 ?_))
    exact bodyPost_ret (results_blk_tmp rfl _ _ _ rfl rfl (H2.out.row zer) Tryd.underlying25 info_blk hz16) rfl ⟨.inr ⟨HRR.out, rfl⟩, below_setRow HB.out (Nat.le_refl _) _⟩
end Go.Proofs.YtdhpaglcggeknaaDoor
