/- Samples read from texts: the program's list, the reference's block; ReadBlock, both. No condition. -/
import Derived.Test.YtdhpaglcggeknaaDoorRd
import Derived.Test.YtdhpaglcggeknaaDoorTf
namespace Go.Proofs.YtdhpaglcggeknaaDoor
open Go.RowKit Go.Fl
/-- Samples read from texts, all or none. -/
def rdAll : List (List UInt8) → Option (List Nat)
  | [] => some []
  | p :: r => match rd p with
    | none => none
    | some n => match rdAll r with
      | none => none
      | some xs => some (n :: xs)
theorem rdAll_snoc (p : List UInt8) : ∀ l : List (List UInt8), rdAll (l ++ [p]) = match rdAll l with
    | none => none
    | some xs => match rd p with
      | none => none
      | some n => some (xs ++ [n])
  | [] => by
    show rdAll [p] = _
    unfold rdAll
    cases rd p <;> rfl
  | q :: l => by
    have ih := rdAll_snoc p l
    show rdAll (q :: (l ++ [p])) = _
    unfold rdAll
    rw [ih]
    cases rd q with
    | none => rfl
    | some n =>
      cases rdAll l with
      | none => rfl
      | some xs => cases rd p <;> rfl
theorem rdAll_bad {p : List UInt8} (hp : rd p = none) : ∀ l : List (List UInt8), p ∈ l → rdAll l = none
  | [], h => by cases h
  | q :: l, h => by
    unfold rdAll
    rcases List.mem_cons.1 h with rfl | h
    · rw [hp]
    · rw [rdAll_bad hp l h]
      cases rd q <;> rfl
theorem rdAll_take {ps : List (List UInt8)} {k : Nat} (h : k < ps.length) {xs : List Nat} {n : Nat} (h1 : rdAll (ps.take k) = some xs) (h2 : rd ps[k] = some n) : rdAll (ps.take (k + 1)) = some (xs ++ [n]) := by
  rw [List.take_succ_eq_append_getElem h, rdAll_snoc, h1, h2]
theorem rdAll_length : ∀ {l : List (List UInt8)} {xs : List Nat}, rdAll l = some xs → xs.length = l.length
  | [], xs, h => by cases h; rfl
  | p :: l, xs, h => by
    unfold rdAll at h
    cases hp : rd p with
    | none => rw [hp] at h; cases h
    | some n =>
      rw [hp] at h
      cases hl : rdAll l with
      | none => rw [hl] at h; cases h
      | some ys =>
        rw [hl] at h
        cases h
        simp [rdAll_length hl]
theorem rdAll_lt : ∀ {l : List (List UInt8)} {xs : List Nat}, rdAll l = some xs → ∀ v ∈ xs, v < 4294967296
  | [], xs, h, v, hv => by cases h; cases hv
  | p :: l, xs, h, v, hv => by
    unfold rdAll at h
    cases hp : rd p with
    | none => rw [hp] at h; cases h
    | some n =>
      rw [hp] at h
      cases hl : rdAll l with
      | none => rw [hl] at h; cases h
      | some ys =>
        rw [hl] at h
        cases h
        rcases List.mem_cons.1 hv with rfl | hv
        · exact (rd_some hp).1
        · exact rdAll_lt hl v hv
/-- What the program's reader of many hands back. -/
def RsR (ps : List (List UInt8)) (w w' : World) (e : Ending) : Prop := (∃ xs A c, rdAll ps = some xs ∧ e = .returned (.tuple #[.slice A ps.length c, .bool true]) ∧ Own w' w.heap.size A c xs 22) ∨ (rdAll ps = none ∧ e = .returned (.tuple #[.slice none 0 0, .bool false]))
theorem info_f32e2 : (Tryd.prog.info? 22).map (fun i => (i.zero, i.size, i.bytes)) = some (some (.float .f32 0), 1, 4) := by kernel_rfl
set_option maxRecDepth 20000 in
set_option maxHeartbeats 4000000 in
theorem c_readSamples (g o n c : Nat) (ps : List (List UInt8)) (w : World) (hps : Prt w g o ps) (hn : ps.length = n) (hl : n ≤ 1048577) (hsm : ∀ p ∈ ps, p.length ≤ 1073741824) (hT : Tz w) (hE : Ev w) :
    Calls Tryd.prog 45 #[.slice (some ⟨g, o, none⟩) n c] w fun e w' => RsR ps w w' e ∧ Below w.heap.size w w' := by
  have HP := Lib.hid hps; have HN := Lib.hid hn; have HS := Lib.hid hsm; have HT := Lib.hid hT; have HE := Lib.hid hE; have HL := Lib.hid hl
  have hn0 : (0 : Int) ≤ n := by omega
  have hn1 : (n : Int) ≤ 1048577 := by omega
  clear hps hn hsm hT hE hl
  go_enter Tryd.func45, Tryd.ntmps45
  go_wp2
  go_loopw [4, 11] (fun v i wr => ∃ (k : Nat) (xs : List Nat) (A : Option Addr) (d : Nat), k ≤ n ∧ i = .int .i64 k ∧ v = .slice A k d ∧ Hid (rdAll (ps.take k) = some xs) ∧ Hid (xs.length = k) ∧ Own wr w.heap.size A d xs 22 ∧ Below w.heap.size w wr) (fun _ i _ => n - (intOf i).toNat)
  case atStart => exact ⟨0, [], none, 0, by omega, rfl, rfl, rfl, rfl, ⟨by simp [maxLen], .inl ⟨rfl, rfl, rfl⟩⟩, Below.refl _ _⟩
  case round =>
    obtain ⟨k, xs, A, d, hk, rfl, rfl, HX, HXL, ho, hb⟩ := hrel
    have HO := Lib.hid ho; have HB := Lib.hid hb; clear ho hb
    have hk0 : (0 : Int) ≤ k := by omega
    by_cases hlt : k < n
    · have hkp : k < ps.length := by rw [HN.out]; exact hlt
      have hc : wr.cell? ⟨g, o + k, none⟩ = some (.string (bs ps[k])) := (HP.out.on HB.out).2 k _ (List.getElem?_eq_getElem hkp)
      have CR := Lib.hid (c_readBits ps[k] (HS.out _ (List.getElem_mem hkp)) wr (HT.out.on HB.out) (HE.out.on HB.out))
      have hmem : ps[k] ∈ ps := List.getElem_mem hkp
      have hstep : ∀ m, rd ps[k] = some m → rdAll (ps.take (k + 1)) = some (xs ++ [m]) := fun m hm => rdAll_take hkp HX.out hm
      have hbad : rd ps[k] = none → rdAll ps = none := fun h => rdAll_bad h ps hmem
      have HST := Lib.hid hstep; have HBD := Lib.hid hbad
      clear hstep hbad hmem
      generalize ps[k] = p at *
      have hi2 : (k : Int) < n := by omega
      go_wp2_with fail
      refine CR.out.mono ?_; rintro e w1 ⟨hr, b⟩
      replace HO := Lib.hid (HO.out.below b (Nat.le_refl _)); replace HB := Lib.hid (seq_below HB.out b); clear b
      have HSZ := Lib.hid HB.out.size
      rcases hr with ⟨m, hm, rfl⟩ | ⟨hm, v, rfl⟩
      · have HM := Lib.hid (HST.out m hm); clear hm
        go_wp2_with (at_builtin; refine wpList_append_one rfl _ _ 36 rfl w.heap.size 22 Tryd.underlying36 info_f32e2 HXL.out rfl HO.out rfl (by have := HL.out; omega) HSZ.out ?_; intro A2 c2 w2 ho2' hg2' _; have HO2 := Lib.hid ho2'; have HG2 := Lib.hid hg2'; clear ho2' hg2')
        go_roundw
        case rel => exact ⟨k + 1, xs ++ [m], A2, c2, by omega, by go_num, rfl, HM.out, by have := HXL.out; simp [Hid, this], HO2.out, HB.out.grown HG2.out HSZ.out HO.out.ge⟩
        case measure => simp [intOf]; omega
      · have HM := Lib.hid (HBD.out hm); clear hm
        go_wp2_with fail
        go_ret2
        exact ⟨.inr ⟨HM.out, rfl⟩, HB.out⟩
    · have e : k = n := by omega
      subst e
      have HM := Lib.hid (show rdAll ps = some xs from by
        have := HX.out
        rwa [List.take_of_length_le (by rw [HN.out]; exact Nat.le_refl _)] at this)
      go_wp2_with fail
      go_ret2
      exact ⟨.inl ⟨xs, A, d, HM.out, by rw [HN.out]; rfl, HO.out⟩, HB.out⟩
theorem spl_le (c : UInt8) : ∀ s : List UInt8, ∀ p ∈ spl c s, p.length ≤ s.length
  | [], p, h => by
    simp [spl] at h; subst h; simp
  | b :: s, p, h => by
    have ih := spl_le c s
    unfold spl at h
    split at h
    · rcases List.mem_cons.1 h with rfl | h
      · simp
      · have := ih p h; simp; omega
    · split at h
      · simp at h; subst h; simp
      · rename_i q qs heq
        rcases List.mem_cons.1 h with rfl | h
        · have := ih q (by rw [heq]; simp); simp; omega
        · have := ih p (by rw [heq]; simp [h]); simp; omega
theorem spl_count (c : UInt8) : ∀ s : List UInt8, (spl c s).length ≤ s.length + 1
  | [] => by simp [spl]
  | b :: s => by
    have ih := spl_count c s
    unfold spl
    split
    · simp; omega
    · split
      · simp
      · rename_i q qs heq
        rw [heq] at ih; simp at ih ⊢; omega
end Go.Proofs.YtdhpaglcggeknaaDoor
