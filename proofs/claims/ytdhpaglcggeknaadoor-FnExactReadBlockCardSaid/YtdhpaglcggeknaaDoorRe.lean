/- Texts cut at a byte, in the reference. No condition. -/
import Derived.Test.YtdhpaglcggeknaaDoorRd
namespace Go.Proofs.YtdhpaglcggeknaaDoor
open Go.RowKit Go.Fl
def txP (p : List UInt8) : Value := .string (bs p)
theorem OwnR.empty (w : World) (t : TypeId) (size : Nat) : OwnR (w.alloc (.cells #[] t)) w.heap.size (some ⟨w.heap.size, 0, none⟩) 0 0 [] t size :=
  ⟨by simp, .inr ⟨w.heap.size, 0, #[], rfl, Nat.le_refl _, heap_alloc_new w _, Nat.le_refl _, Nat.zero_le _, by simp, by simp⟩⟩
set_option maxHeartbeats 4000000 in
set_option maxRecDepth 100000 in
theorem c_l01Split (s : List UInt8) (hs : s.length ≤ 1048576) (w : World) :
    Calls Tryd.prog 46 #[.string (bs s), .int .u8 32] w fun e w' => ∃ g c, e = .returned (.slice (some ⟨g, 0, none⟩) (spl 32 s).length c) ∧ Prt w' g 0 (spl 32 s) ∧ Below w.heap.size w w' := by
  have hsz : (bs s).size = s.length := bs_size s
  obtain ⟨t, ht⟩ : ∃ t, t = bs s := ⟨_, rfl⟩
  have hget : ∀ k (h : k < t.size) (hj : k < s.length), t[k]'h = s[k]'hj := by
    subst ht
    intro k h hj
    show (bs s).data[k]'h = _
    simp [bs]
  have hext : ∀ a b, Value.string (t.extract a b) = txP ((s.drop a).take (b - a)) := by
    subst ht
    intro a b
    rw [Lib.extract_eq, bs_data]; rfl
  rw [← ht] at hsz ⊢
  have HX := Lib.hid hext; have HG := Lib.hid hget; have HL := Lib.hid hs; have HZ := Lib.hid hsz
  have hts : (t.size : Int) ≤ 1048576 := by omega
  clear ht hget hext hs hsz
  go_enter Tryd.func46, Tryd.ntmps46
  go_wp2
  go_loopw [5, 6, 7] (fun v f i wr => ∃ (k b : Nat) (D : List (List UInt8)) (W : Option Addr) (d : Nat), k ≤ t.size ∧ b ≤ k ∧ D.length ≤ k ∧ f = .int .i64 b ∧ i = .int .i64 k ∧ v = .slice W D.length d ∧ Hid ((32 : UInt8) ∉ (s.drop b).take (k - b) ∧ spl 32 s = D ++ spl 32 (s.drop b)) ∧ OwnR wr w.heap.size W d D.length (D.map txP) 9 1 ∧ Below w.heap.size w wr) (fun _ _ i _ => t.size - (intOf i).toNat)
  case atStart => exact ⟨0, 0, [], some ⟨w.heap.size, 0, none⟩, 0, by omega, by omega, by simp, rfl, rfl, rfl, ⟨by simp, by simp⟩, OwnR.empty _ _ _, Go.Joins.below_alloc1 _ _⟩
  case round =>
    obtain ⟨k, b, D, W, d, hk, hbk, hD, rfl, rfl, rfl, HR, ho, hb⟩ := hrel
    have HO := Lib.hid ho; have HB := Lib.hid hb; clear ho hb
    have HSZ := Lib.hid HB.out.size
    have hk0 : (0 : Int) ≤ k := by omega
    have hb0 : (0 : Int) ≤ b := by omega
    have hbk2 : (b : Int) ≤ k := by omega
    by_cases hkn : k < t.size
    · have hc := HG.out k hkn (by have := HZ.out; omega)
      have hkn2 : (k : Int) < t.size := by omega
      have hdk : (s.drop b).take (k + 1 - b) = (s.drop b).take (k - b) ++ [s[k]'(by have := HZ.out; omega)] := by
        have h1 : k + 1 - b = (k - b) + 1 := by omega
        rw [h1, List.take_succ_eq_append_getElem (by rw [List.length_drop]; have := HZ.out; omega)]
        congr 2
        rw [List.getElem_drop]
        congr 1; omega
      have hdd : s.drop b = (s.drop b).take (k - b) ++ (s[k]'(by have := HZ.out; omega)) :: s.drop (k + 1) := by
        have h1 := (List.take_append_drop (k - b) (s.drop b)).symm
        rw [List.drop_drop, show b + (k - b) = k from by omega, List.drop_eq_getElem_cons (l := s) (i := k) (by have := HZ.out; omega)] at h1
        exact h1
      generalize s[k]'(by have := HZ.out; omega) = c at hc hdk hdd
      have hcz : (t[k]'hkn).toNat = c.toNat := by rw [hc]
      clear hc
      by_cases h32 : c = 32
      · subst h32
        have hcz2 : ((t[k]'hkn).toNat : Int) = 32 := by rw [hcz]; rfl
        have HR2 := Lib.hid (show (32 : UInt8) ∉ (s.drop (k + 1)).take (k + 1 - (k + 1)) ∧ spl 32 s = (D ++ [(s.drop b).take (k - b)]) ++ spl 32 (s.drop (k + 1)) from by
          refine ⟨by simp, ?_⟩
          rw [HR.out.2]
          conv => lhs; rw [hdd]
          rw [spl_hit 32 _ _ HR.out.1, List.append_assoc]; rfl)
        have HE := Lib.hid (HX.out b k)
        have HK1 : Hid (k ≤ 1048576) := Lib.hid (by omega)
        have HD1 := Lib.hid hD
        clear hdk hdd HR
        go_wp2_with (at_builtin; refine wpList_append_oneR rfl _ _ 76 rfl w.heap.size 9 (.string ⟨#[]⟩) 1 16 Tryd.underlying76 info_stre rfl (by decide) rfl HO.out [.string (t.extract b k)] rfl (by simp [Value.oneCell']) rfl (by have := HK1.out; have := HD1.out; omega) (by decide) HSZ.out ?_; intro A2 c2 w2 ho2 hg2 _; have HO2 := Lib.hid ho2; have HG2 := Lib.hid hg2; clear ho2 hg2)
        go_roundw
        case rel =>
          refine ⟨k + 1, k + 1, D ++ [(s.drop b).take (k - b)], A2, c2, by omega, by omega, by simp; omega, by go_num, by go_num, by simp, HR2.out, ?_, HB.out.grown HG2.out HSZ.out HO.out.ge⟩
          have := HO2.out
          rw [HE.out] at this
          simpa using this
        case measure => simp [intOf]; omega
      · have hne : (t[k]'hkn).toNat ≠ 32 := by
          rw [hcz]; intro e
          exact h32 (UInt8.toNat_inj.1 e)
        have hne2 : ¬ ((t[k]'hkn).toNat : Int) = 32 := by omega
        have HR2 := Lib.hid (show (32 : UInt8) ∉ (s.drop b).take (k + 1 - b) ∧ spl 32 s = D ++ spl 32 (s.drop b) from by
          refine ⟨?_, HR.out.2⟩
          rw [hdk]
          intro h
          rcases List.mem_append.1 h with h | h
          · exact HR.out.1 h
          · exact h32 (List.mem_singleton.1 h).symm)
        clear hdk hdd HR hcz h32
        go_wp2
        go_roundw
        case rel => exact ⟨k + 1, b, D, W, d, by omega, by omega, by omega, rfl, by go_num, rfl, HR2.out, HO.out, HB.out⟩
        case measure => simp [intOf]; omega
    · have hkk : k = t.size := by omega
      have HE := Lib.hid (HX.out b t.size)
      have HD1 := Lib.hid (show D.length ≤ 1048576 from by omega)
      have HS := Lib.hid (show spl 32 s = D ++ [(s.drop b).take (t.size - b)] from by
        have h1 := HR.out.1
        have h2 : (s.drop b).take (k - b) = s.drop b := List.take_of_length_le (by rw [List.length_drop]; have := HZ.out; omega)
        rw [h2] at h1
        rw [HR.out.2, spl_miss 32 _ h1, ← hkk, h2])
      have hb3 : (b : Int) ≤ t.size := by omega
      clear HR
      subst hkk
      go_wp2_with (at_builtin; refine wpList_append_oneR rfl _ _ 76 rfl w.heap.size 9 (.string ⟨#[]⟩) 1 16 Tryd.underlying76 info_stre rfl (by decide) rfl HO.out [.string (t.extract b t.size)] rfl (by simp [Value.oneCell']) rfl (by have := HD1.out; omega) (by decide) HSZ.out ?_; intro A2 c2 w2 ho2 hg2 _; have HO2 := Lib.hid ho2; have HG2 := Lib.hid hg2; clear ho2 hg2)
      go_ret
      have ho := HO2.out
      obtain ⟨g, rfl, hg1, hg2⟩ := ho.head (by omega)
      refine ⟨g, c2, ?_, ⟨hg2, fun j p hp => ?_⟩, HB.out.grown HG2.out HSZ.out HO.out.ge⟩
      · rw [HS.out]; simp
      · rw [Nat.zero_add]
        refine ho.cell j _ ?_
        rw [HE.out]
        rw [HS.out] at hp
        have : (D ++ [(s.drop b).take (t.size - b)]).map txP = D.map txP ++ [txP ((s.drop b).take (t.size - b))] := by simp
        rw [← this, List.getElem?_map, hp]; rfl
end Go.Proofs.YtdhpaglcggeknaaDoor
