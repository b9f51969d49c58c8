/- Texts cut at a byte: plain; the library's Split at one byte; the reference's. Texts cut at a byte, in the reference. No condition. -/
import Derived.Test.YtdhpaglcggeknaaDoorRc
import Derived.Lib.Split
import Derived.Lib.IndexBytes
import Derived.Lib.CountLaws
import Derived.Lib.SplitLaws
namespace Go.Fl
open Go.RowKit
/-- A text cut at a byte. -/
def spl (c : UInt8) : List UInt8 → List (List UInt8)
  | [] => [[]]
  | b :: r => if b = c then [] :: spl c r else match spl c r with
    | [] => [[b]]
    | p :: ps => (b :: p) :: ps
theorem spl_hit (c : UInt8) : ∀ (a r : List UInt8), c ∉ a → spl c (a ++ c :: r) = a :: spl c r
  | [], r, _ => by simp [spl]
  | b :: a, r, h => by
    have hb : ¬ b = c := fun e => h (by simp [e])
    have ih := spl_hit c a r (fun e => h (by simp [e]))
    simp only [List.cons_append, spl, if_neg hb, ih]
theorem spl_miss (c : UInt8) : ∀ (a : List UInt8), c ∉ a → spl c a = [a]
  | [], _ => rfl
  | b :: a, h => by
    have hb : ¬ b = c := fun e => h (by simp [e])
    have ih := spl_miss c a (fun e => h (by simp [e]))
    unfold spl
    rw [if_neg hb, ih]
theorem indexByte_cases (c : UInt8) : ∀ l : List UInt8, (Lib.indexByte l c = -1 ∧ c ∉ l) ∨ ∃ a r, l = a ++ c :: r ∧ c ∉ a ∧ Lib.indexByte l c = (a.length : Int)
  | [] => .inl ⟨rfl, by simp⟩
  | b :: l => by
    by_cases hb : b = c
    · subst hb
      exact .inr ⟨[], l, rfl, by simp, by simp [Lib.indexByte]⟩
    · have hbb : (b == c) = false := by simpa using hb
      rcases indexByte_cases c l with ⟨h1, h2⟩ | ⟨a, r, h1, h2, h3⟩
      · refine .inl ⟨by unfold Lib.indexByte; rw [hbb, h1]; rfl, ?_⟩
        intro h
        rcases List.mem_cons.1 h with e | e
        · exact hb e.symm
        · exact h2 e
      · refine .inr ⟨b :: a, r, by rw [h1]; rfl, ?_, ?_⟩
        · intro h
          rcases List.mem_cons.1 h with e | e
          · exact hb e.symm
          · exact h2 e
        · unfold Lib.indexByte
          rw [hbb, h3]
          have : ((a.length : Int) == -1) = false := beq_false_of_ne (by omega)
          simp [this]
theorem splitK_spl (c : UInt8) : ∀ (n : Nat) (l : List UInt8), l.length ≤ n → Lib.splitK [c] 0 (Lib.count l [c]) l = spl c l := by
  intro n
  induction n with
  | zero =>
    intro l h
    have : l = [] := List.length_eq_zero_iff.1 (by omega)
    subst this
    have hi : Lib.index [] [c] = -1 := rfl
    rw [Lib.count_miss hi]; rfl
  | succ n ih =>
    intro l h
    rcases indexByte_cases c l with ⟨h1, h2⟩ | ⟨a, r, h1, h2, h3⟩
    · rw [← Lib.index_one] at h1
      rw [Lib.count_miss h1, spl_miss c l h2]; rfl
    · rw [← Lib.index_one] at h3
      have hd : l.drop (a.length + [c].length) = r := by
        rw [h1, List.length_singleton, List.drop_append]
        simp
      have ht : l.take a.length = a := by rw [h1]; simp
      rw [Lib.count_hit (by simp) h3, hd, Nat.add_comm 1]
      unfold Lib.splitK
      rw [if_neg (by rw [h3]; simp; try omega), h3]
      have e : ((a.length : Int)).toNat = a.length := rfl
      rw [e, Nat.add_zero, ht, hd, ih r (by rw [h1] at h; simp at h; first | done | omega), h1, spl_hit c a r h2]
theorem bs_data (s : List UInt8) : (bs s).data.toList = s := by simp [bs]
theorem splitB_spl (s : List UInt8) (c : UInt8) : (Lib.splitB (bs [c]) 0 (Lib.countB (bs s) (bs [c])) (bs s)) = (spl c s).map bs := by
  have h := Lib.splitB_data (bs [c]) 0 (Lib.countB (bs s) (bs [c])) (bs s)
  rw [bs_data, bs_data] at h
  have h2 : Lib.countB (bs s) (bs [c]) = Lib.count s [c] := by show Lib.count _ _ = _; rw [bs_data, bs_data]
  rw [h2, splitK_spl c s.length s (Nat.le_refl _)] at h
  rw [h2, ← h, List.map_map]
  conv => lhs; rw [← List.map_id (Lib.splitB (bs [c]) 0 (Lib.count s [c]) (bs s))]
  apply List.map_congr_left
  intro t _
  exact (bs_of t).symm
theorem countB_spl (s : List UInt8) (c : UInt8) : Lib.countB (bs s) (bs [c]) + 1 = (spl c s).length := by
  have h := congrArg List.length (splitB_spl s c)
  rw [List.length_map] at h
  rw [← h]
  exact (Lib.splitB_all (bs [c]) (by rw [bs_size]; exact Nat.le_refl _) 0 _ _ rfl).symm
/-- Texts in a row of memory, from a place on. -/
def Prt (w : World) (g o : Nat) (ps : List (List UInt8)) : Prop := g < w.heap.size ∧ ∀ j p, ps[j]? = some p → w.cell? ⟨g, o + j, none⟩ = some (.string (bs p))
theorem Prt.below {w w' : World} {g o : Nat} {ps : List (List UInt8)} (h : Prt w g o ps) {B : Nat} (hb : Below B w w') (hB : g < B) : Prt w' g o ps :=
  ⟨Nat.lt_of_lt_of_le h.1 hb.size, fun j p hp => by rw [hb.cell (p := ⟨g, o + j, none⟩) hB]; exact h.2 j p hp⟩
theorem Prt.on {w w' : World} {g o : Nat} {ps : List (List UInt8)} (h : Prt w g o ps) (hb : Below w.heap.size w w') : Prt w' g o ps := h.below hb h.1
theorem Prt.drop {w : World} {g o : Nat} {ps : List (List UInt8)} (h : Prt w g o ps) (k : Nat) : Prt w g (o + k) (ps.drop k) :=
  ⟨h.1, fun j p hp => by rw [List.getElem?_drop] at hp; have := h.2 _ p hp; rwa [← Nat.add_assoc] at this⟩
end Go.Fl
namespace Go.Proofs.YtdhpaglcggeknaaDoor
open Go.RowKit Go.Fl
/-- The library's bound on short searches holds some number. -/
def Mx (w : World) : Prop := ∃ m, w.cell? ⟨4, 0, none⟩ = some (.int .i64 m)
theorem Mx.on {w w' : World} (h : Mx w) (hb : Below w.heap.size w w') : Mx w' := by
  obtain ⟨m, hm⟩ := h
  exact ⟨m, by rw [hb.cell (p := ⟨4, 0, none⟩) (World.block_lt_of_cell? _ _ hm)]; exact hm⟩
theorem mx_of {w : World} (h : w.ShapedOpen Tryd.prog) : Mx w := Tryd.laysM146.s1_3 w h
theorem c_split (s : List UInt8) (hs : s.length ≤ 1073741824) (w : World) (hM : Mx w) :
    Calls Tryd.prog 44 #[.string (bs s), .string ⟨#[32]⟩] w fun e w' => ∃ g, e = .returned (.slice (some ⟨g, 0, none⟩) (spl 32 s).length (spl 32 s).length) ∧ Prt w' g 0 (spl 32 s) ∧ Below w.heap.size w w' := by
  obtain ⟨m, hm⟩ := hM
  refine (Tryd.strings_Split (bs s) (bs [32]) m w (by rw [bs_size]; omega) hm (by rw [bs_size]; decide)).mono fun e w' ⟨he, hw⟩ => ?_
  rw [countB_spl] at he
  rw [splitB_spl] at hw
  subst hw
  refine ⟨w.heap.size, he, ⟨by simp, fun j p hp => ?_⟩, Go.Joins.below_alloc1 _ _⟩
  rw [Nat.zero_add]
  rw [Go.Joins.cell_of_block (heap_alloc_new w _)]
  simp [hp]
end Go.Proofs.YtdhpaglcggeknaaDoor
namespace Go.Proofs.YtdhpaglcggeknaaDoor
open Go.RowKit Go.Fl
def txP (p : List UInt8) : Value := .string (bs p)
theorem OwnR.empty (w : World) (t : TypeId) (size : Nat) : OwnR (w.alloc (.cells #[] t)) w.heap.size (some ⟨w.heap.size, 0, none⟩) 0 0 [] t size :=
  ⟨by simp, .inr ⟨w.heap.size, 0, #[], rfl, Nat.le_refl _, heap_alloc_new w _, Nat.le_refl _, Nat.zero_le _, by simp, by simp⟩⟩
set_option maxHeartbeats 4000000 in
set_option maxRecDepth 100000 in
theorem c_l01Split (s : List UInt8) (hs : s.length ≤ 1048576) (w : World) :
    Calls Tryd.prog 46 #[.string (bs s), .int .u8 32] w fun e w' => ∃ g c, e = .returned (.slice (some ⟨g, 0, none⟩) (spl 32 s).length c) ∧ Prt w' g 0 (spl 32 s) ∧ Below w.heap.size w w' := by
  have hsz : (bs s).size = s.length := bs_size s
  obtain ⟨t, ht⟩ : ∃ t, t = bs s := ⟨_, rfl⟩
  have hget : ∀ k (h : k < t.size) (hj : k < s.length), t[k]'h = s[k]'hj := by
    subst ht
    intro k h hj
    show (bs s).data[k]'h = _
    simp [bs]
  have hext : ∀ a b, Value.string (t.extract a b) = txP ((s.drop a).take (b - a)) := by
    subst ht
    intro a b
    rw [Lib.extract_eq, bs_data]; rfl
  rw [← ht] at hsz ⊢
  have HX := Lib.hid hext; have HG := Lib.hid hget; have HL := Lib.hid hs; have HZ := Lib.hid hsz
  have hts : (t.size : Int) ≤ 1048576 := by omega
  clear ht hget hext hs hsz
  go_enter Tryd.func46, Tryd.ntmps46
  go_wp2
  go_loopw [5, 6, 7] (fun v f i wr => ∃ (k b : Nat) (D : List (List UInt8)) (W : Option Addr) (d : Nat), k ≤ t.size ∧ b ≤ k ∧ D.length ≤ k ∧ f = .int .i64 b ∧ i = .int .i64 k ∧ v = .slice W D.length d ∧ Hid ((32 : UInt8) ∉ (s.drop b).take (k - b) ∧ spl 32 s = D ++ spl 32 (s.drop b)) ∧ OwnR wr w.heap.size W d D.length (D.map txP) 9 1 ∧ Below w.heap.size w wr) (fun _ _ i _ => t.size - (intOf i).toNat)
  case atStart => exact ⟨0, 0, [], some ⟨w.heap.size, 0, none⟩, 0, by omega, by omega, by simp, rfl, rfl, rfl, ⟨by simp, by simp⟩, OwnR.empty _ _ _, Go.Joins.below_alloc1 _ _⟩
  case round =>
    obtain ⟨k, b, D, W, d, hk, hbk, hD, rfl, rfl, rfl, HR, ho, hb⟩ := hrel
    have HO := Lib.hid ho; have HB := Lib.hid hb; clear ho hb
    have HSZ := Lib.hid HB.out.size
    have hk0 : (0 : Int) ≤ k := by omega
    have hb0 : (0 : Int) ≤ b := by omega
    have hbk2 : (b : Int) ≤ k := by omega
    by_cases hkn : k < t.size
    · have hc := HG.out k hkn (by have := HZ.out; omega)
      have hkn2 : (k : Int) < t.size := by omega
      have hdk : (s.drop b).take (k + 1 - b) = (s.drop b).take (k - b) ++ [s[k]'(by have := HZ.out; omega)] := by
        have h1 : k + 1 - b = (k - b) + 1 := by omega
        rw [h1, List.take_succ_eq_append_getElem (by rw [List.length_drop]; have := HZ.out; omega)]
        congr 2
        rw [List.getElem_drop]
        congr 1; omega
      have hdd : s.drop b = (s.drop b).take (k - b) ++ (s[k]'(by have := HZ.out; omega)) :: s.drop (k + 1) := by
        have h1 := (List.take_append_drop (k - b) (s.drop b)).symm
        rw [List.drop_drop, show b + (k - b) = k from by omega, List.drop_eq_getElem_cons (l := s) (i := k) (by have := HZ.out; omega)] at h1
        exact h1
      generalize s[k]'(by have := HZ.out; omega) = c at hc hdk hdd
      have hcz : (t[k]'hkn).toNat = c.toNat := by rw [hc]
      clear hc
      by_cases h32 : c = 32
      · subst h32
        have hcz2 : ((t[k]'hkn).toNat : Int) = 32 := by rw [hcz]; rfl
        have HR2 := Lib.hid (show (32 : UInt8) ∉ (s.drop (k + 1)).take (k + 1 - (k + 1)) ∧ spl 32 s = (D ++ [(s.drop b).take (k - b)]) ++ spl 32 (s.drop (k + 1)) from by
          refine ⟨by simp, ?_⟩
          rw [HR.out.2]
          conv => lhs; rw [hdd]
          rw [spl_hit 32 _ _ HR.out.1, List.append_assoc]; rfl)
        have HE := Lib.hid (HX.out b k)
        have HK1 : Hid (k ≤ 1048576) := Lib.hid (by omega)
        have HD1 := Lib.hid hD
        clear hdk hdd HR
        go_wp2_with (at_builtin; refine wpList_append_oneR rfl _ _ 76 rfl w.heap.size 9 (.string ⟨#[]⟩) 1 16 Tryd.underlying76 info_stre rfl (by decide) rfl HO.out [.string (t.extract b k)] rfl (by simp [Value.oneCell']) rfl (by have := HK1.out; have := HD1.out; omega) (by decide) HSZ.out ?_; intro A2 c2 w2 ho2 hg2 _; have HO2 := Lib.hid ho2; have HG2 := Lib.hid hg2; clear ho2 hg2)
        go_roundw
        case rel =>
          refine ⟨k + 1, k + 1, D ++ [(s.drop b).take (k - b)], A2, c2, by omega, by omega, by simp; omega, by go_num, by go_num, by simp, HR2.out, ?_, HB.out.grown HG2.out HSZ.out HO.out.ge⟩
          have := HO2.out
          rw [HE.out] at this
          simpa using this
        case measure => simp [intOf]; omega
      · have hne : (t[k]'hkn).toNat ≠ 32 := by
          rw [hcz]; intro e
          exact h32 (UInt8.toNat_inj.1 e)
        have hne2 : ¬ ((t[k]'hkn).toNat : Int) = 32 := by omega
        have HR2 := Lib.hid (show (32 : UInt8) ∉ (s.drop b).take (k + 1 - b) ∧ spl 32 s = D ++ spl 32 (s.drop b) from by
          refine ⟨?_, HR.out.2⟩
          rw [hdk]
          intro h
          rcases List.mem_append.1 h with h | h
          · exact HR.out.1 h
          · exact h32 (List.mem_singleton.1 h).symm)
        clear hdk hdd HR hcz h32
        go_wp2
        go_roundw
        case rel => exact ⟨k + 1, b, D, W, d, by omega, by omega, by omega, rfl, by go_num, rfl, HR2.out, HO.out, HB.out⟩
        case measure => simp [intOf]; omega
    · have hkk : k = t.size := by omega
      have HE := Lib.hid (HX.out b t.size)
      have HD1 := Lib.hid (show D.length ≤ 1048576 from by omega)
      have HS := Lib.hid (show spl 32 s = D ++ [(s.drop b).take (t.size - b)] from by
        have h1 := HR.out.1
        have h2 : (s.drop b).take (k - b) = s.drop b := List.take_of_length_le (by rw [List.length_drop]; have := HZ.out; omega)
        rw [h2] at h1
        rw [HR.out.2, spl_miss 32 _ h1, ← hkk, h2])
      have hb3 : (b : Int) ≤ t.size := by omega
      clear HR
      subst hkk
      go_wp2_with (at_builtin; refine wpList_append_oneR rfl _ _ 76 rfl w.heap.size 9 (.string ⟨#[]⟩) 1 16 Tryd.underlying76 info_stre rfl (by decide) rfl HO.out [.string (t.extract b t.size)] rfl (by simp [Value.oneCell']) rfl (by have := HD1.out; omega) (by decide) HSZ.out ?_; intro A2 c2 w2 ho2 hg2 _; have HO2 := Lib.hid ho2; have HG2 := Lib.hid hg2; clear ho2 hg2)
      go_ret
      have ho := HO2.out
      obtain ⟨g, rfl, hg1, hg2⟩ := ho.head (by omega)
      refine ⟨g, c2, ?_, ⟨hg2, fun j p hp => ?_⟩, HB.out.grown HG2.out HSZ.out HO.out.ge⟩
      · rw [HS.out]; simp
      · rw [Nat.zero_add]
        refine ho.cell j _ ?_
        rw [HE.out]
        rw [HS.out] at hp
        have : (D ++ [(s.drop b).take (t.size - b)]).map txP = D.map txP ++ [txP ((s.drop b).take (t.size - b))] := by simp
        rw [← this, List.getElem?_map, hp]; rfl
end Go.Proofs.YtdhpaglcggeknaaDoor
