/- Texts cut at a byte: plain; the library's Split at one byte; the reference's. No condition. -/
import Derived.Test.YtdhpaglcggeknaaDoorRc
import Derived.Lib.Split
import Derived.Lib.IndexBytes
import Derived.Lib.CountLaws
import Derived.Lib.SplitLaws
namespace Go.Fl
open Go.RowKit
/-- A text cut at a byte. -/
def spl (c : UInt8) : List UInt8 → List (List UInt8)
  | [] => [[]]
  | b :: r => if b = c then [] :: spl c r else match spl c r with
    | [] => [[b]]
    | p :: ps => (b :: p) :: ps
theorem spl_hit (c : UInt8) : ∀ (a r : List UInt8), c ∉ a → spl c (a ++ c :: r) = a :: spl c r
  | [], r, _ => by simp [spl]
  | b :: a, r, h => by
    have hb : ¬ b = c := fun e => h (by simp [e])
    have ih := spl_hit c a r (fun e => h (by simp [e]))
    simp only [List.cons_append, spl, if_neg hb, ih]
theorem spl_miss (c : UInt8) : ∀ (a : List UInt8), c ∉ a → spl c a = [a]
  | [], _ => rfl
  | b :: a, h => by
    have hb : ¬ b = c := fun e => h (by simp [e])
    have ih := spl_miss c a (fun e => h (by simp [e]))
    unfold spl
    rw [if_neg hb, ih]
theorem indexByte_cases (c : UInt8) : ∀ l : List UInt8, (Lib.indexByte l c = -1 ∧ c ∉ l) ∨ ∃ a r, l = a ++ c :: r ∧ c ∉ a ∧ Lib.indexByte l c = (a.length : Int)
  | [] => .inl ⟨rfl, by simp⟩
  | b :: l => by
    by_cases hb : b = c
    · subst hb
      exact .inr ⟨[], l, rfl, by simp, by simp [Lib.indexByte]⟩
    · have hbb : (b == c) = false := by simpa using hb
      rcases indexByte_cases c l with ⟨h1, h2⟩ | ⟨a, r, h1, h2, h3⟩
      · refine .inl ⟨by unfold Lib.indexByte; rw [hbb, h1]; rfl, ?_⟩
        intro h
        rcases List.mem_cons.1 h with e | e
        · exact hb e.symm
        · exact h2 e
      · refine .inr ⟨b :: a, r, by rw [h1]; rfl, ?_, ?_⟩
        · intro h
          rcases List.mem_cons.1 h with e | e
          · exact hb e.symm
          · exact h2 e
        · unfold Lib.indexByte
          rw [hbb, h3]
          have : ((a.length : Int) == -1) = false := beq_false_of_ne (by omega)
          simp [this]
theorem splitK_spl (c : UInt8) : ∀ (n : Nat) (l : List UInt8), l.length ≤ n → Lib.splitK [c] 0 (Lib.count l [c]) l = spl c l := by
  intro n
  induction n with
  | zero =>
    intro l h
    have : l = [] := List.length_eq_zero_iff.1 (by omega)
    subst this
    have hi : Lib.index [] [c] = -1 := rfl
    rw [Lib.count_miss hi]; rfl
  | succ n ih =>
    intro l h
    rcases indexByte_cases c l with ⟨h1, h2⟩ | ⟨a, r, h1, h2, h3⟩
    · rw [← Lib.index_one] at h1
      rw [Lib.count_miss h1, spl_miss c l h2]; rfl
    · rw [← Lib.index_one] at h3
      have hd : l.drop (a.length + [c].length) = r := by
        rw [h1, List.length_singleton, List.drop_append]
        simp
      have ht : l.take a.length = a := by rw [h1]; simp
      rw [Lib.count_hit (by simp) h3, hd, Nat.add_comm 1]
      unfold Lib.splitK
      rw [if_neg (by rw [h3]; simp; try omega), h3]
      have e : ((a.length : Int)).toNat = a.length := rfl
      rw [e, Nat.add_zero, ht, hd, ih r (by rw [h1] at h; simp at h; first | done | omega), h1, spl_hit c a r h2]
theorem bs_data (s : List UInt8) : (bs s).data.toList = s := by simp [bs]
theorem splitB_spl (s : List UInt8) (c : UInt8) : (Lib.splitB (bs [c]) 0 (Lib.countB (bs s) (bs [c])) (bs s)) = (spl c s).map bs := by
  have h := Lib.splitB_data (bs [c]) 0 (Lib.countB (bs s) (bs [c])) (bs s)
  rw [bs_data, bs_data] at h
  have h2 : Lib.countB (bs s) (bs [c]) = Lib.count s [c] := by show Lib.count _ _ = _; rw [bs_data, bs_data]
  rw [h2, splitK_spl c s.length s (Nat.le_refl _)] at h
  rw [h2, ← h, List.map_map]
  conv => lhs; rw [← List.map_id (Lib.splitB (bs [c]) 0 (Lib.count s [c]) (bs s))]
  apply List.map_congr_left
  intro t _
  exact (bs_of t).symm
theorem countB_spl (s : List UInt8) (c : UInt8) : Lib.countB (bs s) (bs [c]) + 1 = (spl c s).length := by
  have h := congrArg List.length (splitB_spl s c)
  rw [List.length_map] at h
  rw [← h]
  exact (Lib.splitB_all (bs [c]) (by rw [bs_size]; exact Nat.le_refl _) 0 _ _ rfl).symm
/-- Texts in a row of memory, from a place on. -/
def Prt (w : World) (g o : Nat) (ps : List (List UInt8)) : Prop := g < w.heap.size ∧ ∀ j p, ps[j]? = some p → w.cell? ⟨g, o + j, none⟩ = some (.string (bs p))
theorem Prt.below {w w' : World} {g o : Nat} {ps : List (List UInt8)} (h : Prt w g o ps) {B : Nat} (hb : Below B w w') (hB : g < B) : Prt w' g o ps :=
  ⟨Nat.lt_of_lt_of_le h.1 hb.size, fun j p hp => by rw [hb.cell (p := ⟨g, o + j, none⟩) hB]; exact h.2 j p hp⟩
theorem Prt.on {w w' : World} {g o : Nat} {ps : List (List UInt8)} (h : Prt w g o ps) (hb : Below w.heap.size w w') : Prt w' g o ps := h.below hb h.1
theorem Prt.drop {w : World} {g o : Nat} {ps : List (List UInt8)} (h : Prt w g o ps) (k : Nat) : Prt w g (o + k) (ps.drop k) :=
  ⟨h.1, fun j p hp => by rw [List.getElem?_drop] at hp; have := h.2 _ p hp; rwa [← Nat.add_assoc] at this⟩
end Go.Fl
namespace Go.Proofs.YtdhpaglcggeknaaDoor
open Go.RowKit Go.Fl
/-- The library's bound on short searches holds some number. -/
def Mx (w : World) : Prop := ∃ m, w.cell? ⟨4, 0, none⟩ = some (.int .i64 m)
theorem Mx.on {w w' : World} (h : Mx w) (hb : Below w.heap.size w w') : Mx w' := by
  obtain ⟨m, hm⟩ := h
  exact ⟨m, by rw [hb.cell (p := ⟨4, 0, none⟩) (World.block_lt_of_cell? _ _ hm)]; exact hm⟩
theorem mx_of {w : World} (h : w.ShapedOpen Tryd.prog) : Mx w := Tryd.laysM146.s1_3 w h
theorem c_split (s : List UInt8) (hs : s.length ≤ 1073741824) (w : World) (hM : Mx w) :
    Calls Tryd.prog 44 #[.string (bs s), .string ⟨#[32]⟩] w fun e w' => ∃ g, e = .returned (.slice (some ⟨g, 0, none⟩) (spl 32 s).length (spl 32 s).length) ∧ Prt w' g 0 (spl 32 s) ∧ Below w.heap.size w w' := by
  obtain ⟨m, hm⟩ := hM
  refine (Tryd.strings_Split (bs s) (bs [32]) m w (by rw [bs_size]; omega) hm (by rw [bs_size]; decide)).mono fun e w' ⟨he, hw⟩ => ?_
  rw [countB_spl] at he
  rw [splitB_spl] at hw
  subst hw
  refine ⟨w.heap.size, he, ⟨by simp, fun j p hp => ?_⟩, Go.Joins.below_alloc1 _ _⟩
  rw [Nat.zero_add]
  rw [Go.Joins.cell_of_block (heap_alloc_new w _)]
  simp [hp]
end Go.Proofs.YtdhpaglcggeknaaDoor
