/- A region that draws its order, walked on a tree of orders. No condition. -/
import Derived.Test.YtpchebclhjgcmaaSq
namespace Go.Fl
open Go.RowKit

/-- The orders: an operation taken first; the only one that may come up; one of two. -/
inductive Road where
  | nil
  | held (i : Nat) (r : Road)
  | one (i : Nat) (r : Road)
  | two (i j : Nat) (r s : Road)
def Road.depth : Road → Nat
  | .nil => 0
  | .held _ r => r.depth + 1
  | .one _ r => r.depth + 1
  | .two _ _ r s => max r.depth s.depth + 1

section
variable {P : Program} {ops : Array Oper} {Q : Exit → Act → World → Prop} {S : World → Prop}
def wpRoad (P : Program) (ops : Array Oper) (Q : Exit → Act → World → Prop) (S : World → Prop) : Road → Act → World → Prop
  | .nil, a, w => Q .normal a w
  | .held i r, a, w => ∃ o v, ops[i]? = some o ∧ YieldsIf P ops S o v a ∧ wpRoad P ops Q S r (a.put o.dst v) w
  | .one i r, a, w => wpOp P ops Q i (fun a' w' => S w' ∧ wpRoad P ops Q S r a' w') a w
  | .two i j r s, a, w => wpOp P ops Q i (fun a' w' => S w' ∧ wpRoad P ops Q S r a' w') a w ∧ wpOp P ops Q j (fun a' w' => S w' ∧ wpRoad P ops Q S s a' w') a w
def roadB (md : Region.Mode) (ops : Array Oper) : Array Bool → Road → Bool
  | listed, .nil => Region.ready md ops listed == []
  | listed, .held i r => Region.free md ops listed i && (Region.ready md ops listed).contains i && roadB md ops (listed.setIfInBounds i true) r
  | listed, .one i r => Region.ready md ops listed == [i] && roadB md ops (listed.setIfInBounds i true) r
  | listed, .two i j r s => Region.ready md ops listed == [i, j] && roadB md ops (listed.setIfInBounds i true) r && roadB md ops (listed.setIfInBounds j true) s

theorem wpAnyH_road {md : Region.Mode} (hs : Region.noSelect ops = true) (hQ : ∀ (c : List PanicEntry) (a : Act) (d : Option Tmp) (v : Value) (w : World), Q (.panic c) (a.put d v) w → Q (.panic c) a w) :
    ∀ (l : Road) (listed : Array Bool) (a : Act) (w : World) (fuel : Nat), l.depth ≤ fuel → roadB md ops listed l = true → S w → wpRoad P ops Q S l a w → wpAnyH P md ops Q S fuel listed a w
  | .nil, listed, a, w, fuel, _, hB, _, h => by
    simp only [roadB, beq_iff_eq] at hB
    exact wpAnyH_done hB h fuel
  | .held i l, listed, a, w, fuel, hf, hB, hS, h => by
    simp only [roadB, Bool.and_eq_true] at hB
    obtain ⟨o, v, ho, hy, h'⟩ := h
    cases fuel with
    | zero => simp [Road.depth] at hf
    | succ fuel =>
      exact wpAnyH_take ho hs hB.1.1 hB.1.2 (fun c a w => hQ c a _ v w) hy hS (wpAnyH_road hs hQ l _ _ _ fuel (by simpa [Road.depth] using hf) hB.2 hS h')
  | .one i l, listed, a, w, fuel, hf, hB, hS, h => by
    simp only [roadB, Bool.and_eq_true, beq_iff_eq] at hB
    cases fuel with
    | zero => simp [Road.depth] at hf
    | succ fuel =>
      refine wpAnyH_all hB.1 (by simp) (fun j hj => ?_)
      have e : j = i := by simpa using hj
      subst e
      exact wpOp_mono (fun a' w' hw => ⟨hw.1, wpAnyH_road hs hQ l _ _ _ fuel (by simpa [Road.depth] using hf) hB.2 hw.1 hw.2⟩) h
  | .two i j r s, listed, a, w, fuel, hf, hB, hS, h => by
    simp only [roadB, Bool.and_eq_true, beq_iff_eq] at hB
    cases fuel with
    | zero => simp [Road.depth] at hf
    | succ fuel =>
      have hf' : max r.depth s.depth ≤ fuel := by simpa [Road.depth] using hf
      refine wpAnyH_all hB.1.1 (by simp) (fun k hk => ?_)
      rcases (by simpa using hk : k = i ∨ k = j) with e | e
      · subst e
        exact wpOp_mono (fun a' w' hw => ⟨hw.1, wpAnyH_road hs hQ r _ _ _ fuel (by omega) hB.1.2 hw.1 hw.2⟩) h.1
      · subst e
        exact wpOp_mono (fun a' w' hw => ⟨hw.1, wpAnyH_road hs hQ s _ _ _ fuel (by omega) hB.2 hw.1 hw.2⟩) h.2

/-- THE BEGINNING. -/
theorem wp_region_road {id : Nat} {a : Act} {w : World} (l : Road) (hm : P.follows .mixedOrders = true) (hs : Region.noSelect ops = true)
    (hB : (decide (l.depth ≤ ops.size) && roadB .any ops (Array.replicate ops.size false) l) = true)
    (hQ : ∀ (c : List PanicEntry) (a : Act) (d : Option Tmp) (v : Value) (w : World), Q (.panic c) (a.put d v) w → Q (.panic c) a w) (hS : S w.drew)
    (h : wpRoad P ops Q S l a w.drew) : (Code.region id ops true).wp P Q a w := by
  simp only [Bool.and_eq_true, decide_eq_true_eq] at hB
  exact wp_region_held hm (wpAnyH_road hs hQ l _ _ _ _ hB.1 hB.2 hS h)

theorem wpRoad_nil {a : Act} {w : World} (h : Q .normal a w) : wpRoad P ops Q S .nil a w := h
theorem wpRoad_held {i : Nat} {o : Oper} {v : Value} {l : Road} {a : Act} {w : World} (ho : ops[i]? = some o) (hy : YieldsIf P ops S o v a) (h : wpRoad P ops Q S l (a.put o.dst v) w) : wpRoad P ops Q S (.held i l) a w :=
  ⟨o, v, ho, hy, h⟩
theorem wpRoad_op {i : Nat} {o : Oper} {l : Road} {a : Act} {w : World} (ho : ops[i]? = some o) (hg : o.guard = none)
    (h : ∀ K : Act → World → Prop, (∀ a' w', (S w' ∧ wpRoad P ops Q S l a' w') → K a' w') → o.wp P a w K Q) : wpOp P ops Q i (fun a' w' => S w' ∧ wpRoad P ops Q S l a' w') a w := by
  unfold wpOp
  rw [ho]
  show if Region.wanted o (yielded ops a.tmps) = true then _ else _
  rw [if_pos (by simp [Region.wanted, hg])]
  exact .inl (h _ (fun _ _ h => h))
theorem wpRoad_one {i : Nat} {o : Oper} {l : Road} {a : Act} {w : World} (ho : ops[i]? = some o) (hg : o.guard = none)
    (h : ∀ K : Act → World → Prop, (∀ a' w', (S w' ∧ wpRoad P ops Q S l a' w') → K a' w') → o.wp P a w K Q) : wpRoad P ops Q S (.one i l) a w := wpRoad_op ho hg h
theorem wpRoad_two {i j : Nat} {o o' : Oper} {l l' : Road} {a : Act} {w : World} (ho : ops[i]? = some o) (hg : o.guard = none) (ho' : ops[j]? = some o') (hg' : o'.guard = none)
    (h : ∀ K : Act → World → Prop, (∀ a' w', (S w' ∧ wpRoad P ops Q S l a' w') → K a' w') → o.wp P a w K Q)
    (h' : ∀ K : Act → World → Prop, (∀ a' w', (S w' ∧ wpRoad P ops Q S l' a' w') → K a' w') → o'.wp P a w K Q) : wpRoad P ops Q S (.two i j l l') a w := ⟨wpRoad_op ho hg h, wpRoad_op ho' hg' h'⟩
end
end Go.Fl
