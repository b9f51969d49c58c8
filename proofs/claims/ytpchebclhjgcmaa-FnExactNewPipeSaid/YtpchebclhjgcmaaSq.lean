/- A region that draws its order, walked in one order: operations that yield in every world that meets S are taken first, the others are forced. No condition. -/
import Derived.Test.YtpchebclhjgcmaaAr
namespace Go.Fl
open Go.RowKit

section
variable {P : Program} {ops : Array Oper} {Q : Exit → Act → World → Prop} {S : World → Prop}

/-- The walk: 'true': taken first; 'false': the only one that may come up. -/
def wpSeq (P : Program) (ops : Array Oper) (Q : Exit → Act → World → Prop) (S : World → Prop) : List (Bool × Nat) → Act → World → Prop
  | [], a, w => Q .normal a w
  | (true, i) :: l, a, w => ∃ o v, ops[i]? = some o ∧ YieldsIf P ops S o v a ∧ wpSeq P ops Q S l (a.put o.dst v) w
  | (false, i) :: l, a, w => wpOp P ops Q i (fun a' w' => S w' ∧ wpSeq P ops Q S l a' w') a w

def seqB (md : Region.Mode) (ops : Array Oper) : Array Bool → List (Bool × Nat) → Bool
  | listed, [] => Region.ready md ops listed == []
  | listed, (true, i) :: l => Region.free md ops listed i && (Region.ready md ops listed).contains i && seqB md ops (listed.setIfInBounds i true) l
  | listed, (false, i) :: l => Region.ready md ops listed == [i] && seqB md ops (listed.setIfInBounds i true) l

theorem wpAnyH_seq {md : Region.Mode} (hs : Region.noSelect ops = true) (hQ : ∀ (c : List PanicEntry) (a : Act) (d : Option Tmp) (v : Value) (w : World), Q (.panic c) (a.put d v) w → Q (.panic c) a w) :
    ∀ (l : List (Bool × Nat)) (listed : Array Bool) (a : Act) (w : World) (fuel : Nat), l.length ≤ fuel → seqB md ops listed l = true → S w → wpSeq P ops Q S l a w → wpAnyH P md ops Q S fuel listed a w
  | [], listed, a, w, fuel, _, hB, _, h => by
    simp only [seqB, beq_iff_eq] at hB
    exact wpAnyH_done hB h fuel
  | (true, i) :: l, listed, a, w, fuel, hf, hB, hS, h => by
    simp only [seqB, Bool.and_eq_true] at hB
    obtain ⟨o, v, ho, hy, h'⟩ := h
    cases fuel with
    | zero => simp at hf
    | succ fuel =>
      exact wpAnyH_take ho hs hB.1.1 hB.1.2 (fun c a w => hQ c a _ v w) hy hS (wpAnyH_seq hs hQ l _ _ _ fuel (by simpa using hf) hB.2 hS h')
  | (false, i) :: l, listed, a, w, fuel, hf, hB, hS, h => by
    simp only [seqB, Bool.and_eq_true, beq_iff_eq] at hB
    cases fuel with
    | zero => simp at hf
    | succ fuel =>
      refine wpAnyH_all hB.1 (by simp) (fun j hj => ?_)
      have e : j = i := by simpa using hj
      subst e
      exact wpOp_mono (fun a' w' hw => ⟨hw.1, wpAnyH_seq hs hQ l _ _ _ fuel (by simpa using hf) hB.2 hw.1 hw.2⟩) h

/-- THE BEGINNING. -/
theorem wp_region_seq {id : Nat} {a : Act} {w : World} (l : List (Bool × Nat)) (hm : P.follows .mixedOrders = true) (hs : Region.noSelect ops = true)
    (hB : (decide (l.length ≤ ops.size) && seqB .any ops (Array.replicate ops.size false) l) = true)
    (hQ : ∀ (c : List PanicEntry) (a : Act) (d : Option Tmp) (v : Value) (w : World), Q (.panic c) (a.put d v) w → Q (.panic c) a w) (hS : S w.drew)
    (h : wpSeq P ops Q S l a w.drew) : (Code.region id ops true).wp P Q a w := by
  simp only [Bool.and_eq_true, decide_eq_true_eq] at hB
  exact wp_region_held hm (wpAnyH_seq hs hQ l _ _ _ _ hB.1 hB.2 hS h)

theorem wpSeq_nil {a : Act} {w : World} (h : Q .normal a w) : wpSeq P ops Q S [] a w := h
theorem wpSeq_held {i : Nat} {o : Oper} {v : Value} {l : List (Bool × Nat)} {a : Act} {w : World} (ho : ops[i]? = some o) (hy : YieldsIf P ops S o v a) (h : wpSeq P ops Q S l (a.put o.dst v) w) : wpSeq P ops Q S ((true, i) :: l) a w :=
  ⟨o, v, ho, hy, h⟩
theorem wpSeq_step {i : Nat} {o : Oper} {l : List (Bool × Nat)} {a : Act} {w : World} (ho : ops[i]? = some o) (hg : o.guard = none)
    (h : ∀ K : Act → World → Prop, (∀ a' w', (S w' ∧ wpSeq P ops Q S l a' w') → K a' w') → o.wp P a w K Q) : wpSeq P ops Q S ((false, i) :: l) a w := by
  show wpOp _ _ _ _ _ _ _
  unfold wpOp
  rw [ho]
  show if Region.wanted o (yielded ops a.tmps) = true then _ else _
  rw [if_pos (by simp [Region.wanted, hg])]
  exact .inl (h _ (fun _ _ h => h))

/-- A copy, an assignment: what the operand holds. -/
theorem yields_move {o : Oper} {a : Act} (hg : o.guard = none) (x : Operand) (ho : o.op = .move x ∨ o.op = .assign x) : YieldsIf P ops S o (a.eval x) a :=
  .inl ⟨by simp [Region.wanted, hg], fun w _ => by rcases ho with ho | ho <;> · unfold execOp; rw [ho]; rfl⟩
/-- A whole array out of an old block. -/
theorem yields_load_blk {o : Oper} {a : Act} {w0 : World} (hgd : o.guard = none) (ty : TypeId) (x : Operand) (ho : o.op = .load ty x) (g : Nat) (hx : a.eval x = .pointer (some ⟨g, 0, none⟩)) {xs : List Nat} {t : TypeId} (hb : Blk w0 g xs t) (hS : ∀ w, S w → Below w0.heap.size w0 w)
    {n : Nat} {e : TypeId} (hu : P.underlying ty = some (.array n e)) (hi : (P.info? ty).map (·.size) = some n) (hn : xs.length = n) : YieldsIf P ops S o (.agg (fl xs)) a :=
  .inl ⟨by simp [Region.wanted, hgd], fun w hw => by
    unfold execOp
    simp only [ho, hx, Instr.loadAt, Instr.sureAddr, Sem.run_bind, Sem.run_pure, Result.andThen_ok, run_loadVar_row w g t ty (fl xs) (0, 0) _ (hb.below (hS w hw) hb.lt) hu rfl (by rw [hi, fl_size, hn])]⟩
end

theorem seq_below {w0 w w' : World} (h : Below w0.heap.size w0 w) (hb : Below w.heap.size w w') : Below w0.heap.size w0 w' := h.trans (hb.mono h.size)
end Go.Fl
