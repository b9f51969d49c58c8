/- A region that draws its order, with operations behind which a fact of the world need no longer hold. New pipes: plain, and the small functions. New pipes, in the program. Written by gennp.py. Two rows of rings in the making, and what lies beneath. New pipes, in the program: good arguments. Written by gennp2.py. New pipes, in the reference. Written by gennp3.py. New pipes, in the reference: good arguments. Written by gennp4.py. Five arguments. No condition. -/
import Derived.Test.YtpchebclhjgcmaaNd
import Derived.Test.YtpchebclhjgcmaaHl
import Derived.ChangeShapes
namespace Go.Fl
open Go.RowKit
section
variable {P : Program} {ops : Array Oper} {Q : Exit → Act → World → Prop} {md : Region.Mode} {S R : World → Prop} {B : List Nat}
/-- In every order: an operation outside B keeps S, every one keeps R. -/
def wpAnyB (P : Program) (md : Region.Mode) (ops : Array Oper) (Q : Exit → Act → World → Prop) (S R : World → Prop) (B : List Nat) : Nat → Array Bool → Act → World → Prop
  | 0, ls, a, w => Region.ready md ops ls = [] ∧ Q .normal a w
  | n + 1, ls, a, w => (Region.ready md ops ls = [] → Q .normal a w) ∧
    ∀ j, j ∈ Region.ready md ops ls → wpOp P ops Q j (fun b u => ((j ∉ B → S w → S u) ∧ (R w → R u)) ∧ wpAnyB P md ops Q S R B n (ls.setIfInBounds j true) b u) a w
theorem wpAny_of_B : ∀ (n : Nat) (ls : Array Bool) (a : Act) (w : World), wpAnyB P md ops Q S R B n ls a w → wpAny P md ops Q n ls a w
  | 0, _, _, _, h => h
  | n + 1, _, _, _, h => by
    refine ⟨h.1, fun j hj => ?_⟩
    refine wpOp_mono (fun b u k => ?_) (h.2 j hj)
    exact wpAny_of_B n _ b u k.2
/-- An operation taken first, whose value is the same in every world of T. -/
theorem wpAnyB_first {T : World → Prop} {i : Nat} {p : Oper} {v : Value} (hp : ops[i]? = some p) (hsel : ∀ (j : Nat) (o : Oper) cs b, ops[j]? = some o → o.op ≠ .select cs b)
    (hQ : ∀ c a w, Q (.panic c) (a.put p.dst v) w → Q (.panic c) a w)
    (hT : ∀ (j : Nat) (o : Oper) (u u' : World), ops[j]? = some o → j ≠ i → (∀ e ∈ o.after, Region.binds md e = true → e.on ≠ i) → ((j ∉ B → S u → S u') ∧ (R u → R u')) → (T u → T u'))
    (n : Nat) : ∀ (ls : Array Bool) (a : Act) (w : World),
      (∀ j o, ops[j]? = some o → j ≠ i → ls.getD j true = false → (∀ e ∈ o.after, Region.binds md e = true → e.on ≠ i) → p.apart ops o = true) →
      i ∈ Region.ready md ops ls → YieldsIf P ops T p v a → T w → wpAnyB P md ops Q S R B n (ls.setIfInBounds i true) (a.put p.dst v) w → wpAnyB P md ops Q S R B (n + 1) ls a w := by
  induction n with
  | zero =>
    intro ls a w _ hr hy ht H
    constructor
    · intro h0; rw [h0] at hr; cases hr
    · intro j hj
      rcases Nat.decEq j i with hne | rfl
      · have h1 := ready_mono hj hne
        rw [H.1] at h1; cases h1
      · exact hy.wpOp hp ht ⟨⟨fun _ hs => hs, fun hr => hr⟩, H⟩
  | succ n ih =>
    intro ls a w hfr hr hy ht H
    constructor
    · intro h0; rw [h0] at hr; cases hr
    · intro j hj
      rcases Nat.decEq j i with hne | rfl
      · obtain ⟨hun, o, ho, hall⟩ := mem_ready.1 hj
        have hno : ∀ e ∈ o.after, Region.binds md e = true → e.on ≠ i := by
          intro e he hb heq
          have k1 := hall e he hb
          have k0 := (mem_ready.1 hr).1
          rw [heq] at k1
          by_cases hsz : i < ls.size
          · simp [hsz] at k0 k1; rw [k0] at k1; cases k1
          · simp [Array.getElem?_eq_none (Nat.le_of_not_lt hsz)] at k1
        have hw := wpOp_putIf ho (hfr j o ho hne hun hno) (fun cs b => hsel i p cs b hp) (fun cs b => hsel j o cs b ho) hQ hy (H.2 j (ready_mono hj hne))
        refine wpOp_mono (fun b u k => ?_) hw
        obtain ⟨k1, k2, k3⟩ := k
        refine ⟨k2, ih (ls.setIfInBounds j true) b u ?_ (ready_mono hr (Ne.symm hne)) k1 (hT j o w u ho hne hno k2 ht) ?_⟩
        · intro m om hm hmi hmu hmn
          refine hfr m om hm hmi ?_ hmn
          by_cases hjm : j = m
          · rw [← hjm]; exact hun
          · rwa [getD_set_ne true hjm] at hmu
        · rw [Array.setIfInBounds_comm _ _ hne]; exact k3
      · exact hy.wpOp hp ht ⟨⟨fun _ hs => hs, fun hr => hr⟩, H⟩
/-- The orders: taken first (S asked); taken first (nothing asked); the only one that may come up; one of two. -/
inductive RoadB where
  | nil
  | held (i : Nat) (r : RoadB)
  | kept (i : Nat) (r : RoadB)
  | sure (i : Nat) (r : RoadB)
  | one (i : Nat) (r : RoadB)
  | two (i j : Nat) (r s : RoadB)
def RoadB.depth : RoadB → Nat
  | .nil => 0
  | .held _ r => r.depth + 1
  | .kept _ r => r.depth + 1
  | .sure _ r => r.depth + 1
  | .one _ r => r.depth + 1
  | .two _ _ r s => max r.depth s.depth + 1
def wpRoadB (P : Program) (ops : Array Oper) (Q : Exit → Act → World → Prop) (S R : World → Prop) (B : List Nat) : RoadB → Act → World → Prop
  | .nil, a, w => Q .normal a w
  | .held i r, a, w => S w ∧ ∃ o v, ops[i]? = some o ∧ YieldsIf P ops S o v a ∧ wpRoadB P ops Q S R B r (a.put o.dst v) w
  | .kept i r, a, w => R w ∧ ∃ o v, ops[i]? = some o ∧ YieldsIf P ops R o v a ∧ wpRoadB P ops Q S R B r (a.put o.dst v) w
  | .sure i r, a, w => ∃ o v, ops[i]? = some o ∧ YieldsIf P ops (fun _ => True) o v a ∧ wpRoadB P ops Q S R B r (a.put o.dst v) w
  | .one i r, a, w => wpOp P ops Q i (fun b u => ((i ∉ B → S w → S u) ∧ (R w → R u)) ∧ wpRoadB P ops Q S R B r b u) a w
  | .two i j r s, a, w => wpOp P ops Q i (fun b u => ((i ∉ B → S w → S u) ∧ (R w → R u)) ∧ wpRoadB P ops Q S R B r b u) a w ∧ wpOp P ops Q j (fun b u => ((j ∉ B → S w → S u) ∧ (R w → R u)) ∧ wpRoadB P ops Q S R B s b u) a w
/-- Every operation of B waits for i. -/
def waitsB (md : Region.Mode) (ops : Array Oper) (B : List Nat) (i : Nat) : Bool := B.all fun j => match ops[j]? with
  | none => true
  | some o => o.after.any fun e => Region.binds md e && e.on == i
def roadBB (md : Region.Mode) (ops : Array Oper) (B : List Nat) : Array Bool → RoadB → Bool
  | ls, .nil => Region.ready md ops ls == []
  | ls, .held i r => waitsB md ops B i && Region.free md ops ls i && (Region.ready md ops ls).contains i && roadBB md ops B (ls.setIfInBounds i true) r
  | ls, .kept i r => Region.free md ops ls i && (Region.ready md ops ls).contains i && roadBB md ops B (ls.setIfInBounds i true) r
  | ls, .sure i r => Region.free md ops ls i && (Region.ready md ops ls).contains i && roadBB md ops B (ls.setIfInBounds i true) r
  | ls, .one i r => Region.ready md ops ls == [i] && roadBB md ops B (ls.setIfInBounds i true) r
  | ls, .two i j r s => Region.ready md ops ls == [i, j] && roadBB md ops B (ls.setIfInBounds i true) r && roadBB md ops B (ls.setIfInBounds j true) s
theorem waitsB_no {i j : Nat} {o : Oper} (h : waitsB md ops B i = true) (ho : ops[j]? = some o) (hno : ∀ e ∈ o.after, Region.binds md e = true → e.on ≠ i) : j ∉ B := by
  intro hj
  have h1 := List.all_eq_true.1 h j hj
  simp only [ho] at h1
  obtain ⟨e, he, hb⟩ := Array.any_eq_true'.1 h1
  rw [Bool.and_eq_true, beq_iff_eq] at hb
  exact hno e he hb.1 hb.2
theorem wpAnyB_road (hs : Region.noSelect ops = true) (hQ : ∀ (c : List PanicEntry) (a : Act) (d : Option Tmp) (v : Value) (w : World), Q (.panic c) (a.put d v) w → Q (.panic c) a w) :
    ∀ (l : RoadB) (ls : Array Bool) (a : Act) (w : World) (n : Nat), l.depth ≤ n → roadBB md ops B ls l = true → wpRoadB P ops Q S R B l a w → wpAnyB P md ops Q S R B n ls a w
  | .nil, ls, a, w, n, _, hB, h => by
    simp only [roadBB, beq_iff_eq] at hB
    cases n with
    | zero => exact ⟨hB, h⟩
    | succ n => exact ⟨fun _ => h, fun j hj => by rw [hB] at hj; cases hj⟩
  | .held i l, ls, a, w, n, hf, hB, h => by
    simp only [roadBB, Bool.and_eq_true] at hB
    obtain ⟨h0, o, v, ho, hy, h'⟩ := h
    cases n with
    | zero => simp [RoadB.depth] at hf
    | succ n =>
      exact wpAnyB_first ho (Region.noSelect_spec hs) (fun c a w => hQ c a _ v w) (fun j oj u u' hoj _ hno hk hS => hk.1 (waitsB_no hB.1.1.1 hoj hno) hS) n ls a w (Region.free_spec ho hB.1.1.2) (by simpa using hB.1.2) hy h0
        (wpAnyB_road hs hQ l _ _ _ n (by simpa [RoadB.depth] using hf) hB.2 h')
  | .kept i l, ls, a, w, n, hf, hB, h => by
    simp only [roadBB, Bool.and_eq_true] at hB
    obtain ⟨h0, o, v, ho, hy, h'⟩ := h
    cases n with
    | zero => simp [RoadB.depth] at hf
    | succ n =>
      exact wpAnyB_first ho (Region.noSelect_spec hs) (fun c a w => hQ c a _ v w) (fun _ _ _ _ _ _ _ hk => hk.2) n ls a w (Region.free_spec ho hB.1.1) (by simpa using hB.1.2) hy h0
        (wpAnyB_road hs hQ l _ _ _ n (by simpa [RoadB.depth] using hf) hB.2 h')
  | .sure i l, ls, a, w, n, hf, hB, h => by
    simp only [roadBB, Bool.and_eq_true] at hB
    obtain ⟨o, v, ho, hy, h'⟩ := h
    cases n with
    | zero => simp [RoadB.depth] at hf
    | succ n =>
      exact wpAnyB_first (T := fun _ => True) ho (Region.noSelect_spec hs) (fun c a w => hQ c a _ v w) (fun _ _ _ _ _ _ _ _ _ => trivial) n ls a w (Region.free_spec ho hB.1.1) (by simpa using hB.1.2) hy trivial
        (wpAnyB_road hs hQ l _ _ _ n (by simpa [RoadB.depth] using hf) hB.2 h')
  | .one i l, ls, a, w, n, hf, hB, h => by
    simp only [roadBB, Bool.and_eq_true, beq_iff_eq] at hB
    cases n with
    | zero => simp [RoadB.depth] at hf
    | succ n =>
      refine ⟨fun h0 => (by rw [h0] at hB; cases hB.1), fun j hj => ?_⟩
      rw [hB.1] at hj
      obtain rfl : j = i := by simpa using hj
      exact wpOp_mono (fun b u k => ⟨k.1, wpAnyB_road hs hQ l _ _ _ n (by simpa [RoadB.depth] using hf) hB.2 k.2⟩) h
  | .two i j r s, ls, a, w, n, hf, hB, h => by
    simp only [roadBB, Bool.and_eq_true, beq_iff_eq] at hB
    cases n with
    | zero => simp [RoadB.depth] at hf
    | succ n =>
      have hf' : max r.depth s.depth ≤ n := by simpa [RoadB.depth] using hf
      refine ⟨fun h0 => (by rw [h0] at hB; cases hB.1.1), fun k hk => ?_⟩
      rw [hB.1.1] at hk
      rcases (by simpa using hk : k = i ∨ k = j) with e | e
      · rw [e]
        exact wpOp_mono (fun b u k => ⟨k.1, wpAnyB_road hs hQ r _ _ _ n (by omega) hB.1.2 k.2⟩) h.1
      · rw [e]
        exact wpOp_mono (fun b u k => ⟨k.1, wpAnyB_road hs hQ s _ _ _ n (by omega) hB.2 k.2⟩) h.2
/-- THE BEGINNING. -/
theorem wp_region_roadB {id : Nat} {a : Act} {w : World} (B : List Nat) (l : RoadB) (hm : P.follows .mixedOrders = true) (hs : Region.noSelect ops = true)
    (hB : (decide (l.depth ≤ ops.size) && roadBB .any ops B (Array.replicate ops.size false) l) = true)
    (hQ : ∀ (c : List PanicEntry) (a : Act) (d : Option Tmp) (v : Value) (w : World), Q (.panic c) (a.put d v) w → Q (.panic c) a w)
    (h : wpRoadB P ops Q S R B l a w.drew) : (Code.region id ops true).wp P Q a w := by
  simp only [Bool.and_eq_true, decide_eq_true_eq] at hB
  exact wp_region_any hm (wpAny_of_B _ _ _ _ (wpAnyB_road hs hQ l _ _ _ _ hB.1 hB.2 h))
theorem wpRoadB_nil {a : Act} {w : World} (h : Q .normal a w) : wpRoadB P ops Q S R B .nil a w := h
theorem wpRoadB_held {i : Nat} {o : Oper} {v : Value} {l : RoadB} {a : Act} {w : World} (ho : ops[i]? = some o) {d : Tmp} (hd : o.dst = some d) (h0 : S w) (hy : YieldsIf P ops S o v a) (tm : Array Value) (ht : a.tmps.setIfInBounds d v = tm) (h : wpRoadB P ops Q S R B l { tmps := tm, defers := a.defers } w) : wpRoadB P ops Q S R B (.held i l) a w :=
  ⟨h0, o, v, ho, hy, by unfold Act.put; rw [hd]; subst ht; exact h⟩
theorem wpRoadB_kept {i : Nat} {o : Oper} {v : Value} {l : RoadB} {a : Act} {w : World} (ho : ops[i]? = some o) {d : Tmp} (hd : o.dst = some d) (h0 : R w) (hy : YieldsIf P ops R o v a) (tm : Array Value) (ht : a.tmps.setIfInBounds d v = tm) (h : wpRoadB P ops Q S R B l { tmps := tm, defers := a.defers } w) : wpRoadB P ops Q S R B (.kept i l) a w :=
  ⟨h0, o, v, ho, hy, by unfold Act.put; rw [hd]; subst ht; exact h⟩
theorem wpRoadB_sure {i : Nat} {o : Oper} {v : Value} {l : RoadB} {a : Act} {w : World} (ho : ops[i]? = some o) {d : Tmp} (hd : o.dst = some d) (hy : YieldsIf P ops (fun _ => True) o v a) (tm : Array Value) (ht : a.tmps.setIfInBounds d v = tm) (h : wpRoadB P ops Q S R B l { tmps := tm, defers := a.defers } w) : wpRoadB P ops Q S R B (.sure i l) a w :=
  ⟨o, v, ho, hy, by unfold Act.put; rw [hd]; subst ht; exact h⟩
theorem wpRoadB_op {i : Nat} {o : Oper} {l : RoadB} {a : Act} {w : World} (ho : ops[i]? = some o) (hg : o.guard = none)
    (h : ∀ K : Act → World → Prop, (∀ b u, (((i ∉ B → S w → S u) ∧ (R w → R u)) ∧ wpRoadB P ops Q S R B l b u) → K b u) → o.wp P a w K Q) : wpOp P ops Q i (fun b u => ((i ∉ B → S w → S u) ∧ (R w → R u)) ∧ wpRoadB P ops Q S R B l b u) a w := by
  unfold wpOp
  simp only [ho]
  rw [if_pos (by simp [Region.wanted, hg])]
  exact .inl (h _ (fun _ _ h => h))
theorem wpRoadB_one {i : Nat} {o : Oper} {l : RoadB} {a : Act} {w : World} (ho : ops[i]? = some o) (hg : o.guard = none)
    (h : ∀ K : Act → World → Prop, (∀ b u, (((i ∉ B → S w → S u) ∧ (R w → R u)) ∧ wpRoadB P ops Q S R B l b u) → K b u) → o.wp P a w K Q) : wpRoadB P ops Q S R B (.one i l) a w := wpRoadB_op ho hg h
theorem wpRoadB_two {i j : Nat} {o o' : Oper} {l l' : RoadB} {a : Act} {w : World} (ho : ops[i]? = some o) (hg : o.guard = none) (ho' : ops[j]? = some o') (hg' : o'.guard = none)
    (h : ∀ K : Act → World → Prop, (∀ b u, (((i ∉ B → S w → S u) ∧ (R w → R u)) ∧ wpRoadB P ops Q S R B l b u) → K b u) → o.wp P a w K Q)
    (h' : ∀ K : Act → World → Prop, (∀ b u, (((j ∉ B → S w → S u) ∧ (R w → R u)) ∧ wpRoadB P ops Q S R B l' b u) → K b u) → o'.wp P a w K Q) : wpRoadB P ops Q S R B (.two i j l l') a w := ⟨wpRoadB_op ho hg h, wpRoadB_op ho' hg' h'⟩
end
end Go.Fl
namespace Go.Fl
open Go.RowKit
theorem wpList_append_slP {P : Program} {ops : Array Oper} {rest : List Oper} {w : World} {o : Oper} {a : Act} {Q : Exit → Act → World → Prop} (hgd : o.guard = none) (s x : Operand) (t : TypeId)
    (ho : o.op = .call { callee := .builtin .append, args := #[s, x], argTypes := #[t, t] }) (base : Nat) (e : TypeId) (ht : P.underlying t = some (.slice e)) (hinfo : (P.info? e).map (fun i => (i.zero, i.size, i.bytes)) = some (some (.float .f32 0), 1, 4))
    {A : Option Addr} {c n : Nat} {xs : List Nat} (hn : xs.length = n) (hs : a.eval s = .slice A n c) (hown : Own w base A c xs e) {ad : Addr} {d m : Nat} {ys : List Nat} (hm : ys.length = m) (hx : a.eval x = .slice (some ad) m d) (hsl : Sl w (some ad) ys)
    (h63 : n + m ≤ 16777216) (hbase : base ≤ w.heap.size)
    (h : ∀ A' c' w', Own w' base A' c' (xs ++ ys) e → w.grownBy w' (ownBlk A) → wpList P ops Q rest (a.put o.dst (.slice A' (n + m) c')) w') : wpList P ops Q (o :: rest) a w :=
  wpList_plain hgd fun _ hK => wp_append_sl_n s x t ho base e ht hinfo hn hs hown hm hx hsl h63 hbase fun A' c' w' h2 h3 _ => hK _ _ (h A' c' w' h2 h3)
end Go.Fl
namespace Go.Proofs.Ytpchebclhjgcmaa
open Go.RowKit Go.Fl
def keepB (a : Nat) : Bool := (ordC .f32 (cv .f32 a) (cv .f32 0) == some .gt || ordC .f32 (cv .f32 a) (cv .f32 0) == some .eq) && (ordC .f32 (cv .f32 a) (cv .f32 1065353216) == some .lt)
def npIn (n m keep loss : Nat) : Bool := inB n 1 3 && (decide ((m : Int) = (n : Int) - 1) && (keepB keep && inR loss 0 1065353216))
def npS (ss : List Nat) : Bool := ss.all fun x => inR x 3212836864 1065353216
def npL (zs : List Int) : Bool := zs.all fun z => inB z 1 1024
def npOk (zs : List Int) (ss : List Nat) (keep loss : Nat) : Bool := npIn zs.length ss.length keep loss && (npS ss && npL zs)
theorem npS_succ {ss : List Nat} {k : Nat} (h : k < ss.length) : npS (ss.take (k + 1)) = (npS (ss.take k) && inR (nth ss k) 3212836864 1065353216) := by
  unfold npS
  rw [List.take_succ_eq_append_getElem h, List.all_append]
  simp [nth, h]
theorem npL_succ {zs : List Int} {k : Nat} (h : k < zs.length) : npL (zs.take (k + 1)) = (npL (zs.take k) && inB (nthJ zs k) 1 1024) := by
  unfold npL
  rw [List.take_succ_eq_append_getElem h, List.all_append]
  simp [nthJ, h]
theorem npS_bad {ss : List Nat} {k : Nat} (h : npS (ss.take k) = false) : npS ss = false := by
  cases h2 : npS ss
  · rfl
  · unfold npS at h h2
    rw [List.all_eq_true] at h2
    have : (ss.take k).all (fun x => inR x 3212836864 1065353216) = true := List.all_eq_true.2 (fun x hx => h2 x (List.mem_of_mem_take hx))
    rw [this] at h; cases h
theorem npL_bad {zs : List Int} {k : Nat} (h : npL (zs.take k) = false) : npL zs = false := by
  cases h2 : npL zs
  · rfl
  · unfold npL at h h2
    rw [List.all_eq_true] at h2
    have : (zs.take k).all (fun x => inB x 1 1024) = true := List.all_eq_true.2 (fun x hx => h2 x (List.mem_of_mem_take hx))
    rw [this] at h; cases h
theorem npIn_len {n m keep loss : Nat} (h : npIn n m keep loss = true) : 1 ≤ n ∧ n ≤ 3 ∧ m + 1 = n := by
  unfold npIn at h
  rw [Bool.and_eq_true, Bool.and_eq_true] at h
  have h1 := inB_true' h.1
  have h2 := of_decide_eq_true h.2.1
  omega
/-- The first k of these rings are silent and of these lengths. -/
def RingsTo (rs : List RingV) (zs : List Int) (k : Nat) : Prop := rs.length = k ∧ ∀ j, j < k → (rgs rs j).xs = List.replicate (nthJ zs j).toNat 0 ∧ (rgs rs j).at0 = 0
theorem RingsTo.nil (zs : List Int) : RingsTo [] zs 0 := ⟨rfl, fun j hj => by omega⟩
theorem RingsTo.snoc {rs : List RingV} {zs : List Int} {k : Nat} (h : RingsTo rs zs k) {r : RingV} (h1 : r.xs = List.replicate (nthJ zs k).toNat 0) (h2 : r.at0 = 0) : RingsTo (rs ++ [r]) zs (k + 1) := by
  refine ⟨by rw [List.length_append, h.1]; rfl, fun j hj => ?_⟩
  rw [rgs_snoc _ _ _ (by rw [h.1]; exact hj)]
  by_cases e : j = rs.length
  · rw [if_pos e, e, h.1]; exact ⟨h1, h2⟩
  · rw [if_neg e]; exact h.2 j (by have := h.1; omega)
def pipZ : PipV := ⟨none, 0, [], none, 0, [], none, 0, [], filZ, false, 0, 0, 0⟩
def NpRel (zs : List Int) (ss : List Nat) (o : Bool) (keep loss : Nat) (p : PipV) (q : Int) : Prop :=
  (npOk zs ss keep loss = true ∧ RingsTo p.rs zs zs.length ∧ RingsTo p.qs zs zs.length ∧ p.xs = ss ∧ (∃ r, p.F = ⟨1, r, keep, 0, 0, 0⟩ ∧ cv .f32 r = cop .sub .f32 (cv .f32 1065353216) (cv .f32 keep)) ∧ p.o = o ∧ p.l = loss ∧ p.r = 1061158912 ∧ p.s = 3200253952 ∧ q = 0) ∨
  (npOk zs ss keep loss = false ∧ p = pipZ ∧ q = 2)
theorem RingsTo.same {rs qs : List RingV} {zs : List Int} {k : Nat} (h : RingsTo rs zs k) (g : RingsTo qs zs k) : qs.length = rs.length ∧ RsEq rs qs rs.length := by
  refine ⟨by rw [h.1, g.1], fun j hj => ?_⟩
  rw [h.1] at hj
  rw [(h.2 j hj).1, (g.2 j hj).1, (h.2 j hj).2, (g.2 j hj).2]
  exact ⟨rfl, rfl⟩
theorem NpRel.same {zs : List Int} {ss : List Nat} {o : Bool} {keep loss : Nat} {p p' : PipV} {q q' : Int} (h : NpRel zs ss o keep loss p q) (g : NpRel zs ss o keep loss p' q') : PipEq p p' ∧ q = q' := by
  rcases h with ⟨h0, h1, h2, h3, ⟨r, h4, h5⟩, h6, h7, h8, h9, rfl⟩ | ⟨h0, rfl, rfl⟩ <;> rcases g with ⟨g0, g1, g2, g3, ⟨s, g4, g5⟩, g6, g7, g8, g9, rfl⟩ | ⟨g0, rfl, rfl⟩
  · refine ⟨⟨h1.same g1, h2.same g2, ⟨by rw [h3, g3], fun j _ => by rw [h3, g3]⟩, ?_, by rw [h6, g6], by rw [h7, g7], by rw [h8, g8], by rw [h9, g9]⟩, rfl⟩
    rw [h4, g4]
    exact ⟨rfl, h5.trans g5.symm, rfl, rfl, rfl, rfl⟩
  · rw [h0] at g0; cases g0
  · rw [h0] at g0; cases g0
  · exact ⟨⟨⟨rfl, fun _ _ => ⟨rfl, rfl⟩⟩, ⟨rfl, fun _ _ => ⟨rfl, rfl⟩⟩, ⟨rfl, fun _ _ => rfl⟩, FilEq.refl _, rfl, rfl, rfl, rfl⟩, rfl⟩
theorem RingsTo.tot {rs : List RingV} {zs : List Int} {k : Nat} (h : RingsTo rs zs k) (hk : k = zs.length) (hl : npL zs = true) : totR rs ≤ k + k * 1024 := by
  have h1 : ∀ j, j ≤ k → sumTo rs j ≤ j * 1024 := by
    intro j
    induction j with
    | zero => intro _; simp [sumTo]
    | succ j ih =>
      intro hj
      rw [sumTo_succ, (h.2 j (by omega)).1, List.length_replicate]
      have h2 := ih (by omega)
      have h3 : inB (nthJ zs j) 1 1024 = true := by
        unfold npL at hl
        have hj2 : j < zs.length := by omega
        have h4 := List.all_eq_true.1 hl zs[j] (List.getElem_mem hj2)
        have e : nthJ zs j = zs[j] := by simp [nthJ, hj2]
        rw [e]; exact h4
      have h5 := inB_true' h3
      omega
  have h2 := h1 k (Nat.le_refl _)
  unfold totR
  rw [h.1]
  omega
theorem NpRel.tot {zs : List Int} {ss : List Nat} {o : Bool} {keep loss : Nat} {p : PipV} {q : Int} (h : NpRel zs ss o keep loss p q) : (totP p : Int) ≤ 1048576 := by
  rcases h with ⟨h0, h1, h2, h3, _⟩ | ⟨_, rfl, _⟩
  · unfold npOk at h0
    rw [Bool.and_eq_true, Bool.and_eq_true] at h0
    obtain ⟨n1, n2, n3⟩ := npIn_len h0.1
    have t1 := h1.tot rfl h0.2.2
    have t2 := h2.tot rfl h0.2.2
    have hx : p.xs.length = ss.length := by rw [h3]
    unfold totP
    omega
  · decide
theorem np_no {zs : List Int} {ss : List Nat} {o : Bool} {keep loss : Nat} (h : npOk zs ss keep loss = false) : NpRel zs ss o keep loss pipZ 2 := .inr ⟨h, rfl, rfl⟩
theorem PO.nil (w : World) (base : Nat) : PO w base pipZ 0 (fun _ => 0) 0 (fun _ => 0) :=
  ⟨⟨fun h => absurd h (by decide), fun h => absurd h (by decide), fun k hk => absurd hk (Nat.not_lt_zero _), fun k j hk => absurd hk (Nat.not_lt_zero _)⟩, ⟨fun h => absurd h (by decide), fun h => absurd h (by decide), fun k hk => absurd hk (Nat.not_lt_zero _), fun k j hk => absurd hk (Nat.not_lt_zero _)⟩, .inl rfl, fun x h => absurd h.1 (by decide), fun h => absurd rfl h⟩
def NpPost (zs : List Int) (ss : List Nat) (o : Bool) (keep loss : Nat) (w : World) (e : Ending) (w' : World) : Prop :=
  ∃ (p : PipV) (G1 : Nat) (b1 : Nat → Nat) (G2 : Nat) (b2 : Nat → Nat) (q : Int), e = .returned (.tuple #[.agg p.cells.toArray, .int .i64 q]) ∧ PO w' w.heap.size p G1 b1 G2 b2 ∧ NpRel zs ss o keep loss p q ∧ Below w.heap.size w w'
theorem np_bad {zs : List Int} {ss : List Nat} {o : Bool} {keep loss : Nat} {w w' : World} (h : npOk zs ss keep loss = false) (hb : Below w.heap.size w w') : NpPost zs ss o keep loss w (.returned (.tuple #[.agg pipZ.cells.toArray, .int .i64 2])) w' :=
  ⟨pipZ, 0, fun _ => 0, 0, fun _ => 0, 2, rfl, PO.nil _ _, np_no h, hb⟩
theorem c_lengthJ (A : Option Addr) (n c : Nat) (w : World) : Calls Try.prog 70 #[.slice A n c] w fun e w' => e = .returned (.int .i64 n) ∧ w' = w := by
  go_enter Try.func70, Try.ntmps70
  go_wp2
  go_ret
  exact ⟨rfl, rfl⟩
theorem c_isKeep (a : Nat) (v : Bool) (w : World) (h : keepB a = v) : Calls Try.prog 71 #[.float .f32 a] w fun e w' => e = .returned (.bool v) ∧ w' = w := by
  have HV := Lib.hid h
  have HR := Lib.hid (show ((ordC .f32 (cv .f32 a) (cv .f32 0) == some .gt || ordC .f32 (cv .f32 a) (cv .f32 0) == some .eq) && (ordC .f32 (cv .f32 a) (cv .f32 1065353216) == some .lt)) = keepB a from rfl)
  clear h
  cases h1 : (ordC .f32 (cv .f32 a) (cv .f32 0) == some .gt || ordC .f32 (cv .f32 a) (cv .f32 0) == some .eq)
  · rw [h1, Bool.false_and] at HR
    go_enter Try.func71, Try.ntmps71
    go_wp2
    go_ret
    exact ⟨ret_boolx (HR.out.trans HV.out), rfl⟩
  · rw [h1, Bool.true_and] at HR
    cases h2 : (ordC .f32 (cv .f32 a) (cv .f32 1065353216) == some .lt)
    all_goals
      rw [h2] at HR
      go_enter Try.func71, Try.ntmps71
      go_wp2
      go_ret
      exact ⟨ret_boolx (HR.out.trans HV.out), rfl⟩
set_option maxRecDepth 20000 in
theorem c_Clone (ad : Addr) (c : Nat) (xs : List Nat) (w : World) (hs : Sl w (some ad) xs) (hl : xs.length ≤ 1048576) :
    Calls Try.prog 72 #[.slice (some ad) xs.length c] w fun e w' => ∃ A' c', e = .returned (.slice A' xs.length c') ∧ Own w' w.heap.size A' c' xs 25 ∧ Below w.heap.size w w' := by
  have o1 : Own (w.alloc (.cells #[] 25)) w.heap.size (some ⟨w.heap.size, 0, none⟩) 0 [] 25 := Own.of_blk (xs := []) (Blk.newRow w [] #[] 25 _ rfl rfl) (Nat.le_refl _) (by simp [maxLen])
  have b1 := Go.Joins.below_alloc1 w (.cells #[] 25)
  have hsz : w.heap.size ≤ (w.alloc (.cells #[] 25)).heap.size := b1.size
  have s1 := hs.below b1
  have HO := Lib.hid o1; have HS := Lib.hid s1; have HB := Lib.hid b1; have HL := Lib.hid hl; have HZ := Lib.hid hsz
  clear o1 s1 b1 hs hl hsz
  generalize hn : xs.length = n at *
  have HN := Lib.hid hn; clear hn
  have hnil : ∀ W, (binOp .eql 22 (.slice (some ad) n c) (.slice none 0 0)).run Try.prog W = .ok (.bool false) W := fun W => by kernel_rfl
  go_enter Try.func72, Try.ntmps72
  go_wp2_with (at_builtin; refine wpList_append_slP rfl _ _ 22 rfl w.heap.size 25 Try.underlying22 info_f32e (n := 0) (xs := []) rfl rfl HO.out (ys := xs) HN.out rfl HS.out (by have := HL.out; omega) HZ.out ?_; intro A2 c2 w2 ho2' hg2'; have HO2 := Lib.hid ho2'; have HG2 := Lib.hid hg2'; clear ho2' hg2'; rw [Nat.zero_add])
  go_ret
  exact ⟨A2, c2, rfl, HO2.out, HB.out.grown HG2.out HZ.out HO.out.ge⟩
end Go.Proofs.Ytpchebclhjgcmaa
namespace Go.Proofs.Ytpchebclhjgcmaa
open Go.RowKit Go.Fl
structure Stop (p : Prop) : Prop where
  out : p
/-- The walk stops ahead of a store. -/
theorem at_store {P : Program} {ops : Array Oper} {rest : List Oper} {o : Oper} {a : Act} {w : World} {Q : Exit → Act → World → Prop} (ty : TypeId) {x y : Operand} (_ : o.op = .store ty x y) (h : Stop (wpList P ops Q (o :: rest) a w)) : wpList P ops Q (o :: rest) a w := h.out
theorem unstop {p : Prop} (h : p) : Stop p := ⟨h⟩
theorem sl_blk {w : World} {g : Nat} {xs : List Nat} {t : TypeId} (h : Blk w g xs t) : Sl w (some ⟨g, 0, none⟩) xs := by
  refine .inr ⟨⟨g, 0, none⟩, rfl, h.lt, fun k hk => ?_⟩
  have e2 : (⟨g, 0, none⟩ : Addr).add k = ⟨g, k, none⟩ := by unfold Addr.add; split <;> simp_all
  rw [e2]; exact h.cell k hk
theorem npIn_no {n m keep loss : Nat} (h : npIn n m keep loss = false) : inB n 1 3 = false ∨ (inB n 1 3 = true ∧ ¬ (m : Int) = (n : Int) - 1) ∨ (inB n 1 3 = true ∧ (m : Int) = (n : Int) - 1 ∧ keepB keep = false) ∨ (inB n 1 3 = true ∧ (m : Int) = (n : Int) - 1 ∧ keepB keep = true ∧ inR loss 0 1065353216 = false) := by
  unfold npIn at h
  cases h1 : inB n 1 3
  · exact .inl rfl
  · rw [h1, Bool.true_and] at h
    by_cases h2 : (m : Int) = (n : Int) - 1
    · rw [decide_eq_true h2, Bool.true_and] at h
      cases h3 : keepB keep
      · exact .inr (.inr (.inl ⟨rfl, h2, rfl⟩))
      · rw [h3, Bool.true_and] at h
        exact .inr (.inr (.inr ⟨rfl, h2, rfl, h⟩))
    · exact .inr (.inl ⟨rfl, h2⟩)
theorem npIn_yes {n m keep loss : Nat} (h : npIn n m keep loss = true) : inB n 1 3 = true ∧ (m : Int) = (n : Int) - 1 ∧ keepB keep = true ∧ inR loss 0 1065353216 = true := by
  unfold npIn at h
  rw [Bool.and_eq_true, Bool.and_eq_true, Bool.and_eq_true] at h
  exact ⟨h.1, of_decide_eq_true h.2.1, h.2.2.1, h.2.2.2⟩
set_option maxRecDepth 20000 in
set_option maxHeartbeats 4000000 in
theorem c_iNewPipe_no (g1 g2 : Nat) (zs : List Int) (ss : List Nat) (o : Bool) (keep loss : Nat) (w : World) (h1 : Row w g1 (jl zs) 2) (h2 : Blk w g2 ss 25) (hl1 : zs.length ≤ 1048576) (hl2 : ss.length ≤ 1048576) (h : npIn zs.length ss.length keep loss = false) :
    Calls Try.prog 29 #[.slice (some ⟨g1, 0, none⟩) zs.length zs.length, .slice (some ⟨g2, 0, none⟩) ss.length ss.length, .bool o, .float .f32 keep, .float .f32 loss] w (NpPost zs ss o keep loss w) := by
  have HNO := Lib.hid (show npOk zs ss keep loss = false by unfold npOk; rw [h, Bool.false_and])
  have q2 : Row (w.alloc (.cells pipZ.cells.toArray 54)) w.heap.size pipZ.cells.toArray 54 := Row.new _ _ _ _ rfl
  have hb0 := Go.Joins.below_alloc1 w (.cells pipZ.cells.toArray 54)
  have HB := Lib.hid hb0; have HQ := Lib.hid q2; have HI := Lib.hid (h1.below hb0 h1.lt); have HS := Lib.hid (h2.below hb0 h2.lt); have HL1 := Lib.hid hl1; have HL2 := Lib.hid hl2
  have CC := Lib.hid (fun W (hs : Sl W (some ⟨g2, 0, none⟩) ss) => c_Clone ⟨g2, 0, none⟩ ss.length ss W hs hl2)
  have CO : Hid (∀ W, Calls Try.prog 73 #[.float .f32 keep] W fun e w' => ∃ r, e = .returned (.agg #[.int .i64 1, .float .f32 r, .float .f32 keep, .float .f32 0, .float .f32 0, .float .f32 0]) ∧ cv .f32 r = cop .sub .f32 (cv .f32 1065353216) (cv .f32 keep) ∧ Below W.heap.size W w') := Lib.hid (fun W => c_iOnePole keep W)
  clear q2 hb0 h1 h2
  have hi1 : (zs.length : Int) ≤ 1048576 := by omega
  have hi2 : (ss.length : Int) ≤ 1048576 := by omega
  clear hl1 hl2
  generalize hn : zs.length = n at *
  generalize hm : ss.length = m at *
  have HN := Lib.hid hn; have HM := Lib.hid hm; clear hn hm
  rcases npIn_no h with v1 | ⟨v1, v2⟩ | ⟨v1, v2, v3⟩ | ⟨v1, v2, v3, v4⟩
  · clear h
    have V1 := Lib.hid v1; clear v1
    go_enter Try.func29, Try.ntmps29
    go_wp2_with (first | (go_at_call 70; refine (c_lengthJ _ _ _ _).mono ?_; rintro e wz ⟨rfl, rfl⟩) | (go_at_call 69; refine (c_within _ _ _ _ _ V1.out).mono ?_; rintro e wz ⟨rfl, rfl⟩) | (go_at_call 71; refine (c_isKeep _ _ _ V3.out).mono ?_; rintro e wz ⟨rfl, rfl⟩) | (go_at_call 58; refine (c_inside _ _ _ _ _ V4.out).mono ?_; rintro e wz ⟨rfl, rfl⟩))
    go_loopw [12, 43] (fun b i wr => ∃ k : Nat, k ≤ m ∧ i = .int .i64 k ∧ b = .bool false ∧ Hid (Below w.heap.size w wr) ∧ Hid (Row wr w.heap.size pipZ.cells.toArray 54) ∧ Hid (Row wr g1 (jl zs) 2) ∧ Hid (Blk wr g2 ss 25)) (fun _ i _ => m - (intOf i).toNat)
    case atStart => exact ⟨0, by omega, rfl, rfl, HB, HQ, HI, HS⟩
    case round =>
      clear HB HQ HI HS
      obtain ⟨k, hk, rfl, rfl, HB, HQ, HI, HS⟩ := hrel
      have hk0 : (0 : Int) ≤ k := by omega
      by_cases hlt : k < m
      · have c1 := HS.out.cell k (by rw [HM.out]; exact hlt)
        have hk2 : (k : Int) < m := by omega
        go_wp2
        go_roundw
        case rel => exact ⟨k + 1, by omega, by go_num, rfl, HB, HQ, HI, HS⟩
        case measure => simp [intOf]; omega
      have e : m = k := by omega
      subst e
      go_wp2_with fail
      refine (CC.out _ (sl_blk HS.out)).mono ?_; rintro e w3 ⟨A3, c3, rfl, o3, b⟩
      have HA5 := Lib.hid (fun x hx => Nat.lt_of_lt_of_le HQ.out.lt (o3.ge x hx)); have HA3 := Lib.hid (o3.mono HB.out.size); clear o3
      replace HB := Lib.hid (seq_below HB.out b); replace HQ := Lib.hid (HQ.out.below b HQ.out.lt); replace HI := Lib.hid (HI.out.below b HI.out.lt); replace HS := Lib.hid (HS.out.below b HS.out.lt); clear b
      go_wp2_with fail
      refine (CO.out _).mono ?_; rintro e w4 ⟨r, rfl, hr, b⟩
      have HR := Lib.hid hr; clear hr
      replace HB := Lib.hid (seq_below HB.out b); replace HQ := Lib.hid (HQ.out.below b HQ.out.lt); replace HI := Lib.hid (HI.out.below b HI.out.lt); replace HS := Lib.hid (HS.out.below b HS.out.lt); replace HA3 := Lib.hid (HA3.out.below b (Nat.le_refl _)); clear b
      go_wp2_with (refine at_store 54 rfl ?_)
      refine unstop ?_
      refine wpList_store_newest (cells := #[.slice none 0 0, .slice none 0 0, .slice A3 m c3, .int .i64 1, .float .f32 r, .float .f32 keep, .float .f32 0, .float .f32 0, .float .f32 0, .bool o, .float .f32 loss, .float .f32 1061158912, .float .f32 3200253952]) rfl 54 _ _ rfl rfl rfl info_pip rfl rfl (fun wx b q9 => ?_)
      replace HB := Lib.hid (seq_below HB.out b); replace HQ := Lib.hid (HQ.out.below b HQ.out.lt); replace HI := Lib.hid (HI.out.below b HI.out.lt); replace HS := Lib.hid (HS.out.below b HS.out.lt); clear b q9 HA3 HR
      go_wp2_with fail
      go_loopw [62] (fun i wr => i = .int .i64 0 ∧ Hid (Below w.heap.size w wr) ∧ Hid (Row wr w.heap.size pipZ.cells.toArray 54) ∧ Hid (Row wr g1 (jl zs) 2) ∧ Hid (Blk wr g2 ss 25)) (fun _ _ => 0)
      case atStart => exact ⟨rfl, HB, HQ, HI, HS⟩
      case round =>
        clear HB HQ HI HS
        obtain ⟨rfl, HB, HQ, HI, HS⟩ := hrel
        by_cases hlt : 0 < n
        · have c1 := HI.out.cell 0 _ (jl_get zs 0 (by rw [HN.out]; exact hlt))
          have hk2 : (0 : Int) < n := by omega
          go_wp2_with (refine wpList_store_cells (cells := pipZ.cells.toArray) rfl 54 _ _ rfl _ rfl rfl HQ.out info_pip rfl rfl ?_)
          refine bodyPost_ret (results_cells_tmp rfl _ _ _ rfl rfl (HQ.out.row pipZ.cells.toArray) Try.underlying54 rfl info_pip) rfl ?_
          exact np_bad HNO.out (below_setRow HB.out (Nat.le_refl _) _)
        have e : n = 0 := by omega
        subst e
        go_wp2_with (refine wpList_store_cells (cells := pipZ.cells.toArray) rfl 54 _ _ rfl _ rfl rfl HQ.out info_pip rfl rfl ?_)
        refine bodyPost_ret (results_cells_tmp rfl _ _ _ rfl rfl (HQ.out.row pipZ.cells.toArray) Try.underlying54 rfl info_pip) rfl ?_
        exact np_bad HNO.out (below_setRow HB.out (Nat.le_refl _) _)
  · clear h
    have V1 := Lib.hid v1; clear v1
    have hq1 : ((m : Int) == (n : Int) - 1) = false := beq_false_of_ne v2
    have hq2 : decide ((m : Int) = (n : Int) - 1) = false := decide_eq_false v2
    have hn0 : (1 : Int) ≤ n := by have := inB_true' V1.out; omega
    clear v2
    go_enter Try.func29, Try.ntmps29
    go_wp2_with (first | (go_at_call 70; refine (c_lengthJ _ _ _ _).mono ?_; rintro e wz ⟨rfl, rfl⟩) | (go_at_call 69; refine (c_within _ _ _ _ _ V1.out).mono ?_; rintro e wz ⟨rfl, rfl⟩) | (go_at_call 71; refine (c_isKeep _ _ _ V3.out).mono ?_; rintro e wz ⟨rfl, rfl⟩) | (go_at_call 58; refine (c_inside _ _ _ _ _ V4.out).mono ?_; rintro e wz ⟨rfl, rfl⟩))
    go_loopw [12, 43] (fun b i wr => ∃ k : Nat, k ≤ m ∧ i = .int .i64 k ∧ b = .bool false ∧ Hid (Below w.heap.size w wr) ∧ Hid (Row wr w.heap.size pipZ.cells.toArray 54) ∧ Hid (Row wr g1 (jl zs) 2) ∧ Hid (Blk wr g2 ss 25)) (fun _ i _ => m - (intOf i).toNat)
    case atStart => exact ⟨0, by omega, rfl, rfl, HB, HQ, HI, HS⟩
    case round =>
      clear HB HQ HI HS
      obtain ⟨k, hk, rfl, rfl, HB, HQ, HI, HS⟩ := hrel
      have hk0 : (0 : Int) ≤ k := by omega
      by_cases hlt : k < m
      · have c1 := HS.out.cell k (by rw [HM.out]; exact hlt)
        have hk2 : (k : Int) < m := by omega
        go_wp2
        go_roundw
        case rel => exact ⟨k + 1, by omega, by go_num, rfl, HB, HQ, HI, HS⟩
        case measure => simp [intOf]; omega
      have e : m = k := by omega
      subst e
      go_wp2_with fail
      refine (CC.out _ (sl_blk HS.out)).mono ?_; rintro e w3 ⟨A3, c3, rfl, o3, b⟩
      have HA5 := Lib.hid (fun x hx => Nat.lt_of_lt_of_le HQ.out.lt (o3.ge x hx)); have HA3 := Lib.hid (o3.mono HB.out.size); clear o3
      replace HB := Lib.hid (seq_below HB.out b); replace HQ := Lib.hid (HQ.out.below b HQ.out.lt); replace HI := Lib.hid (HI.out.below b HI.out.lt); replace HS := Lib.hid (HS.out.below b HS.out.lt); clear b
      go_wp2_with fail
      refine (CO.out _).mono ?_; rintro e w4 ⟨r, rfl, hr, b⟩
      have HR := Lib.hid hr; clear hr
      replace HB := Lib.hid (seq_below HB.out b); replace HQ := Lib.hid (HQ.out.below b HQ.out.lt); replace HI := Lib.hid (HI.out.below b HI.out.lt); replace HS := Lib.hid (HS.out.below b HS.out.lt); replace HA3 := Lib.hid (HA3.out.below b (Nat.le_refl _)); clear b
      go_wp2_with (refine at_store 54 rfl ?_)
      refine unstop ?_
      refine wpList_store_newest (cells := #[.slice none 0 0, .slice none 0 0, .slice A3 m c3, .int .i64 1, .float .f32 r, .float .f32 keep, .float .f32 0, .float .f32 0, .float .f32 0, .bool o, .float .f32 loss, .float .f32 1061158912, .float .f32 3200253952]) rfl 54 _ _ rfl rfl rfl info_pip rfl rfl (fun wx b q9 => ?_)
      replace HB := Lib.hid (seq_below HB.out b); replace HQ := Lib.hid (HQ.out.below b HQ.out.lt); replace HI := Lib.hid (HI.out.below b HI.out.lt); replace HS := Lib.hid (HS.out.below b HS.out.lt); clear b q9 HA3 HR
      go_wp2_with fail
      go_loopw [62] (fun i wr => i = .int .i64 0 ∧ Hid (Below w.heap.size w wr) ∧ Hid (Row wr w.heap.size pipZ.cells.toArray 54) ∧ Hid (Row wr g1 (jl zs) 2) ∧ Hid (Blk wr g2 ss 25)) (fun _ _ => 0)
      case atStart => exact ⟨rfl, HB, HQ, HI, HS⟩
      case round =>
        clear HB HQ HI HS
        obtain ⟨rfl, HB, HQ, HI, HS⟩ := hrel
        by_cases hlt : 0 < n
        · have c1 := HI.out.cell 0 _ (jl_get zs 0 (by rw [HN.out]; exact hlt))
          have hk2 : (0 : Int) < n := by omega
          go_wp2_with (refine wpList_store_cells (cells := pipZ.cells.toArray) rfl 54 _ _ rfl _ rfl rfl HQ.out info_pip rfl rfl ?_)
          refine bodyPost_ret (results_cells_tmp rfl _ _ _ rfl rfl (HQ.out.row pipZ.cells.toArray) Try.underlying54 rfl info_pip) rfl ?_
          exact np_bad HNO.out (below_setRow HB.out (Nat.le_refl _) _)
        have e : n = 0 := by omega
        subst e
        go_wp2_with (refine wpList_store_cells (cells := pipZ.cells.toArray) rfl 54 _ _ rfl _ rfl rfl HQ.out info_pip rfl rfl ?_)
        refine bodyPost_ret (results_cells_tmp rfl _ _ _ rfl rfl (HQ.out.row pipZ.cells.toArray) Try.underlying54 rfl info_pip) rfl ?_
        exact np_bad HNO.out (below_setRow HB.out (Nat.le_refl _) _)
  · clear h
    have V1 := Lib.hid v1; clear v1
    have hq1 : ((m : Int) == (n : Int) - 1) = true := beq_iff_eq.2 v2
    have hq2 : decide ((m : Int) = (n : Int) - 1) = true := decide_eq_true v2
    have hn0 : (1 : Int) ≤ n := by have := inB_true' V1.out; omega
    clear v2
    have V3 := Lib.hid v3; clear v3
    go_enter Try.func29, Try.ntmps29
    go_wp2_with (first | (go_at_call 70; refine (c_lengthJ _ _ _ _).mono ?_; rintro e wz ⟨rfl, rfl⟩) | (go_at_call 69; refine (c_within _ _ _ _ _ V1.out).mono ?_; rintro e wz ⟨rfl, rfl⟩) | (go_at_call 71; refine (c_isKeep _ _ _ V3.out).mono ?_; rintro e wz ⟨rfl, rfl⟩) | (go_at_call 58; refine (c_inside _ _ _ _ _ V4.out).mono ?_; rintro e wz ⟨rfl, rfl⟩))
    go_loopw [12, 43] (fun b i wr => ∃ k : Nat, k ≤ m ∧ i = .int .i64 k ∧ b = .bool false ∧ Hid (Below w.heap.size w wr) ∧ Hid (Row wr w.heap.size pipZ.cells.toArray 54) ∧ Hid (Row wr g1 (jl zs) 2) ∧ Hid (Blk wr g2 ss 25)) (fun _ i _ => m - (intOf i).toNat)
    case atStart => exact ⟨0, by omega, rfl, rfl, HB, HQ, HI, HS⟩
    case round =>
      clear HB HQ HI HS
      obtain ⟨k, hk, rfl, rfl, HB, HQ, HI, HS⟩ := hrel
      have hk0 : (0 : Int) ≤ k := by omega
      by_cases hlt : k < m
      · have c1 := HS.out.cell k (by rw [HM.out]; exact hlt)
        have hk2 : (k : Int) < m := by omega
        go_wp2
        go_roundw
        case rel => exact ⟨k + 1, by omega, by go_num, rfl, HB, HQ, HI, HS⟩
        case measure => simp [intOf]; omega
      have e : m = k := by omega
      subst e
      go_wp2_with fail
      refine (CC.out _ (sl_blk HS.out)).mono ?_; rintro e w3 ⟨A3, c3, rfl, o3, b⟩
      have HA5 := Lib.hid (fun x hx => Nat.lt_of_lt_of_le HQ.out.lt (o3.ge x hx)); have HA3 := Lib.hid (o3.mono HB.out.size); clear o3
      replace HB := Lib.hid (seq_below HB.out b); replace HQ := Lib.hid (HQ.out.below b HQ.out.lt); replace HI := Lib.hid (HI.out.below b HI.out.lt); replace HS := Lib.hid (HS.out.below b HS.out.lt); clear b
      go_wp2_with fail
      refine (CO.out _).mono ?_; rintro e w4 ⟨r, rfl, hr, b⟩
      have HR := Lib.hid hr; clear hr
      replace HB := Lib.hid (seq_below HB.out b); replace HQ := Lib.hid (HQ.out.below b HQ.out.lt); replace HI := Lib.hid (HI.out.below b HI.out.lt); replace HS := Lib.hid (HS.out.below b HS.out.lt); replace HA3 := Lib.hid (HA3.out.below b (Nat.le_refl _)); clear b
      go_wp2_with (refine at_store 54 rfl ?_)
      refine unstop ?_
      refine wpList_store_newest (cells := #[.slice none 0 0, .slice none 0 0, .slice A3 m c3, .int .i64 1, .float .f32 r, .float .f32 keep, .float .f32 0, .float .f32 0, .float .f32 0, .bool o, .float .f32 loss, .float .f32 1061158912, .float .f32 3200253952]) rfl 54 _ _ rfl rfl rfl info_pip rfl rfl (fun wx b q9 => ?_)
      replace HB := Lib.hid (seq_below HB.out b); replace HQ := Lib.hid (HQ.out.below b HQ.out.lt); replace HI := Lib.hid (HI.out.below b HI.out.lt); replace HS := Lib.hid (HS.out.below b HS.out.lt); clear b q9 HA3 HR
      go_wp2_with fail
      go_loopw [62] (fun i wr => i = .int .i64 0 ∧ Hid (Below w.heap.size w wr) ∧ Hid (Row wr w.heap.size pipZ.cells.toArray 54) ∧ Hid (Row wr g1 (jl zs) 2) ∧ Hid (Blk wr g2 ss 25)) (fun _ _ => 0)
      case atStart => exact ⟨rfl, HB, HQ, HI, HS⟩
      case round =>
        clear HB HQ HI HS
        obtain ⟨rfl, HB, HQ, HI, HS⟩ := hrel
        by_cases hlt : 0 < n
        · have c1 := HI.out.cell 0 _ (jl_get zs 0 (by rw [HN.out]; exact hlt))
          have hk2 : (0 : Int) < n := by omega
          go_wp2_with (refine wpList_store_cells (cells := pipZ.cells.toArray) rfl 54 _ _ rfl _ rfl rfl HQ.out info_pip rfl rfl ?_)
          refine bodyPost_ret (results_cells_tmp rfl _ _ _ rfl rfl (HQ.out.row pipZ.cells.toArray) Try.underlying54 rfl info_pip) rfl ?_
          exact np_bad HNO.out (below_setRow HB.out (Nat.le_refl _) _)
        have e : n = 0 := by omega
        subst e
        go_wp2_with (refine wpList_store_cells (cells := pipZ.cells.toArray) rfl 54 _ _ rfl _ rfl rfl HQ.out info_pip rfl rfl ?_)
        refine bodyPost_ret (results_cells_tmp rfl _ _ _ rfl rfl (HQ.out.row pipZ.cells.toArray) Try.underlying54 rfl info_pip) rfl ?_
        exact np_bad HNO.out (below_setRow HB.out (Nat.le_refl _) _)
  · clear h
    have V1 := Lib.hid v1; clear v1
    have hq1 : ((m : Int) == (n : Int) - 1) = true := beq_iff_eq.2 v2
    have hq2 : decide ((m : Int) = (n : Int) - 1) = true := decide_eq_true v2
    have hn0 : (1 : Int) ≤ n := by have := inB_true' V1.out; omega
    clear v2
    have V3 := Lib.hid v3; clear v3
    have V4 := Lib.hid v4; clear v4
    go_enter Try.func29, Try.ntmps29
    go_wp2_with (first | (go_at_call 70; refine (c_lengthJ _ _ _ _).mono ?_; rintro e wz ⟨rfl, rfl⟩) | (go_at_call 69; refine (c_within _ _ _ _ _ V1.out).mono ?_; rintro e wz ⟨rfl, rfl⟩) | (go_at_call 71; refine (c_isKeep _ _ _ V3.out).mono ?_; rintro e wz ⟨rfl, rfl⟩) | (go_at_call 58; refine (c_inside _ _ _ _ _ V4.out).mono ?_; rintro e wz ⟨rfl, rfl⟩))
    go_loopw [12, 43] (fun b i wr => ∃ k : Nat, k ≤ m ∧ i = .int .i64 k ∧ b = .bool false ∧ Hid (Below w.heap.size w wr) ∧ Hid (Row wr w.heap.size pipZ.cells.toArray 54) ∧ Hid (Row wr g1 (jl zs) 2) ∧ Hid (Blk wr g2 ss 25)) (fun _ i _ => m - (intOf i).toNat)
    case atStart => exact ⟨0, by omega, rfl, rfl, HB, HQ, HI, HS⟩
    case round =>
      clear HB HQ HI HS
      obtain ⟨k, hk, rfl, rfl, HB, HQ, HI, HS⟩ := hrel
      have hk0 : (0 : Int) ≤ k := by omega
      by_cases hlt : k < m
      · have c1 := HS.out.cell k (by rw [HM.out]; exact hlt)
        have hk2 : (k : Int) < m := by omega
        go_wp2
        go_roundw
        case rel => exact ⟨k + 1, by omega, by go_num, rfl, HB, HQ, HI, HS⟩
        case measure => simp [intOf]; omega
      have e : m = k := by omega
      subst e
      go_wp2_with fail
      refine (CC.out _ (sl_blk HS.out)).mono ?_; rintro e w3 ⟨A3, c3, rfl, o3, b⟩
      have HA5 := Lib.hid (fun x hx => Nat.lt_of_lt_of_le HQ.out.lt (o3.ge x hx)); have HA3 := Lib.hid (o3.mono HB.out.size); clear o3
      replace HB := Lib.hid (seq_below HB.out b); replace HQ := Lib.hid (HQ.out.below b HQ.out.lt); replace HI := Lib.hid (HI.out.below b HI.out.lt); replace HS := Lib.hid (HS.out.below b HS.out.lt); clear b
      go_wp2_with fail
      refine (CO.out _).mono ?_; rintro e w4 ⟨r, rfl, hr, b⟩
      have HR := Lib.hid hr; clear hr
      replace HB := Lib.hid (seq_below HB.out b); replace HQ := Lib.hid (HQ.out.below b HQ.out.lt); replace HI := Lib.hid (HI.out.below b HI.out.lt); replace HS := Lib.hid (HS.out.below b HS.out.lt); replace HA3 := Lib.hid (HA3.out.below b (Nat.le_refl _)); clear b
      go_wp2_with (refine at_store 54 rfl ?_)
      refine unstop ?_
      refine wpList_store_newest (cells := #[.slice none 0 0, .slice none 0 0, .slice A3 m c3, .int .i64 1, .float .f32 r, .float .f32 keep, .float .f32 0, .float .f32 0, .float .f32 0, .bool o, .float .f32 loss, .float .f32 1061158912, .float .f32 3200253952]) rfl 54 _ _ rfl rfl rfl info_pip rfl rfl (fun wx b q9 => ?_)
      replace HB := Lib.hid (seq_below HB.out b); replace HQ := Lib.hid (HQ.out.below b HQ.out.lt); replace HI := Lib.hid (HI.out.below b HI.out.lt); replace HS := Lib.hid (HS.out.below b HS.out.lt); clear b q9 HA3 HR
      go_wp2_with fail
      go_loopw [62] (fun i wr => i = .int .i64 0 ∧ Hid (Below w.heap.size w wr) ∧ Hid (Row wr w.heap.size pipZ.cells.toArray 54) ∧ Hid (Row wr g1 (jl zs) 2) ∧ Hid (Blk wr g2 ss 25)) (fun _ _ => 0)
      case atStart => exact ⟨rfl, HB, HQ, HI, HS⟩
      case round =>
        clear HB HQ HI HS
        obtain ⟨rfl, HB, HQ, HI, HS⟩ := hrel
        by_cases hlt : 0 < n
        · have c1 := HI.out.cell 0 _ (jl_get zs 0 (by rw [HN.out]; exact hlt))
          have hk2 : (0 : Int) < n := by omega
          go_wp2_with (refine wpList_store_cells (cells := pipZ.cells.toArray) rfl 54 _ _ rfl _ rfl rfl HQ.out info_pip rfl rfl ?_)
          refine bodyPost_ret (results_cells_tmp rfl _ _ _ rfl rfl (HQ.out.row pipZ.cells.toArray) Try.underlying54 rfl info_pip) rfl ?_
          exact np_bad HNO.out (below_setRow HB.out (Nat.le_refl _) _)
        have e : n = 0 := by omega
        subst e
        go_wp2_with (refine wpList_store_cells (cells := pipZ.cells.toArray) rfl 54 _ _ rfl _ rfl rfl HQ.out info_pip rfl rfl ?_)
        refine bodyPost_ret (results_cells_tmp rfl _ _ _ rfl rfl (HQ.out.row pipZ.cells.toArray) Try.underlying54 rfl info_pip) rfl ?_
        exact np_bad HNO.out (below_setRow HB.out (Nat.le_refl _) _)
end Go.Proofs.Ytpchebclhjgcmaa
namespace Go.Proofs.Ytpchebclhjgcmaa
open Go.RowKit Go.Fl
/-- What lies beneath the rings: the arguments, the result's own block, the scatter. -/
structure NpB (w0 : World) (G g1 g2 : Nat) (zs : List Int) (ss : List Nat) (A3 : Option Addr) (c3 : Nat) (W : World) : Prop where
  gt : w0.heap.size < G ∧ g1 < G ∧ g2 < G
  a3 : ∀ x, ownBlk A3 = some x → w0.heap.size < x ∧ x < G
  below : Below w0.heap.size w0 W
  zero : Row W w0.heap.size pipZ.cells.toArray 54
  ints : Row W g1 (jl zs) 2
  flts : Blk W g2 ss 25
  own : Own W w0.heap.size A3 c3 ss 25
section
variable {w0 W W' : World} {G g1 g2 : Nat} {zs : List Int} {ss : List Nat} {A3 : Option Addr} {c3 : Nat}
theorem NpB.step (h : NpB w0 G g1 g2 zs ss A3 c3 W) {row : Option Nat} (hg : W.grownBy W' row) (hr : ∀ x, row = some x → G ≤ x) : NpB w0 G g1 g2 zs ss A3 c3 W' := by
  obtain ⟨⟨t1, t2, t3⟩, a, b, z, i, f, o⟩ := h
  have hne : ∀ y, y < G → some y ≠ row := fun y hy e => by have := hr y e.symm; omega
  exact ⟨⟨t1, t2, t3⟩, a, b.trans (below_grownBy hg b.size (fun k hk => by have := hr k hk; omega)), z.grown hg (hne _ t1), i.grown hg (hne _ t2), f.grown hg (hne _ t3), o.kept hg (fun k hk => hne _ (a k hk).2)⟩
theorem NpB.down (h : NpB w0 G g1 g2 zs ss A3 c3 W) (b : Below W.heap.size W W') : NpB w0 G g1 g2 zs ss A3 c3 W' := h.step (row := none) (grownBy_below b) (fun _ e => by cases e)
end
/-- The rings on both sides. -/
structure NpR (G : Nat) (A1 : Option Addr) (c1 : Nat) (rs : List RingV) (b1 : Nat → Nat) (A2 : Option Addr) (c2 : Nat) (qs : List RingV) (b2 : Nat → Nat) (W : World) : Prop where
  r : RB W (G + 1) A1 c1 rs b1
  l : RB W (G + 1) A2 c2 qs b2
  x : ∀ i j, i < rs.length → j < qs.length → b1 i ≠ b2 j
section
variable {W W' : World} {G : Nat} {A1 A2 : Option Addr} {c1 c2 : Nat} {rs qs : List RingV} {b1 b2 : Nat → Nat}
theorem NpR.nils (W : World) (G : Nat) : NpR G none 0 [] (fun _ => 0) none 0 [] (fun _ => 0) W := ⟨RB.nils _ _ _, RB.nils _ _ _, fun _ _ hi => absurd hi (Nat.not_lt_zero _)⟩
theorem NpR.down (h : NpR G A1 c1 rs b1 A2 c2 qs b2 W) (b : Below W.heap.size W W') : NpR G A1 c1 rs b1 A2 c2 qs b2 W' := ⟨h.r.below b, h.l.below b, h.x⟩
theorem NpR.low (h : NpR G A1 c1 rs b1 A2 c2 qs b2 W) {y : Nat} (hg : W.grownBy W' (some y)) (hy : y < G + 1) : NpR G A1 c1 rs b1 A2 c2 qs b2 W' := ⟨h.r.low hg hy, h.l.low hg hy, h.x⟩
theorem NpR.lt1 (h : NpR G A1 c1 rs b1 A2 c2 qs b2 W) : ∀ k, k < rs.length → b1 k < W.heap.size := fun k hk => (h.r.blk k hk).2.2.lt
theorem NpR.lt2 (h : NpR G A1 c1 rs b1 A2 c2 qs b2 W) : ∀ k, k < qs.length → b2 k < W.heap.size := fun k hk => (h.l.blk k hk).2.2.lt
theorem NpR.right (h : NpR G A1 c1 rs b1 A2 c2 qs b2 W) {A : Option Addr} {c g : Nat} {r : RingV} (hn : OwnR W' (G + 1) A c (rs.length + 1) (fl2 rs ++ rgC r) 34 2) (hg : W.grownBy W' (ownBlk A1)) (hA : r.A = some ⟨g, 0, none⟩) (hgb : G + 1 ≤ g) (hb : Blk W g r.xs 25) (l1 : ∀ k, k < rs.length → b1 k < g) (l2 : ∀ k, k < qs.length → b2 k < g) :
    NpR G A c (rs ++ [r]) (fun k => if k = rs.length then g else b1 k) A2 c2 qs b2 W' := by
  refine ⟨h.r.snoc hn hg hA hgb hb (fun k hk => Nat.ne_of_lt (l1 k hk)), h.r.other h.l h.x hg, fun i j hi hj => ?_⟩
  show (if i = rs.length then g else b1 i) ≠ b2 j
  split
  · exact Nat.ne_of_gt (l2 j hj)
  · exact h.x i j (by rw [List.length_append] at hi; simp only [List.length_cons, List.length_nil] at hi; omega) hj
theorem NpR.left (h : NpR G A1 c1 rs b1 A2 c2 qs b2 W) {A : Option Addr} {c g : Nat} {r : RingV} (hn : OwnR W' (G + 1) A c (qs.length + 1) (fl2 qs ++ rgC r) 34 2) (hg : W.grownBy W' (ownBlk A2)) (hA : r.A = some ⟨g, 0, none⟩) (hgb : G + 1 ≤ g) (hb : Blk W g r.xs 25) (l1 : ∀ k, k < rs.length → b1 k < g) (l2 : ∀ k, k < qs.length → b2 k < g) :
    NpR G A1 c1 rs b1 A c (qs ++ [r]) (fun k => if k = qs.length then g else b2 k) W' := by
  refine ⟨h.l.other h.r (fun i j hi hj => (h.x j i hj hi).symm) hg, h.l.snoc hn hg hA hgb hb (fun k hk => Nat.ne_of_lt (l2 k hk)), fun i j hi hj => ?_⟩
  show b1 i ≠ (if j = qs.length then g else b2 j)
  split
  · exact Nat.ne_of_lt (l1 i hi)
  · exact h.x i j hi (by rw [List.length_append] at hj; simp only [List.length_cons, List.length_nil] at hj; omega)
theorem ifs_lt {n g x : Nat} {b : Nat → Nat} (h : ∀ k, k < n → b k < x) (hg : g < x) : ∀ k, k < n + 1 → (if k = n then g else b k) < x := fun k hk => by
  split
  · exact hg
  · exact h k (by omega)
end
theorem RO.mono {w : World} {base b0 : Nat} {A : Option Addr} {rs : List RingV} {G : Nat} {b : Nat → Nat} (h : RO w base A rs G b) (hb : b0 ≤ base) : RO w b0 A rs G b :=
  ⟨fun h0 => ⟨(h.head h0).1, Nat.le_trans hb (h.head h0).2⟩, h.row, fun k hk => ⟨(h.own k hk).1, Nat.le_trans hb (h.own k hk).2.1, (h.own k hk).2.2.1, (h.own k hk).2.2.2⟩, h.inj⟩
/-- The whole pipe is one's own. -/
theorem np_po {w0 W : World} {G : Nat} {ss : List Nat} {A3 : Option Addr} {c3 : Nat} {p : PipV} {b1 b2 : Nat → Nat} (hgt : w0.heap.size < G) (ha : ∀ x, ownBlk A3 = some x → w0.heap.size < x ∧ x < G) (ho : Own W w0.heap.size A3 c3 ss 25) (hr : NpR G p.A1 p.c1 p.rs b1 p.A2 p.c2 p.qs b2 W) (e1 : p.A3 = A3) (e2 : p.c3 = c3) (e3 : p.xs = ss) : ∃ G1 G2, PO W w0.heap.size p G1 b1 G2 b2 := by
  obtain ⟨G1, h1⟩ := hr.r.ro
  obtain ⟨G2, h2⟩ := hr.l.ro
  have hle : w0.heap.size ≤ G + 1 := by omega
  have hG : ∀ x, SR p.rs G1 b1 x → ¬ SR p.qs G2 b2 x := by
    rintro x ⟨p1, hx⟩ ⟨p2, hy⟩
    have k1 := hr.r.cross hr.l hr.x
    rcases hx with rfl | ⟨i, hi, rfl⟩
    · rcases hy with rfl | ⟨j, hj, rfl⟩
      · have a1 := (h1.head p1).1; have a2 := (h2.head p2).1
        exact k1 x (by rw [a2]; rfl) (by rw [a1]; rfl)
      · have a1 := (h1.head p1).1
        exact hr.r.blk_ne (hr.l.blk j hj).2.2 (by rw [a1]; rfl)
    · rcases hy with rfl | ⟨j, hj, e⟩
      · have a2 := (h2.head p2).1
        exact hr.l.blk_ne (hr.r.blk i hi).2.2 (by rw [a2]; rfl)
      · exact hr.x i j hi hj e
  have hge1 := h1.ge; have hge2 := h2.ge
  refine ⟨G1, G2, h1.mono hle, h2.mono hle, .inr (by rw [e1, e2, e3]; exact ho), hG, fun _ x hx => ?_⟩
  rw [e1] at hx
  have h3 := (ha x hx).2
  exact ⟨fun e => by have := hge1 x e; omega, fun e => by have := hge2 x e; omega⟩
end Go.Proofs.Ytpchebclhjgcmaa
namespace Go.Proofs.Ytpchebclhjgcmaa
open Go.RowKit Go.Fl
theorem yields_load_rowR {P : Program} {ops : Array Oper} {S : World → Prop} {o : Oper} {a : Act} (hgd : o.guard = none) (ty : TypeId) (x : Operand) (ho : o.op = .load ty x) (g : Nat) (hx : a.eval x = .pointer (some ⟨g, 0, none⟩)) {cs : Array Value} {t : TypeId} (hS : ∀ w, S w → Row w g cs t)
    {d : TypeDesc} (hu : P.underlying ty = some d) (hd : (match d with | .struct _ | .array _ _ => true | _ => false) = true) (hi : (P.info? ty).map (·.size) = some cs.size) : YieldsIf P ops S o (.agg cs) a :=
  .inl ⟨by simp [Region.wanted, hgd], fun w hw => by
    unfold execOp
    simp only [ho, hx, Instr.loadAt, Instr.sureAddr, Sem.run_bind, Sem.run_pure, Result.andThen_ok, run_loadVar_row w g t ty cs (0, 0) _ (hS w hw) hu hd hi]⟩
theorem np_yes {zs : List Int} {ss : List Nat} {keep loss : Nat} (h1 : npIn zs.length ss.length keep loss = true) (h2 : npS ss = true) (h3 : npL zs = true) : npOk zs ss keep loss = true := by unfold npOk; rw [h1, h2, h3]; rfl
theorem np_notS {zs : List Int} {ss : List Nat} {keep loss : Nat} (h2 : npS ss = false) : npOk zs ss keep loss = false := by unfold npOk; rw [h2, Bool.false_and, Bool.and_false]
theorem np_notL {zs : List Int} {ss : List Nat} {keep loss : Nat} (h2 : npL zs = false) : npOk zs ss keep loss = false := by unfold npOk; rw [h2, Bool.and_false, Bool.and_false]
set_option maxRecDepth 20000 in
set_option maxHeartbeats 4000000 in
theorem c_iNewPipe (g1 g2 : Nat) (zs : List Int) (ss : List Nat) (o : Bool) (keep loss : Nat) (w : World) (h1 : Row w g1 (jl zs) 2) (h2 : Blk w g2 ss 25) (hl1 : zs.length ≤ 1048576) (hl2 : ss.length ≤ 1048576) (h : npIn zs.length ss.length keep loss = true) :
    Calls Try.prog 29 #[.slice (some ⟨g1, 0, none⟩) zs.length zs.length, .slice (some ⟨g2, 0, none⟩) ss.length ss.length, .bool o, .float .f32 keep, .float .f32 loss] w (NpPost zs ss o keep loss w) := by
  have q2 : Row (w.alloc (.cells pipZ.cells.toArray 54)) w.heap.size pipZ.cells.toArray 54 := Row.new _ _ _ _ rfl
  have hb0 := Go.Joins.below_alloc1 w (.cells pipZ.cells.toArray 54)
  have HB := Lib.hid hb0; have HQ := Lib.hid q2; have HI := Lib.hid (h1.below hb0 h1.lt); have HS := Lib.hid (h2.below hb0 h2.lt); have HL1 := Lib.hid hl1; have HL2 := Lib.hid hl2
  have CC := Lib.hid (fun W (hs : Sl W (some ⟨g2, 0, none⟩) ss) => c_Clone ⟨g2, 0, none⟩ ss.length ss W hs hl2)
  have CO : Hid (∀ W, Calls Try.prog 73 #[.float .f32 keep] W fun e w' => ∃ r, e = .returned (.agg #[.int .i64 1, .float .f32 r, .float .f32 keep, .float .f32 0, .float .f32 0, .float .f32 0]) ∧ cv .f32 r = cop .sub .f32 (cv .f32 1065353216) (cv .f32 keep) ∧ Below W.heap.size W w') := Lib.hid (fun W => c_iOnePole keep W)
  clear q2 hb0 h1 h2
  have hi1 : (zs.length : Int) ≤ 1048576 := by omega
  have hi2 : (ss.length : Int) ≤ 1048576 := by omega
  clear hl1 hl2
  have HNI := Lib.hid h
  obtain ⟨v1, v2, v3, v4⟩ := npIn_yes h
  clear h
  generalize hn : zs.length = n at *
  generalize hm : ss.length = m at *
  have HN := Lib.hid hn; have HM := Lib.hid hm; clear hn hm
  have V1 := Lib.hid v1; clear v1
  have hq1 : ((m : Int) == (n : Int) - 1) = true := beq_iff_eq.2 v2
  have hq2 : decide ((m : Int) = (n : Int) - 1) = true := decide_eq_true v2
  have hn0 : (1 : Int) ≤ n := by have := inB_true' V1.out; omega
  have HN3 := Lib.hid (show n ≤ 3 by have := inB_true' V1.out; omega)
  clear v2
  have V3 := Lib.hid v3; clear v3
  have V4 := Lib.hid v4; clear v4
  go_enter Try.func29, Try.ntmps29
  go_wp2_with (first | (go_at_call 70; refine (c_lengthJ _ _ _ _).mono ?_; rintro e wz ⟨rfl, rfl⟩) | (go_at_call 69; refine (c_within _ _ _ _ _ V1.out).mono ?_; rintro e wz ⟨rfl, rfl⟩) | (go_at_call 71; refine (c_isKeep _ _ _ V3.out).mono ?_; rintro e wz ⟨rfl, rfl⟩) | (go_at_call 58; refine (c_inside _ _ _ _ _ V4.out).mono ?_; rintro e wz ⟨rfl, rfl⟩))
  go_loopw [12, 43] (fun b i wr => ∃ k : Nat, k ≤ m ∧ i = .int .i64 k ∧ b = .bool (npS (ss.take k)) ∧ Hid (Below w.heap.size w wr) ∧ Hid (Row wr w.heap.size pipZ.cells.toArray 54) ∧ Hid (Row wr g1 (jl zs) 2) ∧ Hid (Blk wr g2 ss 25)) (fun _ i _ => m - (intOf i).toNat)
  case atStart => exact ⟨0, by omega, rfl, rfl, HB, HQ, HI, HS⟩
  case round =>
    clear HB HQ HI HS
    obtain ⟨k, hk, rfl, rfl, HB, HQ, HI, HS⟩ := hrel
    have hk0 : (0 : Int) ≤ k := by omega
    by_cases hlt : k < m
    · have c1 := HS.out.cell k (by rw [HM.out]; exact hlt)
      have hk2 : (k : Int) < m := by omega
      have e := npS_succ (ss := ss) (k := k) (by rw [HM.out]; exact hlt)
      cases hv : npS (ss.take k)
      · rw [hv, Bool.false_and] at e
        have HE := Lib.hid e; clear e hv
        go_wp2
        go_roundw
        case rel => exact ⟨k + 1, by omega, by go_num, by rw [HE.out], HB, HQ, HI, HS⟩
        case measure => simp [intOf]; omega
      · rw [hv, Bool.true_and] at e
        have HE := Lib.hid e; clear e hv
        go_wp2_with (go_at_call 58; refine (c_inside _ _ _ _ _ HE.out.symm).mono ?_; rintro e wz ⟨rfl, rfl⟩)
        go_roundw
        case rel => exact ⟨k + 1, by omega, by go_num, rfl, HB, HQ, HI, HS⟩
        case measure => simp [intOf]; omega
    have e : m = k := by omega
    subst e
    rw [List.take_of_length_le (by rw [HM.out]; exact Nat.le_refl _)]
    cases hv : npS ss
    · have HNO := Lib.hid (np_notS (zs := zs) (keep := keep) (loss := loss) hv); clear hv
      go_wp2_with fail
      refine (CC.out _ (sl_blk HS.out)).mono ?_; rintro e w3 ⟨A3, c3, rfl, o3, b⟩
      have HA5 := Lib.hid (fun x hx => Nat.lt_of_lt_of_le HQ.out.lt (o3.ge x hx)); have HA3 := Lib.hid (o3.mono HB.out.size); clear o3
      replace HB := Lib.hid (seq_below HB.out b); replace HQ := Lib.hid (HQ.out.below b HQ.out.lt); replace HI := Lib.hid (HI.out.below b HI.out.lt); replace HS := Lib.hid (HS.out.below b HS.out.lt); clear b
      go_wp2_with fail
      refine (CO.out _).mono ?_; rintro e w4 ⟨r, rfl, hr, b⟩
      have HR := Lib.hid hr; clear hr
      replace HB := Lib.hid (seq_below HB.out b); replace HQ := Lib.hid (HQ.out.below b HQ.out.lt); replace HI := Lib.hid (HI.out.below b HI.out.lt); replace HS := Lib.hid (HS.out.below b HS.out.lt); replace HA3 := Lib.hid (HA3.out.below b (Nat.le_refl _)); clear b
      go_wp2_with (refine at_store 54 rfl ?_)
      refine unstop ?_
      refine wpList_store_newest (cells := #[.slice none 0 0, .slice none 0 0, .slice A3 m c3, .int .i64 1, .float .f32 r, .float .f32 keep, .float .f32 0, .float .f32 0, .float .f32 0, .bool o, .float .f32 loss, .float .f32 1061158912, .float .f32 3200253952]) rfl 54 _ _ rfl rfl rfl info_pip rfl rfl (fun wx b q9 => ?_)
      replace HB := Lib.hid (seq_below HB.out b); replace HQ := Lib.hid (HQ.out.below b HQ.out.lt); replace HI := Lib.hid (HI.out.below b HI.out.lt); replace HS := Lib.hid (HS.out.below b HS.out.lt); clear b q9 HA3 HR
      go_wp2_with fail
      go_loopw [62] (fun i wr => i = .int .i64 0 ∧ Hid (Below w.heap.size w wr) ∧ Hid (Row wr w.heap.size pipZ.cells.toArray 54) ∧ Hid (Row wr g1 (jl zs) 2) ∧ Hid (Blk wr g2 ss 25)) (fun _ _ => 0)
      case atStart => exact ⟨rfl, HB, HQ, HI, HS⟩
      case round =>
        clear HB HQ HI HS
        obtain ⟨rfl, HB, HQ, HI, HS⟩ := hrel
        have c1 := HI.out.cell 0 _ (jl_get zs 0 (by rw [HN.out]; omega))
        have hk2 : (0 : Int) < n := by omega
        go_wp2_with (refine wpList_store_cells (cells := pipZ.cells.toArray) rfl 54 _ _ rfl _ rfl rfl HQ.out info_pip rfl rfl ?_)
        refine bodyPost_ret (results_cells_tmp rfl _ _ _ rfl rfl (HQ.out.row pipZ.cells.toArray) Try.underlying54 rfl info_pip) rfl ?_
        exact np_bad HNO.out (below_setRow HB.out (Nat.le_refl _) _)
    have HSS := Lib.hid hv; clear hv
    go_wp2_with fail
    refine (CC.out _ (sl_blk HS.out)).mono ?_; rintro e w3 ⟨A3, c3, rfl, o3, b⟩
    have HA5 := Lib.hid (fun x hx => Nat.lt_of_lt_of_le HQ.out.lt (o3.ge x hx)); have HA3 := Lib.hid (o3.mono HB.out.size); clear o3
    replace HB := Lib.hid (seq_below HB.out b); replace HQ := Lib.hid (HQ.out.below b HQ.out.lt); replace HI := Lib.hid (HI.out.below b HI.out.lt); replace HS := Lib.hid (HS.out.below b HS.out.lt); clear b
    go_wp2_with fail
    refine (CO.out _).mono ?_; rintro e w4 ⟨r, rfl, hr, b⟩
    have HR := Lib.hid hr; clear hr
    replace HB := Lib.hid (seq_below HB.out b); replace HQ := Lib.hid (HQ.out.below b HQ.out.lt); replace HI := Lib.hid (HI.out.below b HI.out.lt); replace HS := Lib.hid (HS.out.below b HS.out.lt); replace HA3 := Lib.hid (HA3.out.below b (Nat.le_refl _)); clear b
    go_wp2_with (refine at_store 54 rfl ?_)
    refine unstop ?_
    refine wpList_store_newest (cells := #[.slice none 0 0, .slice none 0 0, .slice A3 m c3, .int .i64 1, .float .f32 r, .float .f32 keep, .float .f32 0, .float .f32 0, .float .f32 0, .bool o, .float .f32 loss, .float .f32 1061158912, .float .f32 3200253952]) rfl 54 _ _ rfl rfl rfl info_pip rfl rfl (fun wx b q9 => ?_)
    have HGT : Hid (w.heap.size < w4.heap.size ∧ g1 < w4.heap.size ∧ g2 < w4.heap.size) := Lib.hid ⟨HQ.out.lt, HI.out.lt, HS.out.lt⟩
    have HA4 := Lib.hid (fun x hx => (⟨HA5.out x hx, HA3.out.lt x hx⟩ : w.heap.size < x ∧ x < w4.heap.size))
    replace HB := Lib.hid (seq_below HB.out b); replace HQ := Lib.hid (HQ.out.below b HQ.out.lt); replace HI := Lib.hid (HI.out.below b HI.out.lt); replace HS := Lib.hid (HS.out.below b HS.out.lt); replace HA3 := Lib.hid (HA3.out.below b (Nat.le_refl _)); clear b
    obtain ⟨G, hG⟩ : ∃ G, G = w4.heap.size := ⟨_, rfl⟩
    rw [← hG] at q9 HGT HA4 ⊢
    clear hG
    have HNB : Hid (NpB w G g1 g2 zs ss A3 c3 wx) := Lib.hid ⟨HGT.out, HA4.out, HB.out, HQ.out, HI.out, HS.out, HA3.out⟩
    have HNP : Hid (Row wx G (pipC none 0 0 none 0 0 A3 m c3 ⟨1, r, keep, 0, 0, 0⟩ o loss 1061158912 3200253952).toArray 54) := Lib.hid q9
    clear q9 HB HQ HI HS HA3 HGT HA4 HA5 CC CO
    go_wp2_with fail
    go_loopw [62] (fun i wr => ∃ (k : Nat) (A1 : Option Addr) (c1 : Nat) (rs : List RingV) (b1 : Nat → Nat) (A2 : Option Addr) (c2 : Nat) (qs : List RingV) (b2 : Nat → Nat), k ≤ n ∧ i = .int .i64 k ∧ Hid (npL (zs.take k) = true) ∧ Hid (RingsTo rs zs k) ∧ Hid (RingsTo qs zs k) ∧ Hid (NpB w G g1 g2 zs ss A3 c3 wr) ∧ Hid (NpR G A1 c1 rs b1 A2 c2 qs b2 wr) ∧ Hid (Row wr G (pipC A1 k c1 A2 k c2 A3 m c3 ⟨1, r, keep, 0, 0, 0⟩ o loss 1061158912 3200253952).toArray 54)) (fun i _ => n - (intOf i).toNat)
    case atStart => exact ⟨0, none, 0, [], fun _ => 0, none, 0, [], fun _ => 0, by omega, rfl, rfl, RingsTo.nil _, RingsTo.nil _, HNB, NpR.nils _ _, HNP⟩
    case round =>
      clear HNB HNP
      obtain ⟨k, A1, c1, rs, b1, A2, c2, qs, b2, hk, rfl, HLK, HR1, HR2, HNB, HNR, HNP⟩ := hrel
      have hk0 : (0 : Int) ≤ k := by omega
      by_cases hlt : k < n
      · have cz := HNB.out.ints.cell k _ (jl_get zs k (by rw [HN.out]; exact hlt))
        have hk2 : (k : Int) < n := by omega
        have e := npL_succ (zs := zs) (k := k) (by rw [HN.out]; exact hlt)
        rw [HLK.out, Bool.true_and] at e
        have HE := Lib.hid e; clear e
        cases hv : inB (nthJ zs k) 1 1024
        · have HVV := Lib.hid hv
          have HNO := Lib.hid (np_notL (ss := ss) (keep := keep) (loss := loss) (npL_bad (HE.out.trans hv))); clear hv
          have HQ := Lib.hid HNB.out.zero
          have HB := Lib.hid HNB.out.below
          go_wp2_with (first | (go_at_call 69; refine (c_within _ _ _ _ _ HVV.out).mono ?_; rintro e wz ⟨rfl, rfl⟩) | (refine wpList_store_cells (cells := pipZ.cells.toArray) rfl 54 _ _ rfl _ rfl rfl HQ.out info_pip rfl rfl ?_))
          refine bodyPost_ret (results_cells_tmp rfl _ _ _ rfl rfl (HQ.out.row pipZ.cells.toArray) Try.underlying54 rfl info_pip) rfl ?_
          exact np_bad HNO.out (below_setRow HB.out (Nat.le_refl _) _)
        have hv2 := inB_true' hv
        rw [hv] at HE
        obtain ⟨l, hl⟩ : ∃ l : Nat, nthJ zs k = l := ⟨(nthJ zs k).toNat, by omega⟩
        have HLV : Hid ((nthJ zs k).toNat = l) := Lib.hid (by omega)
        rw [hl] at hv cz
        have HVV := Lib.hid hv; clear hv hv2 hl
        have HZ : Hid (wr.heap.size = wr.heap.size) := Lib.hid rfl
        go_wp2_with (go_at_call 69; refine (c_within _ _ _ _ _ HVV.out).mono ?_; rintro e wz ⟨rfl, rfl⟩)
        refine (c_iNewRing l _ HVV.out).mono ?_; rintro e w5 ⟨gr, rfl, hz1, hge1, b⟩
        have HGE1 := Lib.hid hge1; have HZ1 := Lib.hid hz1; clear hge1 hz1 cz HZ
        have HLT1 := Lib.hid (fun k hk => Nat.lt_of_lt_of_le (HNR.out.lt1 k hk) HGE1.out); have HLT2 := Lib.hid (fun k hk => Nat.lt_of_lt_of_le (HNR.out.lt2 k hk) HGE1.out)
        have HOA1 := Lib.hid (fun k hk => Nat.lt_of_lt_of_le (HNR.out.r.own.lt k hk) b.size); have HOA2 := Lib.hid (fun k hk => Nat.lt_of_lt_of_le (HNR.out.l.own.lt k hk) b.size)
        have HZ1X := Lib.hid HZ1.out.lt
        have HGG := Lib.hid (show G + 1 ≤ gr from Nat.lt_of_lt_of_le HNP.out.lt HGE1.out)
        replace HNB := Lib.hid (HNB.out.down b); replace HNR := Lib.hid (HNR.out.down b); replace HNP := Lib.hid (HNP.out.below b HNP.out.lt); clear b
        go_wp2_with (refine wpList_store_newest (cells := #[.slice (some ⟨gr, 0, none⟩) l l, .int .i64 0]) rfl 34 _ _ rfl rfl rfl info_ring rfl rfl (fun w6 b q18 => ?_); have Q18 := Lib.hid q18; replace HZ1 := Lib.hid (HZ1.out.below b HZ1.out.lt); have HSZ6 := Lib.hid b.size; replace HNB := Lib.hid (HNB.out.down b); replace HNR := Lib.hid (HNR.out.down b); replace HNP := Lib.hid (HNP.out.below b HNP.out.lt); clear b q18)
        obtain ⟨h18, hh18⟩ : ∃ x, x = w5.heap.size := ⟨_, rfl⟩
        rw [← hh18] at Q18 HOA1 HOA2 HSZ6 ⊢
        have HG18 := Lib.hid (show gr < h18 from by rw [hh18]; exact HZ1X.out)
        clear hh18
        refine (c_iNewRing l _ HVV.out).mono ?_; rintro e w7 ⟨gq, rfl, hz2, hge2, b⟩
        have HGE2 := Lib.hid (show h18 < gq from Nat.lt_of_lt_of_le Q18.out.lt hge2); have HZ2 := Lib.hid hz2; clear hge2 hz2
        have HZ2X := Lib.hid HZ2.out.lt; have HSZ7 := Lib.hid (Nat.le_trans HSZ6.out b.size)
        replace Q18 := Lib.hid (Q18.out.below b Q18.out.lt); replace HZ1 := Lib.hid (HZ1.out.below b HZ1.out.lt); replace HNB := Lib.hid (HNB.out.down b); replace HNR := Lib.hid (HNR.out.down b); replace HNP := Lib.hid (HNP.out.below b HNP.out.lt); clear b
        go_wp2_with (refine wpList_store_newest (cells := #[.slice (some ⟨gq, 0, none⟩) l l, .int .i64 0]) rfl 34 _ _ rfl rfl rfl info_ring rfl rfl (fun w8 b q20 => ?_); have Q20 := Lib.hid q20; replace Q18 := Lib.hid (Q18.out.below b Q18.out.lt); replace HZ1 := Lib.hid (HZ1.out.below b HZ1.out.lt); replace HZ2 := Lib.hid (HZ2.out.below b HZ2.out.lt); replace HNB := Lib.hid (HNB.out.down b); replace HNR := Lib.hid (HNR.out.down b); replace HNP := Lib.hid (HNP.out.below b HNP.out.lt); clear b q20)
        obtain ⟨h20, hh20⟩ : ∃ x, x = w7.heap.size := ⟨_, rfl⟩
        rw [← hh20] at Q20 HZ2X HSZ7 ⊢
        clear hh20

        have b := (Below.refl w8.heap.size w8).drew
        replace HNB := Lib.hid (HNB.out.down b); replace HNR := Lib.hid (HNR.out.down b); replace HNP := Lib.hid (HNP.out.below b HNP.out.lt); replace Q18 := Lib.hid (Q18.out.below b Q18.out.lt); replace Q20 := Lib.hid (Q20.out.below b Q20.out.lt); replace HZ1 := Lib.hid (HZ1.out.below b HZ1.out.lt); replace HZ2 := Lib.hid (HZ2.out.below b HZ2.out.lt); clear b
        refine wp_region_roadB [11, 13] (S := fun W => Row W G (pipC A1 k c1 A2 k c2 A3 m c3 ⟨1, r, keep, 0, 0, 0⟩ o loss 1061158912 3200253952).toArray 54) (R := fun W => Row W h18 #[.slice (some ⟨gr, 0, none⟩) l l, .int .i64 0] 34 ∧ Row W h20 #[.slice (some ⟨gq, 0, none⟩) l l, .int .i64 0] 34) (.sure 0 (.held 1 (.kept 2 (.sure 5 (.held 6 (.kept 7 (.two 3 8 (.two 4 8 (.sure 10 (.one 8 (.one 9 (.one 11 (.sure 12 (.one 13 .nil)))))) (.one 4 (.sure 10 (.one 9 (.one 11 (.sure 12 (.one 13 .nil))))))) (.one 3 (.one 4 (.sure 10 (.one 9 (.one 11 (.sure 12 (.one 13 .nil)))))))))))))) (by kernel_rfl) (by kernel_rfl) (by kernel_rfl) (fun _ _ d _ _ h => by cases d <;> exact h) ?_
        generalize w8.drew = w9 at *
        refine wpRoadB_sure (v := .pointer (some ⟨G, 0, none⟩)) rfl rfl (.inl ⟨rfl, fun w' hw => by go_simp⟩) _ (by simp only [List.setIfInBounds_toArray, List.set_cons_zero, List.set_cons_succ]; rfl) ?_
        refine wpRoadB_held (v := .slice A1 k c1) rfl rfl HNP.out (.inl ⟨rfl, fun W hW => by have k0 : W.cell? ⟨G, 0, none⟩ = some (.slice A1 k c1) := Row.cell hW 0 _ rfl; go_simp⟩) _ (by simp only [List.setIfInBounds_toArray, List.set_cons_zero, List.set_cons_succ]; rfl) ?_
        refine wpRoadB_kept rfl rfl ⟨Q18.out, Q20.out⟩ (yields_load_rowR rfl _ _ rfl _ rfl (fun W h => h.1) Try.underlying34 rfl info_ring) _ (by simp only [List.setIfInBounds_toArray, List.set_cons_zero, List.set_cons_succ]; rfl) ?_
        refine wpRoadB_sure (v := .pointer (some ⟨G, 1, none⟩)) rfl rfl (.inl ⟨rfl, fun w' hw => by go_simp⟩) _ (by simp only [List.setIfInBounds_toArray, List.set_cons_zero, List.set_cons_succ]; rfl) ?_
        refine wpRoadB_held (v := .slice A2 k c2) rfl rfl HNP.out (.inl ⟨rfl, fun W hW => by have k0 : W.cell? ⟨G, 1, none⟩ = some (.slice A2 k c2) := Row.cell hW 1 _ rfl; go_simp⟩) _ (by simp only [List.setIfInBounds_toArray, List.set_cons_zero, List.set_cons_succ]; rfl) ?_
        refine wpRoadB_kept rfl rfl ⟨Q18.out, Q20.out⟩ (yields_load_rowR rfl _ _ rfl _ rfl (fun W h => h.2) Try.underlying34 rfl info_ring) _ (by simp only [List.setIfInBounds_toArray, List.set_cons_zero, List.set_cons_succ]; rfl) ?_
        have HGQ := Lib.hid (show G + 1 ≤ gq from by have := HGG.out; have := HG18.out; have := HGE2.out; omega)
        have HRQ := Lib.hid (show gr < gq from by have := HG18.out; have := HGE2.out; omega)
        have HLQ1 := Lib.hid (fun j hj => Nat.lt_trans (HLT1.out j hj) HRQ.out); have HLQ2 := Lib.hid (fun j hj => Nat.lt_trans (HLT2.out j hj) HRQ.out)
        have HN18 : Hid (some h18 ≠ some G) := Lib.hid (fun e => by have h0 := Option.some.inj e; have := HGG.out; have := HG18.out; omega)
        have HN20 : Hid (some h20 ≠ some G) := Lib.hid (fun e => by have h0 := Option.some.inj e; have := HGG.out; have := HG18.out; have := HSZ7.out; omega)
        refine wpRoadB_two rfl rfl rfl rfl (fun K hK => ?_) (fun K hK => ?_)
        · skip
          go_wp2_with fail
          have P3 : Row (w9.alloc (.cells #[.slice (some ⟨gr, 0, none⟩) l l, .int .i64 0] 34)) w9.heap.size #[.slice (some ⟨gr, 0, none⟩) l l, .int .i64 0] 34 := Row.new _ _ _ _ rfl
          have b := Go.Joins.below_alloc1 w9 (.cells #[.slice (some ⟨gr, 0, none⟩) l l, .int .i64 0] 34)
          obtain ⟨w10, hw10⟩ : ∃ x, x = w9.alloc (.cells #[.slice (some ⟨gr, 0, none⟩) l l, .int .i64 0] 34) := ⟨_, rfl⟩
          rw [← hw10] at P3 b ⊢
          refine ⟨⟨fun _ hs => Row.below hs b (Row.lt hs), fun hr => ⟨hr.1.below b hr.1.lt, hr.2.below b hr.2.lt⟩⟩, ?_⟩; clear hw10
          replace HNB := Lib.hid (HNB.out.down b); replace HNR := Lib.hid (HNR.out.down b); replace HNP := Lib.hid (HNP.out.below b HNP.out.lt); replace Q18 := Lib.hid (Q18.out.below b Q18.out.lt); replace Q20 := Lib.hid (Q20.out.below b Q20.out.lt); replace HZ1 := Lib.hid (HZ1.out.below b HZ1.out.lt); replace HZ2 := Lib.hid (HZ2.out.below b HZ2.out.lt)
          clear b
          replace P3 := Lib.hid P3
          generalize w9.heap.size = yP3 at *
          replace P3 := P3.out
          refine wpRoadB_two rfl rfl rfl rfl (fun K hK => ?_) (fun K hK => ?_)
          · skip
            have HOr : OwnR w10 (G + 1) A1 c1 k (fl2 rs) 34 2 := by have h0 := HNR.out.r.own; rwa [HR1.out.1] at h0
            refine wp_append_ownR _ _ 52 rfl (G + 1) 34 (.agg #[.slice none 0 0, .int .i64 0]) 2 32 Try.underlying52 info_ringe rfl (by decide) (n := k) rfl HOr [.slice (some ⟨gr, 0, none⟩) l l, .int .i64 0] rfl (by intro u hu; simp only [List.mem_cons, List.not_mem_nil, or_false] at hu; rcases hu with rfl | rfl <;> rfl) rfl P3 (by have := HN3.out; omega) (by decide) HNP.out.lt ?_
            intro A1x c1x w11 hnr hg _
            have hno : ∀ x, h18 ≤ x → some x ≠ ownBlk A1 := fun x hx e => by have h0 := HOA1.out x e.symm; omega
            have hnG : some G ≠ ownBlk A1 := fun e => by have h0 := HOr.ge G e.symm; omega
            refine hK (Act.mk (Array.setIfInBounds (List.toArray _) 88 _) _) _ ⟨⟨fun _ hs => Row.grown hs hg hnG, fun hr => ⟨hr.1.grown hg (hno _ (Nat.le_refl _)), hr.2.grown hg (hno _ HSZ7.out)⟩⟩, ?_⟩; clear hK
            replace HNB := Lib.hid (HNB.out.step hg (fun x e => by have h0 := HOr.ge x e; omega)); replace HNP := Lib.hid (HNP.out.grown hg hnG); replace Q18 := Lib.hid (Q18.out.grown hg (hno _ (Nat.le_refl _))); replace Q20 := Lib.hid (Q20.out.grown hg (hno _ HSZ7.out))
            have hz : some gq ≠ ownBlk A1 := HNR.out.r.blk_ne HZ2.out
            have hz0 : some gr ≠ ownBlk A1 := HNR.out.r.blk_ne HZ1.out
            replace HNR := Lib.hid (HNR.out.right (r := ⟨some ⟨gr, 0, none⟩, l, List.replicate l 0, 0⟩) (by rw [HR1.out.1]; simpa [rgC] using hnr) hg rfl HGG.out HZ1.out HLT1.out HLT2.out)
            replace HZ2 := Lib.hid (HZ2.out.grown hg hz); replace HZ1 := Lib.hid (HZ1.out.grown hg hz0)
            clear hg hno hnG hz hz0 HOr hnr P3
            refine wpRoadB_sure (v := .pointer (some ⟨G, 0, none⟩)) rfl rfl (.inl ⟨rfl, fun w' hw => by go_simp⟩) _ (by simp only [List.setIfInBounds_toArray, List.set_cons_zero, List.set_cons_succ]; rfl) ?_
            refine wpRoadB_one rfl rfl (fun K hK => ?_)
            have YP8 : Hid (h18 ≤ w11.heap.size) := Lib.hid (Nat.le_of_lt Q18.out.lt)
            go_wp2_with fail
            have P8 : Row (w11.alloc (.cells #[.slice (some ⟨gq, 0, none⟩) l l, .int .i64 0] 34)) w11.heap.size #[.slice (some ⟨gq, 0, none⟩) l l, .int .i64 0] 34 := Row.new _ _ _ _ rfl
            have b := Go.Joins.below_alloc1 w11 (.cells #[.slice (some ⟨gq, 0, none⟩) l l, .int .i64 0] 34)
            obtain ⟨w12, hw12⟩ : ∃ x, x = w11.alloc (.cells #[.slice (some ⟨gq, 0, none⟩) l l, .int .i64 0] 34) := ⟨_, rfl⟩
            rw [← hw12] at P8 b ⊢
            refine ⟨⟨fun _ hs => Row.below hs b (Row.lt hs), fun hr => ⟨hr.1.below b hr.1.lt, hr.2.below b hr.2.lt⟩⟩, ?_⟩; clear hw12
            replace HNB := Lib.hid (HNB.out.down b); replace HNR := Lib.hid (HNR.out.down b); replace HNP := Lib.hid (HNP.out.below b HNP.out.lt); replace Q18 := Lib.hid (Q18.out.below b Q18.out.lt); replace Q20 := Lib.hid (Q20.out.below b Q20.out.lt); replace HZ1 := Lib.hid (HZ1.out.below b HZ1.out.lt); replace HZ2 := Lib.hid (HZ2.out.below b HZ2.out.lt)
            clear b
            replace P8 := Lib.hid P8
            generalize w11.heap.size = yP8 at *
            replace P8 := P8.out
            refine wpRoadB_one rfl rfl (fun K hK => ?_)
            have HOl : OwnR w12 (G + 1) A2 c2 k (fl2 qs) 34 2 := by have h0 := HNR.out.l.own; rwa [HR2.out.1] at h0
            refine wp_append_ownR _ _ 52 rfl (G + 1) 34 (.agg #[.slice none 0 0, .int .i64 0]) 2 32 Try.underlying52 info_ringe rfl (by decide) (n := k) rfl HOl [.slice (some ⟨gq, 0, none⟩) l l, .int .i64 0] rfl (by intro u hu; simp only [List.mem_cons, List.not_mem_nil, or_false] at hu; rcases hu with rfl | rfl <;> rfl) rfl P8 (by have := HN3.out; omega) (by decide) HNP.out.lt ?_
            intro A2x c2x w13 hnl hg _
            have hno : ∀ x, h18 ≤ x → some x ≠ ownBlk A2 := fun x hx e => by have h0 := HOA2.out x e.symm; omega
            have hnG : some G ≠ ownBlk A2 := fun e => by have h0 := HOl.ge G e.symm; omega
            refine hK (Act.mk (Array.setIfInBounds (List.toArray _) 93 _) _) _ ⟨⟨fun _ hs => Row.grown hs hg hnG, fun hr => ⟨hr.1.grown hg (hno _ (Nat.le_refl _)), hr.2.grown hg (hno _ HSZ7.out)⟩⟩, ?_⟩; clear hK
            replace HNB := Lib.hid (HNB.out.step hg (fun x e => by have h0 := HOl.ge x e; omega)); replace HNP := Lib.hid (HNP.out.grown hg hnG); replace Q18 := Lib.hid (Q18.out.grown hg (hno _ (Nat.le_refl _))); replace Q20 := Lib.hid (Q20.out.grown hg (hno _ HSZ7.out))
            have hz : some gr ≠ ownBlk A2 := HNR.out.l.blk_ne HZ1.out
            have hz0 : some gq ≠ ownBlk A2 := HNR.out.l.blk_ne HZ2.out
            replace HNR := Lib.hid (HNR.out.left (r := ⟨some ⟨gq, 0, none⟩, l, List.replicate l 0, 0⟩) (by rw [HR2.out.1]; simpa [rgC] using hnl) hg rfl HGQ.out HZ2.out (by rw [List.length_append]; exact ifs_lt HLQ1.out HRQ.out) HLQ2.out)
            replace HZ1 := Lib.hid (HZ1.out.grown hg hz); replace HZ2 := Lib.hid (HZ2.out.grown hg hz0)
            clear hg hno hnG hz hz0 HOl hnl P8
            refine wpRoadB_one rfl rfl (fun K hK => ?_)
            refine wp_store_partV 52 _ _ rfl G 0 rfl [.slice A1x (k + 1) c1x] (.slice A1x (k + 1) c1x) rfl rfl HNP.out info_ringsS rfl rfl (pipC A1x (k + 1) c1x A2 k c2 A3 m c3 ⟨1, r, keep, 0, 0, 0⟩ o loss 1061158912 3200253952) rfl ?_
            intro w14 hg hp
            refine hK (Act.mk (Array.setIfInBounds (List.toArray _) 93 _) _) _ ⟨⟨fun hn => (hn (by decide)).elim, fun hr => ⟨hr.1.grown hg HN18.out, hr.2.grown hg HN20.out⟩⟩, ?_⟩; clear hK
            replace HNB := Lib.hid (HNB.out.step hg (fun x e => by cases e; exact Nat.le_refl _)); replace HNR := Lib.hid (HNR.out.low hg (Nat.lt_succ_self _)); replace HNP := Lib.hid hp; clear hg hp
            refine wpRoadB_sure (v := .pointer (some ⟨G, 1, none⟩)) rfl rfl (.inl ⟨rfl, fun w' hw => by go_simp⟩) _ (by simp only [List.setIfInBounds_toArray, List.set_cons_zero, List.set_cons_succ]; rfl) ?_
            refine wpRoadB_one rfl rfl (fun K hK => ?_)
            refine wp_store_partV 52 _ _ rfl G 1 rfl [.slice A2x (k + 1) c2x] (.slice A2x (k + 1) c2x) rfl rfl HNP.out info_ringsS rfl rfl (pipC A1x (k + 1) c1x A2x (k + 1) c2x A3 m c3 ⟨1, r, keep, 0, 0, 0⟩ o loss 1061158912 3200253952) rfl ?_
            intro w15 hg hp
            refine hK (Act.mk (List.toArray _) _) _ ⟨⟨fun hn => (hn (by decide)).elim, fun hr => ⟨hr.1.grown hg HN18.out, hr.2.grown hg HN20.out⟩⟩, ?_⟩; clear hK
            replace HNB := Lib.hid (HNB.out.step hg (fun x e => by cases e; exact Nat.le_refl _)); replace HNR := Lib.hid (HNR.out.low hg (Nat.lt_succ_self _)); replace HNP := Lib.hid hp; clear hg hp
            refine wpRoadB_nil ?_
            clear Q18 Q20 HZ1 HZ2
            go_wp2_with fail
            go_roundw
            case rel => exact ⟨k + 1, A1x, c1x, rs ++ [⟨some ⟨gr, 0, none⟩, l, List.replicate l 0, 0⟩], _, A2x, c2x, qs ++ [⟨some ⟨gq, 0, none⟩, l, List.replicate l 0, 0⟩], _, by omega, by go_num, HE, HR1.out.snoc (by rw [HLV.out]) rfl, HR2.out.snoc (by rw [HLV.out]) rfl, HNB, HNR, HNP⟩
            case measure => simp [intOf]; omega
          · skip
            have YP8 : Hid (h18 ≤ w10.heap.size) := Lib.hid (Nat.le_of_lt Q18.out.lt)
            go_wp2_with fail
            have P8 : Row (w10.alloc (.cells #[.slice (some ⟨gq, 0, none⟩) l l, .int .i64 0] 34)) w10.heap.size #[.slice (some ⟨gq, 0, none⟩) l l, .int .i64 0] 34 := Row.new _ _ _ _ rfl
            have b := Go.Joins.below_alloc1 w10 (.cells #[.slice (some ⟨gq, 0, none⟩) l l, .int .i64 0] 34)
            obtain ⟨w11, hw11⟩ : ∃ x, x = w10.alloc (.cells #[.slice (some ⟨gq, 0, none⟩) l l, .int .i64 0] 34) := ⟨_, rfl⟩
            rw [← hw11] at P8 b ⊢
            refine ⟨⟨fun _ hs => Row.below hs b (Row.lt hs), fun hr => ⟨hr.1.below b hr.1.lt, hr.2.below b hr.2.lt⟩⟩, ?_⟩; clear hw11
            replace HNB := Lib.hid (HNB.out.down b); replace HNR := Lib.hid (HNR.out.down b); replace HNP := Lib.hid (HNP.out.below b HNP.out.lt); replace Q18 := Lib.hid (Q18.out.below b Q18.out.lt); replace Q20 := Lib.hid (Q20.out.below b Q20.out.lt); replace HZ1 := Lib.hid (HZ1.out.below b HZ1.out.lt); replace HZ2 := Lib.hid (HZ2.out.below b HZ2.out.lt)
            replace P3 := P3.below b P3.lt
            clear b
            replace P8 := Lib.hid P8
            generalize w10.heap.size = yP8 at *
            replace P8 := P8.out
            refine wpRoadB_one rfl rfl (fun K hK => ?_)
            have HOr : OwnR w11 (G + 1) A1 c1 k (fl2 rs) 34 2 := by have h0 := HNR.out.r.own; rwa [HR1.out.1] at h0
            refine wp_append_ownR _ _ 52 rfl (G + 1) 34 (.agg #[.slice none 0 0, .int .i64 0]) 2 32 Try.underlying52 info_ringe rfl (by decide) (n := k) rfl HOr [.slice (some ⟨gr, 0, none⟩) l l, .int .i64 0] rfl (by intro u hu; simp only [List.mem_cons, List.not_mem_nil, or_false] at hu; rcases hu with rfl | rfl <;> rfl) rfl P3 (by have := HN3.out; omega) (by decide) HNP.out.lt ?_
            intro A1x c1x w12 hnr hg _
            have hno : ∀ x, h18 ≤ x → some x ≠ ownBlk A1 := fun x hx e => by have h0 := HOA1.out x e.symm; omega
            have hnG : some G ≠ ownBlk A1 := fun e => by have h0 := HOr.ge G e.symm; omega
            refine hK (Act.mk (Array.setIfInBounds (List.toArray _) 88 _) _) _ ⟨⟨fun _ hs => Row.grown hs hg hnG, fun hr => ⟨hr.1.grown hg (hno _ (Nat.le_refl _)), hr.2.grown hg (hno _ HSZ7.out)⟩⟩, ?_⟩; clear hK
            replace HNB := Lib.hid (HNB.out.step hg (fun x e => by have h0 := HOr.ge x e; omega)); replace HNP := Lib.hid (HNP.out.grown hg hnG); replace Q18 := Lib.hid (Q18.out.grown hg (hno _ (Nat.le_refl _))); replace Q20 := Lib.hid (Q20.out.grown hg (hno _ HSZ7.out))
            have hz : some gq ≠ ownBlk A1 := HNR.out.r.blk_ne HZ2.out
            have hz0 : some gr ≠ ownBlk A1 := HNR.out.r.blk_ne HZ1.out
            replace HNR := Lib.hid (HNR.out.right (r := ⟨some ⟨gr, 0, none⟩, l, List.replicate l 0, 0⟩) (by rw [HR1.out.1]; simpa [rgC] using hnr) hg rfl HGG.out HZ1.out HLT1.out HLT2.out)
            replace HZ2 := Lib.hid (HZ2.out.grown hg hz); replace HZ1 := Lib.hid (HZ1.out.grown hg hz0)
            replace P8 := P8.grown hg (hno _ YP8.out)
            clear hg hno hnG hz hz0 HOr hnr P3
            refine wpRoadB_sure (v := .pointer (some ⟨G, 0, none⟩)) rfl rfl (.inl ⟨rfl, fun w' hw => by go_simp⟩) _ (by simp only [List.setIfInBounds_toArray, List.set_cons_zero, List.set_cons_succ]; rfl) ?_
            refine wpRoadB_one rfl rfl (fun K hK => ?_)
            have HOl : OwnR w12 (G + 1) A2 c2 k (fl2 qs) 34 2 := by have h0 := HNR.out.l.own; rwa [HR2.out.1] at h0
            refine wp_append_ownR _ _ 52 rfl (G + 1) 34 (.agg #[.slice none 0 0, .int .i64 0]) 2 32 Try.underlying52 info_ringe rfl (by decide) (n := k) rfl HOl [.slice (some ⟨gq, 0, none⟩) l l, .int .i64 0] rfl (by intro u hu; simp only [List.mem_cons, List.not_mem_nil, or_false] at hu; rcases hu with rfl | rfl <;> rfl) rfl P8 (by have := HN3.out; omega) (by decide) HNP.out.lt ?_
            intro A2x c2x w13 hnl hg _
            have hno : ∀ x, h18 ≤ x → some x ≠ ownBlk A2 := fun x hx e => by have h0 := HOA2.out x e.symm; omega
            have hnG : some G ≠ ownBlk A2 := fun e => by have h0 := HOl.ge G e.symm; omega
            refine hK (Act.mk (Array.setIfInBounds (List.toArray _) 93 _) _) _ ⟨⟨fun _ hs => Row.grown hs hg hnG, fun hr => ⟨hr.1.grown hg (hno _ (Nat.le_refl _)), hr.2.grown hg (hno _ HSZ7.out)⟩⟩, ?_⟩; clear hK
            replace HNB := Lib.hid (HNB.out.step hg (fun x e => by have h0 := HOl.ge x e; omega)); replace HNP := Lib.hid (HNP.out.grown hg hnG); replace Q18 := Lib.hid (Q18.out.grown hg (hno _ (Nat.le_refl _))); replace Q20 := Lib.hid (Q20.out.grown hg (hno _ HSZ7.out))
            have hz : some gr ≠ ownBlk A2 := HNR.out.l.blk_ne HZ1.out
            have hz0 : some gq ≠ ownBlk A2 := HNR.out.l.blk_ne HZ2.out
            replace HNR := Lib.hid (HNR.out.left (r := ⟨some ⟨gq, 0, none⟩, l, List.replicate l 0, 0⟩) (by rw [HR2.out.1]; simpa [rgC] using hnl) hg rfl HGQ.out HZ2.out (by rw [List.length_append]; exact ifs_lt HLQ1.out HRQ.out) HLQ2.out)
            replace HZ1 := Lib.hid (HZ1.out.grown hg hz); replace HZ2 := Lib.hid (HZ2.out.grown hg hz0)
            clear hg hno hnG hz hz0 HOl hnl P8
            refine wpRoadB_one rfl rfl (fun K hK => ?_)
            refine wp_store_partV 52 _ _ rfl G 0 rfl [.slice A1x (k + 1) c1x] (.slice A1x (k + 1) c1x) rfl rfl HNP.out info_ringsS rfl rfl (pipC A1x (k + 1) c1x A2 k c2 A3 m c3 ⟨1, r, keep, 0, 0, 0⟩ o loss 1061158912 3200253952) rfl ?_
            intro w14 hg hp
            refine hK (Act.mk (Array.setIfInBounds (List.toArray _) 93 _) _) _ ⟨⟨fun hn => (hn (by decide)).elim, fun hr => ⟨hr.1.grown hg HN18.out, hr.2.grown hg HN20.out⟩⟩, ?_⟩; clear hK
            replace HNB := Lib.hid (HNB.out.step hg (fun x e => by cases e; exact Nat.le_refl _)); replace HNR := Lib.hid (HNR.out.low hg (Nat.lt_succ_self _)); replace HNP := Lib.hid hp; clear hg hp
            refine wpRoadB_sure (v := .pointer (some ⟨G, 1, none⟩)) rfl rfl (.inl ⟨rfl, fun w' hw => by go_simp⟩) _ (by simp only [List.setIfInBounds_toArray, List.set_cons_zero, List.set_cons_succ]; rfl) ?_
            refine wpRoadB_one rfl rfl (fun K hK => ?_)
            refine wp_store_partV 52 _ _ rfl G 1 rfl [.slice A2x (k + 1) c2x] (.slice A2x (k + 1) c2x) rfl rfl HNP.out info_ringsS rfl rfl (pipC A1x (k + 1) c1x A2x (k + 1) c2x A3 m c3 ⟨1, r, keep, 0, 0, 0⟩ o loss 1061158912 3200253952) rfl ?_
            intro w15 hg hp
            refine hK (Act.mk (List.toArray _) _) _ ⟨⟨fun hn => (hn (by decide)).elim, fun hr => ⟨hr.1.grown hg HN18.out, hr.2.grown hg HN20.out⟩⟩, ?_⟩; clear hK
            replace HNB := Lib.hid (HNB.out.step hg (fun x e => by cases e; exact Nat.le_refl _)); replace HNR := Lib.hid (HNR.out.low hg (Nat.lt_succ_self _)); replace HNP := Lib.hid hp; clear hg hp
            refine wpRoadB_nil ?_
            clear Q18 Q20 HZ1 HZ2
            go_wp2_with fail
            go_roundw
            case rel => exact ⟨k + 1, A1x, c1x, rs ++ [⟨some ⟨gr, 0, none⟩, l, List.replicate l 0, 0⟩], _, A2x, c2x, qs ++ [⟨some ⟨gq, 0, none⟩, l, List.replicate l 0, 0⟩], _, by omega, by go_num, HE, HR1.out.snoc (by rw [HLV.out]) rfl, HR2.out.snoc (by rw [HLV.out]) rfl, HNB, HNR, HNP⟩
            case measure => simp [intOf]; omega
        · skip
          have YP8 : Hid (h18 ≤ w9.heap.size) := Lib.hid (Nat.le_of_lt Q18.out.lt)
          go_wp2_with fail
          have P8 : Row (w9.alloc (.cells #[.slice (some ⟨gq, 0, none⟩) l l, .int .i64 0] 34)) w9.heap.size #[.slice (some ⟨gq, 0, none⟩) l l, .int .i64 0] 34 := Row.new _ _ _ _ rfl
          have b := Go.Joins.below_alloc1 w9 (.cells #[.slice (some ⟨gq, 0, none⟩) l l, .int .i64 0] 34)
          obtain ⟨w10, hw10⟩ : ∃ x, x = w9.alloc (.cells #[.slice (some ⟨gq, 0, none⟩) l l, .int .i64 0] 34) := ⟨_, rfl⟩
          rw [← hw10] at P8 b ⊢
          refine ⟨⟨fun _ hs => Row.below hs b (Row.lt hs), fun hr => ⟨hr.1.below b hr.1.lt, hr.2.below b hr.2.lt⟩⟩, ?_⟩; clear hw10
          replace HNB := Lib.hid (HNB.out.down b); replace HNR := Lib.hid (HNR.out.down b); replace HNP := Lib.hid (HNP.out.below b HNP.out.lt); replace Q18 := Lib.hid (Q18.out.below b Q18.out.lt); replace Q20 := Lib.hid (Q20.out.below b Q20.out.lt); replace HZ1 := Lib.hid (HZ1.out.below b HZ1.out.lt); replace HZ2 := Lib.hid (HZ2.out.below b HZ2.out.lt)
          clear b
          replace P8 := Lib.hid P8
          generalize w9.heap.size = yP8 at *
          replace P8 := P8.out
          refine wpRoadB_one rfl rfl (fun K hK => ?_)
          go_wp2_with fail
          have P3 : Row (w10.alloc (.cells #[.slice (some ⟨gr, 0, none⟩) l l, .int .i64 0] 34)) w10.heap.size #[.slice (some ⟨gr, 0, none⟩) l l, .int .i64 0] 34 := Row.new _ _ _ _ rfl
          have b := Go.Joins.below_alloc1 w10 (.cells #[.slice (some ⟨gr, 0, none⟩) l l, .int .i64 0] 34)
          obtain ⟨w11, hw11⟩ : ∃ x, x = w10.alloc (.cells #[.slice (some ⟨gr, 0, none⟩) l l, .int .i64 0] 34) := ⟨_, rfl⟩
          rw [← hw11] at P3 b ⊢
          refine ⟨⟨fun _ hs => Row.below hs b (Row.lt hs), fun hr => ⟨hr.1.below b hr.1.lt, hr.2.below b hr.2.lt⟩⟩, ?_⟩; clear hw11
          replace HNB := Lib.hid (HNB.out.down b); replace HNR := Lib.hid (HNR.out.down b); replace HNP := Lib.hid (HNP.out.below b HNP.out.lt); replace Q18 := Lib.hid (Q18.out.below b Q18.out.lt); replace Q20 := Lib.hid (Q20.out.below b Q20.out.lt); replace HZ1 := Lib.hid (HZ1.out.below b HZ1.out.lt); replace HZ2 := Lib.hid (HZ2.out.below b HZ2.out.lt)
          replace P8 := P8.below b P8.lt
          clear b
          replace P3 := Lib.hid P3
          generalize w10.heap.size = yP3 at *
          replace P3 := P3.out
          refine wpRoadB_one rfl rfl (fun K hK => ?_)
          have HOr : OwnR w11 (G + 1) A1 c1 k (fl2 rs) 34 2 := by have h0 := HNR.out.r.own; rwa [HR1.out.1] at h0
          refine wp_append_ownR _ _ 52 rfl (G + 1) 34 (.agg #[.slice none 0 0, .int .i64 0]) 2 32 Try.underlying52 info_ringe rfl (by decide) (n := k) rfl HOr [.slice (some ⟨gr, 0, none⟩) l l, .int .i64 0] rfl (by intro u hu; simp only [List.mem_cons, List.not_mem_nil, or_false] at hu; rcases hu with rfl | rfl <;> rfl) rfl P3 (by have := HN3.out; omega) (by decide) HNP.out.lt ?_
          intro A1x c1x w12 hnr hg _
          have hno : ∀ x, h18 ≤ x → some x ≠ ownBlk A1 := fun x hx e => by have h0 := HOA1.out x e.symm; omega
          have hnG : some G ≠ ownBlk A1 := fun e => by have h0 := HOr.ge G e.symm; omega
          refine hK (Act.mk (Array.setIfInBounds (List.toArray _) 88 _) _) _ ⟨⟨fun _ hs => Row.grown hs hg hnG, fun hr => ⟨hr.1.grown hg (hno _ (Nat.le_refl _)), hr.2.grown hg (hno _ HSZ7.out)⟩⟩, ?_⟩; clear hK
          replace HNB := Lib.hid (HNB.out.step hg (fun x e => by have h0 := HOr.ge x e; omega)); replace HNP := Lib.hid (HNP.out.grown hg hnG); replace Q18 := Lib.hid (Q18.out.grown hg (hno _ (Nat.le_refl _))); replace Q20 := Lib.hid (Q20.out.grown hg (hno _ HSZ7.out))
          have hz : some gq ≠ ownBlk A1 := HNR.out.r.blk_ne HZ2.out
          have hz0 : some gr ≠ ownBlk A1 := HNR.out.r.blk_ne HZ1.out
          replace HNR := Lib.hid (HNR.out.right (r := ⟨some ⟨gr, 0, none⟩, l, List.replicate l 0, 0⟩) (by rw [HR1.out.1]; simpa [rgC] using hnr) hg rfl HGG.out HZ1.out HLT1.out HLT2.out)
          replace HZ2 := Lib.hid (HZ2.out.grown hg hz); replace HZ1 := Lib.hid (HZ1.out.grown hg hz0)
          replace P8 := P8.grown hg (hno _ YP8.out)
          clear hg hno hnG hz hz0 HOr hnr P3
          refine wpRoadB_sure (v := .pointer (some ⟨G, 0, none⟩)) rfl rfl (.inl ⟨rfl, fun w' hw => by go_simp⟩) _ (by simp only [List.setIfInBounds_toArray, List.set_cons_zero, List.set_cons_succ]; rfl) ?_
          refine wpRoadB_one rfl rfl (fun K hK => ?_)
          have HOl : OwnR w12 (G + 1) A2 c2 k (fl2 qs) 34 2 := by have h0 := HNR.out.l.own; rwa [HR2.out.1] at h0
          refine wp_append_ownR _ _ 52 rfl (G + 1) 34 (.agg #[.slice none 0 0, .int .i64 0]) 2 32 Try.underlying52 info_ringe rfl (by decide) (n := k) rfl HOl [.slice (some ⟨gq, 0, none⟩) l l, .int .i64 0] rfl (by intro u hu; simp only [List.mem_cons, List.not_mem_nil, or_false] at hu; rcases hu with rfl | rfl <;> rfl) rfl P8 (by have := HN3.out; omega) (by decide) HNP.out.lt ?_
          intro A2x c2x w13 hnl hg _
          have hno : ∀ x, h18 ≤ x → some x ≠ ownBlk A2 := fun x hx e => by have h0 := HOA2.out x e.symm; omega
          have hnG : some G ≠ ownBlk A2 := fun e => by have h0 := HOl.ge G e.symm; omega
          refine hK (Act.mk (Array.setIfInBounds (List.toArray _) 93 _) _) _ ⟨⟨fun _ hs => Row.grown hs hg hnG, fun hr => ⟨hr.1.grown hg (hno _ (Nat.le_refl _)), hr.2.grown hg (hno _ HSZ7.out)⟩⟩, ?_⟩; clear hK
          replace HNB := Lib.hid (HNB.out.step hg (fun x e => by have h0 := HOl.ge x e; omega)); replace HNP := Lib.hid (HNP.out.grown hg hnG); replace Q18 := Lib.hid (Q18.out.grown hg (hno _ (Nat.le_refl _))); replace Q20 := Lib.hid (Q20.out.grown hg (hno _ HSZ7.out))
          have hz : some gr ≠ ownBlk A2 := HNR.out.l.blk_ne HZ1.out
          have hz0 : some gq ≠ ownBlk A2 := HNR.out.l.blk_ne HZ2.out
          replace HNR := Lib.hid (HNR.out.left (r := ⟨some ⟨gq, 0, none⟩, l, List.replicate l 0, 0⟩) (by rw [HR2.out.1]; simpa [rgC] using hnl) hg rfl HGQ.out HZ2.out (by rw [List.length_append]; exact ifs_lt HLQ1.out HRQ.out) HLQ2.out)
          replace HZ1 := Lib.hid (HZ1.out.grown hg hz); replace HZ2 := Lib.hid (HZ2.out.grown hg hz0)
          clear hg hno hnG hz hz0 HOl hnl P8
          refine wpRoadB_one rfl rfl (fun K hK => ?_)
          refine wp_store_partV 52 _ _ rfl G 0 rfl [.slice A1x (k + 1) c1x] (.slice A1x (k + 1) c1x) rfl rfl HNP.out info_ringsS rfl rfl (pipC A1x (k + 1) c1x A2 k c2 A3 m c3 ⟨1, r, keep, 0, 0, 0⟩ o loss 1061158912 3200253952) rfl ?_
          intro w14 hg hp
          refine hK (Act.mk (Array.setIfInBounds (List.toArray _) 93 _) _) _ ⟨⟨fun hn => (hn (by decide)).elim, fun hr => ⟨hr.1.grown hg HN18.out, hr.2.grown hg HN20.out⟩⟩, ?_⟩; clear hK
          replace HNB := Lib.hid (HNB.out.step hg (fun x e => by cases e; exact Nat.le_refl _)); replace HNR := Lib.hid (HNR.out.low hg (Nat.lt_succ_self _)); replace HNP := Lib.hid hp; clear hg hp
          refine wpRoadB_sure (v := .pointer (some ⟨G, 1, none⟩)) rfl rfl (.inl ⟨rfl, fun w' hw => by go_simp⟩) _ (by simp only [List.setIfInBounds_toArray, List.set_cons_zero, List.set_cons_succ]; rfl) ?_
          refine wpRoadB_one rfl rfl (fun K hK => ?_)
          refine wp_store_partV 52 _ _ rfl G 1 rfl [.slice A2x (k + 1) c2x] (.slice A2x (k + 1) c2x) rfl rfl HNP.out info_ringsS rfl rfl (pipC A1x (k + 1) c1x A2x (k + 1) c2x A3 m c3 ⟨1, r, keep, 0, 0, 0⟩ o loss 1061158912 3200253952) rfl ?_
          intro w15 hg hp
          refine hK (Act.mk (List.toArray _) _) _ ⟨⟨fun hn => (hn (by decide)).elim, fun hr => ⟨hr.1.grown hg HN18.out, hr.2.grown hg HN20.out⟩⟩, ?_⟩; clear hK
          replace HNB := Lib.hid (HNB.out.step hg (fun x e => by cases e; exact Nat.le_refl _)); replace HNR := Lib.hid (HNR.out.low hg (Nat.lt_succ_self _)); replace HNP := Lib.hid hp; clear hg hp
          refine wpRoadB_nil ?_
          clear Q18 Q20 HZ1 HZ2
          go_wp2_with fail
          go_roundw
          case rel => exact ⟨k + 1, A1x, c1x, rs ++ [⟨some ⟨gr, 0, none⟩, l, List.replicate l 0, 0⟩], _, A2x, c2x, qs ++ [⟨some ⟨gq, 0, none⟩, l, List.replicate l 0, 0⟩], _, by omega, by go_num, HE, HR1.out.snoc (by rw [HLV.out]) rfl, HR2.out.snoc (by rw [HLV.out]) rfl, HNB, HNR, HNP⟩
          case measure => simp [intOf]; omega
      have e : n = k := by omega
      subst e
      replace HLK : Hid (npL zs = true) := Lib.hid (by have h0 := HLK.out; rwa [List.take_of_length_le (by rw [HN.out]; exact Nat.le_refl _)] at h0)
      have HOK := Lib.hid (np_yes (zs := zs) (ss := ss) (keep := keep) (loss := loss) (by rw [HN.out, HM.out]; exact HNI.out) HSS.out HLK.out)
      go_wp2_with (first
        | (refine wpList_load_cells rfl 54 _ rfl _ rfl HNP.out Try.underlying54 rfl info_pip ?_)
        | (refine wpList_store_cells (cells := (pipC A1 n c1 A2 n c2 A3 m c3 ⟨1, r, keep, 0, 0, 0⟩ o loss 1061158912 3200253952).toArray) rfl 54 _ _ rfl _ rfl rfl HNB.out.zero info_pip rfl rfl ?_))
      have hg := grownBy_setRow wr w.heap.size (pipC A1 n c1 A2 n c2 A3 m c3 ⟨1, r, keep, 0, 0, 0⟩ o loss 1061158912 3200253952).toArray
      have hgt := HNB.out.gt.1
      obtain ⟨G1, G2, hpo⟩ := np_po (p := ⟨A1, c1, rs, A2, c2, qs, A3, c3, ss, ⟨1, r, keep, 0, 0, 0⟩, o, loss, 1061158912, 3200253952⟩) hgt HNB.out.a3 (HNB.out.own.kept hg (fun x hx e => by have h0 := HNB.out.a3 x hx; have := Option.some.inj e; omega)) (HNR.out.low hg (by omega)) rfl rfl rfl
      refine bodyPost_ret (results_cells_tmp rfl _ _ _ rfl rfl (HNB.out.zero.row (pipC A1 n c1 A2 n c2 A3 m c3 ⟨1, r, keep, 0, 0, 0⟩ o loss 1061158912 3200253952).toArray) Try.underlying54 rfl info_pip) rfl ?_
      refine ⟨⟨A1, c1, rs, A2, c2, qs, A3, c3, ss, ⟨1, r, keep, 0, 0, 0⟩, o, loss, 1061158912, 3200253952⟩, G1, b1, G2, b2, 0, ?_, hpo, .inl ⟨HOK.out, by rw [HN.out]; exact HR1.out, by rw [HN.out]; exact HR2.out, rfl, ⟨r, rfl, HR.out⟩, rfl, rfl, rfl, rfl, rfl⟩, below_setRow HNB.out.below (Nat.le_refl _) _⟩
      unfold PipV.cells
      simp only [HR1.out.1, HR2.out.1, HM.out]
      rfl
end Go.Proofs.Ytpchebclhjgcmaa
namespace Go.Proofs.Ytpchebclhjgcmaa
open Go.RowKit Go.Fl
def geB (a b : Nat) : Bool := ordC .f32 (cv .f32 a) (cv .f32 b) == some .gt || ordC .f32 (cv .f32 a) (cv .f32 b) == some .eq
def leB (a b : Nat) : Bool := ordC .f32 (cv .f32 a) (cv .f32 b) == some .lt || ordC .f32 (cv .f32 a) (cv .f32 b) == some .eq
def ltB (a b : Nat) : Bool := ordC .f32 (cv .f32 a) (cv .f32 b) == some .lt
theorem inR_two (a lo hi : Nat) : inR a lo hi = (geB a lo && leB a hi) := rfl
theorem keepB_two (a : Nat) : keepB a = (geB a 0 && ltB a 1065353216) := rfl
theorem npIn_noS {n m keep loss : Nat} (h : npIn n m keep loss = false) : inB n 1 3 = false ∨ (inB n 1 3 = true ∧ ¬ (m : Int) = (n : Int) - 1) ∨ (inB n 1 3 = true ∧ (m : Int) = (n : Int) - 1 ∧ (geB keep 0 = false ∨ (geB keep 0 = true ∧ (ltB keep 1065353216 = false ∨ (ltB keep 1065353216 = true ∧ (geB loss 0 = false ∨ (geB loss 0 = true ∧ leB loss 1065353216 = false))))))) := by
  rcases npIn_no h with h1 | h1 | ⟨h1, h2, h3⟩ | ⟨h1, h2, h3, h4⟩
  · exact .inl h1
  · exact .inr (.inl h1)
  · rw [keepB_two] at h3
    refine .inr (.inr ⟨h1, h2, ?_⟩)
    cases k1 : geB keep 0
    · exact .inl rfl
    · rw [k1, Bool.true_and] at h3
      exact .inr ⟨rfl, .inl h3⟩
  · rw [keepB_two, Bool.and_eq_true] at h3
    rw [inR_two] at h4
    refine .inr (.inr ⟨h1, h2, .inr ⟨h3.1, .inr ⟨h3.2, ?_⟩⟩⟩)
    cases k1 : geB loss 0
    · exact .inl rfl
    · rw [k1, Bool.true_and] at h4
      exact .inr ⟨rfl, h4⟩
set_option maxRecDepth 20000 in
set_option maxHeartbeats 4000000 in
theorem c_sNewPipe_no (g1 g2 : Nat) (zs : List Int) (ss : List Nat) (o : Bool) (keep loss : Nat) (w : World) (h1 : Row w g1 (jl zs) 2) (h2 : Blk w g2 ss 25) (hl1 : zs.length ≤ 1048576) (hl2 : ss.length ≤ 1048576) (h : npIn zs.length ss.length keep loss = false) :
    Calls Try.prog 26 #[.slice (some ⟨g1, 0, none⟩) zs.length zs.length, .slice (some ⟨g2, 0, none⟩) ss.length ss.length, .bool o, .float .f32 keep, .float .f32 loss] w (NpPost zs ss o keep loss w) := by
  have HNO := Lib.hid (show npOk zs ss keep loss = false by unfold npOk; rw [h, Bool.false_and])
  have q2 : Row (w.alloc (.cells pipZ.cells.toArray 54)) w.heap.size pipZ.cells.toArray 54 := Row.new _ _ _ _ rfl
  have hb0 := Go.Joins.below_alloc1 w (.cells pipZ.cells.toArray 54)
  have HB := Lib.hid hb0; have HQ := Lib.hid q2; have HI := Lib.hid (h1.below hb0 h1.lt); have HS := Lib.hid (h2.below hb0 h2.lt); have HL1 := Lib.hid hl1; have HL2 := Lib.hid hl2
  have CO : Hid (∀ W, Calls Try.prog 68 #[.float .f32 keep] W fun e w' => ∃ r, e = .returned (.agg #[.int .i64 1, .float .f32 r, .float .f32 keep, .float .f32 0, .float .f32 0, .float .f32 0]) ∧ cv .f32 r = cop .sub .f32 (cv .f32 1065353216) (cv .f32 keep) ∧ Below W.heap.size W w') := Lib.hid (fun W => c_sOnePole keep W)
  clear q2 hb0 h1 h2
  have hi1 : (zs.length : Int) ≤ 1048576 := by omega
  have hi2 : (ss.length : Int) ≤ 1048576 := by omega
  clear hl1 hl2
  generalize hn : zs.length = n at *
  generalize hm : ss.length = m at *
  have HN := Lib.hid hn; have HM := Lib.hid hm; clear hn hm
  rcases npIn_noS h with v1 | ⟨v1, v2⟩ | ⟨v1, v2, t0 | ⟨t0, t1 | ⟨t1, t2 | ⟨t2, t3⟩⟩⟩⟩
  · clear h
    have V1 := Lib.hid v1; clear v1
    go_enter Try.func26, Try.ntmps26
    go_wp2_with (go_at_call 67; refine (c_l00In _ _ _ _ _ V1.out).mono ?_; rintro e wz ⟨rfl, rfl⟩)
    go_loopw [12, 13] (fun b i wr => i = .int .i64 0 ∧ b = .bool false ∧ Hid (Below w.heap.size w wr) ∧ Hid (Row wr w.heap.size pipZ.cells.toArray 54) ∧ Hid (Row wr g1 (jl zs) 2) ∧ Hid (Blk wr g2 ss 25)) (fun _ _ _ => 0)
    case atStart => exact ⟨rfl, rfl, HB, HQ, HI, HS⟩
    case round =>
      clear HB HQ HI HS
      obtain ⟨rfl, rfl, HB, HQ, HI, HS⟩ := hrel
      by_cases hlt : 0 < n
      · have hk1 : (0 : Int) < n := by omega
        go_wp2_with fail
        go_loopw [12, 14] (fun b i wr => i = .int .i64 0 ∧ b = .bool false ∧ Hid (Below w.heap.size w wr) ∧ Hid (Row wr w.heap.size pipZ.cells.toArray 54) ∧ Hid (Row wr g1 (jl zs) 2) ∧ Hid (Blk wr g2 ss 25)) (fun _ _ _ => 0)
        case atStart => exact ⟨rfl, rfl, HB, HQ, HI, HS⟩
        case round =>
          clear HB HQ HI HS
          obtain ⟨rfl, rfl, HB, HQ, HI, HS⟩ := hrel
          by_cases hlz : 0 < m
          · have hk2 : (0 : Int) < m := by omega
            go_wp2_with (refine wpList_store_cells (cells := pipZ.cells.toArray) rfl 54 _ _ rfl _ rfl rfl HQ.out info_pip rfl rfl ?_)
            refine bodyPost_ret (results_cells_tmp rfl _ _ _ rfl rfl (HQ.out.row pipZ.cells.toArray) Try.underlying54 rfl info_pip) rfl ?_
            exact np_bad HNO.out (below_setRow HB.out (Nat.le_refl _) _)
          · skip
            have hk2 : ¬ (0 : Int) < m := by omega
            go_wp2_with (refine wpList_store_cells (cells := pipZ.cells.toArray) rfl 54 _ _ rfl _ rfl rfl HQ.out info_pip rfl rfl ?_)
            refine bodyPost_ret (results_cells_tmp rfl _ _ _ rfl rfl (HQ.out.row pipZ.cells.toArray) Try.underlying54 rfl info_pip) rfl ?_
            exact np_bad HNO.out (below_setRow HB.out (Nat.le_refl _) _)
      · have hk1 : ¬ (0 : Int) < n := by omega
        go_wp2_with fail
        go_loopw [12, 14] (fun b i wr => i = .int .i64 0 ∧ b = .bool false ∧ Hid (Below w.heap.size w wr) ∧ Hid (Row wr w.heap.size pipZ.cells.toArray 54) ∧ Hid (Row wr g1 (jl zs) 2) ∧ Hid (Blk wr g2 ss 25)) (fun _ _ _ => 0)
        case atStart => exact ⟨rfl, rfl, HB, HQ, HI, HS⟩
        case round =>
          clear HB HQ HI HS
          obtain ⟨rfl, rfl, HB, HQ, HI, HS⟩ := hrel
          by_cases hlz : 0 < m
          · have hk2 : (0 : Int) < m := by omega
            go_wp2_with (refine wpList_store_cells (cells := pipZ.cells.toArray) rfl 54 _ _ rfl _ rfl rfl HQ.out info_pip rfl rfl ?_)
            refine bodyPost_ret (results_cells_tmp rfl _ _ _ rfl rfl (HQ.out.row pipZ.cells.toArray) Try.underlying54 rfl info_pip) rfl ?_
            exact np_bad HNO.out (below_setRow HB.out (Nat.le_refl _) _)
          · skip
            have hk2 : ¬ (0 : Int) < m := by omega
            go_wp2_with (refine wpList_store_cells (cells := pipZ.cells.toArray) rfl 54 _ _ rfl _ rfl rfl HQ.out info_pip rfl rfl ?_)
            refine bodyPost_ret (results_cells_tmp rfl _ _ _ rfl rfl (HQ.out.row pipZ.cells.toArray) Try.underlying54 rfl info_pip) rfl ?_
            exact np_bad HNO.out (below_setRow HB.out (Nat.le_refl _) _)
  · clear h
    have V1 := Lib.hid v1; clear v1
    have hq1 : ((m : Int) == (n : Int) - 1) = false := beq_false_of_ne v2
    have hq2 : decide ((m : Int) = (n : Int) - 1) = false := decide_eq_false v2
    have hn0 : (1 : Int) ≤ n := by have := inB_true' V1.out; omega
    clear v2
    go_enter Try.func26, Try.ntmps26
    go_wp2_with (go_at_call 67; refine (c_l00In _ _ _ _ _ V1.out).mono ?_; rintro e wz ⟨rfl, rfl⟩)
    go_loopw [12, 13] (fun b i wr => i = .int .i64 0 ∧ b = .bool false ∧ Hid (Below w.heap.size w wr) ∧ Hid (Row wr w.heap.size pipZ.cells.toArray 54) ∧ Hid (Row wr g1 (jl zs) 2) ∧ Hid (Blk wr g2 ss 25)) (fun _ _ _ => 0)
    case atStart => exact ⟨rfl, rfl, HB, HQ, HI, HS⟩
    case round =>
      clear HB HQ HI HS
      obtain ⟨rfl, rfl, HB, HQ, HI, HS⟩ := hrel
      by_cases hlt : 0 < n
      · have hk1 : (0 : Int) < n := by omega
        go_wp2_with fail
        go_loopw [12, 14] (fun b i wr => i = .int .i64 0 ∧ b = .bool false ∧ Hid (Below w.heap.size w wr) ∧ Hid (Row wr w.heap.size pipZ.cells.toArray 54) ∧ Hid (Row wr g1 (jl zs) 2) ∧ Hid (Blk wr g2 ss 25)) (fun _ _ _ => 0)
        case atStart => exact ⟨rfl, rfl, HB, HQ, HI, HS⟩
        case round =>
          clear HB HQ HI HS
          obtain ⟨rfl, rfl, HB, HQ, HI, HS⟩ := hrel
          by_cases hlz : 0 < m
          · have hk2 : (0 : Int) < m := by omega
            go_wp2_with (refine wpList_store_cells (cells := pipZ.cells.toArray) rfl 54 _ _ rfl _ rfl rfl HQ.out info_pip rfl rfl ?_)
            refine bodyPost_ret (results_cells_tmp rfl _ _ _ rfl rfl (HQ.out.row pipZ.cells.toArray) Try.underlying54 rfl info_pip) rfl ?_
            exact np_bad HNO.out (below_setRow HB.out (Nat.le_refl _) _)
          · skip
            have hk2 : ¬ (0 : Int) < m := by omega
            go_wp2_with (refine wpList_store_cells (cells := pipZ.cells.toArray) rfl 54 _ _ rfl _ rfl rfl HQ.out info_pip rfl rfl ?_)
            refine bodyPost_ret (results_cells_tmp rfl _ _ _ rfl rfl (HQ.out.row pipZ.cells.toArray) Try.underlying54 rfl info_pip) rfl ?_
            exact np_bad HNO.out (below_setRow HB.out (Nat.le_refl _) _)
      · have hk1 : ¬ (0 : Int) < n := by omega
        go_wp2_with fail
        go_loopw [12, 14] (fun b i wr => i = .int .i64 0 ∧ b = .bool false ∧ Hid (Below w.heap.size w wr) ∧ Hid (Row wr w.heap.size pipZ.cells.toArray 54) ∧ Hid (Row wr g1 (jl zs) 2) ∧ Hid (Blk wr g2 ss 25)) (fun _ _ _ => 0)
        case atStart => exact ⟨rfl, rfl, HB, HQ, HI, HS⟩
        case round =>
          clear HB HQ HI HS
          obtain ⟨rfl, rfl, HB, HQ, HI, HS⟩ := hrel
          by_cases hlz : 0 < m
          · have hk2 : (0 : Int) < m := by omega
            go_wp2_with (refine wpList_store_cells (cells := pipZ.cells.toArray) rfl 54 _ _ rfl _ rfl rfl HQ.out info_pip rfl rfl ?_)
            refine bodyPost_ret (results_cells_tmp rfl _ _ _ rfl rfl (HQ.out.row pipZ.cells.toArray) Try.underlying54 rfl info_pip) rfl ?_
            exact np_bad HNO.out (below_setRow HB.out (Nat.le_refl _) _)
          · skip
            have hk2 : ¬ (0 : Int) < m := by omega
            go_wp2_with (refine wpList_store_cells (cells := pipZ.cells.toArray) rfl 54 _ _ rfl _ rfl rfl HQ.out info_pip rfl rfl ?_)
            refine bodyPost_ret (results_cells_tmp rfl _ _ _ rfl rfl (HQ.out.row pipZ.cells.toArray) Try.underlying54 rfl info_pip) rfl ?_
            exact np_bad HNO.out (below_setRow HB.out (Nat.le_refl _) _)
  · clear h
    have V1 := Lib.hid v1; clear v1
    have hq1 : ((m : Int) == (n : Int) - 1) = true := beq_iff_eq.2 v2
    have hq2 : decide ((m : Int) = (n : Int) - 1) = true := decide_eq_true v2
    have hn0 : (1 : Int) ≤ n := by have := inB_true' V1.out; omega
    clear v2
    unfold geB at t0
    go_enter Try.func26, Try.ntmps26
    go_wp2_with (go_at_call 67; refine (c_l00In _ _ _ _ _ V1.out).mono ?_; rintro e wz ⟨rfl, rfl⟩)
    go_loopw [12, 13] (fun b i wr => i = .int .i64 0 ∧ b = .bool false ∧ Hid (Below w.heap.size w wr) ∧ Hid (Row wr w.heap.size pipZ.cells.toArray 54) ∧ Hid (Row wr g1 (jl zs) 2) ∧ Hid (Blk wr g2 ss 25)) (fun _ _ _ => 0)
    case atStart => exact ⟨rfl, rfl, HB, HQ, HI, HS⟩
    case round =>
      clear HB HQ HI HS
      obtain ⟨rfl, rfl, HB, HQ, HI, HS⟩ := hrel
      by_cases hlt : 0 < n
      · have hk1 : (0 : Int) < n := by omega
        go_wp2_with fail
        go_loopw [12, 14] (fun b i wr => i = .int .i64 0 ∧ b = .bool false ∧ Hid (Below w.heap.size w wr) ∧ Hid (Row wr w.heap.size pipZ.cells.toArray 54) ∧ Hid (Row wr g1 (jl zs) 2) ∧ Hid (Blk wr g2 ss 25)) (fun _ _ _ => 0)
        case atStart => exact ⟨rfl, rfl, HB, HQ, HI, HS⟩
        case round =>
          clear HB HQ HI HS
          obtain ⟨rfl, rfl, HB, HQ, HI, HS⟩ := hrel
          by_cases hlz : 0 < m
          · have hk2 : (0 : Int) < m := by omega
            go_wp2_with (refine wpList_store_cells (cells := pipZ.cells.toArray) rfl 54 _ _ rfl _ rfl rfl HQ.out info_pip rfl rfl ?_)
            refine bodyPost_ret (results_cells_tmp rfl _ _ _ rfl rfl (HQ.out.row pipZ.cells.toArray) Try.underlying54 rfl info_pip) rfl ?_
            exact np_bad HNO.out (below_setRow HB.out (Nat.le_refl _) _)
          · skip
            have hk2 : ¬ (0 : Int) < m := by omega
            go_wp2_with (refine wpList_store_cells (cells := pipZ.cells.toArray) rfl 54 _ _ rfl _ rfl rfl HQ.out info_pip rfl rfl ?_)
            refine bodyPost_ret (results_cells_tmp rfl _ _ _ rfl rfl (HQ.out.row pipZ.cells.toArray) Try.underlying54 rfl info_pip) rfl ?_
            exact np_bad HNO.out (below_setRow HB.out (Nat.le_refl _) _)
      · have hk1 : ¬ (0 : Int) < n := by omega
        go_wp2_with fail
        go_loopw [12, 14] (fun b i wr => i = .int .i64 0 ∧ b = .bool false ∧ Hid (Below w.heap.size w wr) ∧ Hid (Row wr w.heap.size pipZ.cells.toArray 54) ∧ Hid (Row wr g1 (jl zs) 2) ∧ Hid (Blk wr g2 ss 25)) (fun _ _ _ => 0)
        case atStart => exact ⟨rfl, rfl, HB, HQ, HI, HS⟩
        case round =>
          clear HB HQ HI HS
          obtain ⟨rfl, rfl, HB, HQ, HI, HS⟩ := hrel
          by_cases hlz : 0 < m
          · have hk2 : (0 : Int) < m := by omega
            go_wp2_with (refine wpList_store_cells (cells := pipZ.cells.toArray) rfl 54 _ _ rfl _ rfl rfl HQ.out info_pip rfl rfl ?_)
            refine bodyPost_ret (results_cells_tmp rfl _ _ _ rfl rfl (HQ.out.row pipZ.cells.toArray) Try.underlying54 rfl info_pip) rfl ?_
            exact np_bad HNO.out (below_setRow HB.out (Nat.le_refl _) _)
          · skip
            have hk2 : ¬ (0 : Int) < m := by omega
            go_wp2_with (refine wpList_store_cells (cells := pipZ.cells.toArray) rfl 54 _ _ rfl _ rfl rfl HQ.out info_pip rfl rfl ?_)
            refine bodyPost_ret (results_cells_tmp rfl _ _ _ rfl rfl (HQ.out.row pipZ.cells.toArray) Try.underlying54 rfl info_pip) rfl ?_
            exact np_bad HNO.out (below_setRow HB.out (Nat.le_refl _) _)
  · clear h
    have V1 := Lib.hid v1; clear v1
    have hq1 : ((m : Int) == (n : Int) - 1) = true := beq_iff_eq.2 v2
    have hq2 : decide ((m : Int) = (n : Int) - 1) = true := decide_eq_true v2
    have hn0 : (1 : Int) ≤ n := by have := inB_true' V1.out; omega
    clear v2
    unfold geB at t0
    unfold ltB at t1
    go_enter Try.func26, Try.ntmps26
    go_wp2_with (go_at_call 67; refine (c_l00In _ _ _ _ _ V1.out).mono ?_; rintro e wz ⟨rfl, rfl⟩)
    go_loopw [12, 13] (fun b i wr => i = .int .i64 0 ∧ b = .bool false ∧ Hid (Below w.heap.size w wr) ∧ Hid (Row wr w.heap.size pipZ.cells.toArray 54) ∧ Hid (Row wr g1 (jl zs) 2) ∧ Hid (Blk wr g2 ss 25)) (fun _ _ _ => 0)
    case atStart => exact ⟨rfl, rfl, HB, HQ, HI, HS⟩
    case round =>
      clear HB HQ HI HS
      obtain ⟨rfl, rfl, HB, HQ, HI, HS⟩ := hrel
      by_cases hlt : 0 < n
      · have hk1 : (0 : Int) < n := by omega
        go_wp2_with fail
        go_loopw [12, 14] (fun b i wr => i = .int .i64 0 ∧ b = .bool false ∧ Hid (Below w.heap.size w wr) ∧ Hid (Row wr w.heap.size pipZ.cells.toArray 54) ∧ Hid (Row wr g1 (jl zs) 2) ∧ Hid (Blk wr g2 ss 25)) (fun _ _ _ => 0)
        case atStart => exact ⟨rfl, rfl, HB, HQ, HI, HS⟩
        case round =>
          clear HB HQ HI HS
          obtain ⟨rfl, rfl, HB, HQ, HI, HS⟩ := hrel
          by_cases hlz : 0 < m
          · have hk2 : (0 : Int) < m := by omega
            go_wp2_with (refine wpList_store_cells (cells := pipZ.cells.toArray) rfl 54 _ _ rfl _ rfl rfl HQ.out info_pip rfl rfl ?_)
            refine bodyPost_ret (results_cells_tmp rfl _ _ _ rfl rfl (HQ.out.row pipZ.cells.toArray) Try.underlying54 rfl info_pip) rfl ?_
            exact np_bad HNO.out (below_setRow HB.out (Nat.le_refl _) _)
          · skip
            have hk2 : ¬ (0 : Int) < m := by omega
            go_wp2_with (refine wpList_store_cells (cells := pipZ.cells.toArray) rfl 54 _ _ rfl _ rfl rfl HQ.out info_pip rfl rfl ?_)
            refine bodyPost_ret (results_cells_tmp rfl _ _ _ rfl rfl (HQ.out.row pipZ.cells.toArray) Try.underlying54 rfl info_pip) rfl ?_
            exact np_bad HNO.out (below_setRow HB.out (Nat.le_refl _) _)
      · have hk1 : ¬ (0 : Int) < n := by omega
        go_wp2_with fail
        go_loopw [12, 14] (fun b i wr => i = .int .i64 0 ∧ b = .bool false ∧ Hid (Below w.heap.size w wr) ∧ Hid (Row wr w.heap.size pipZ.cells.toArray 54) ∧ Hid (Row wr g1 (jl zs) 2) ∧ Hid (Blk wr g2 ss 25)) (fun _ _ _ => 0)
        case atStart => exact ⟨rfl, rfl, HB, HQ, HI, HS⟩
        case round =>
          clear HB HQ HI HS
          obtain ⟨rfl, rfl, HB, HQ, HI, HS⟩ := hrel
          by_cases hlz : 0 < m
          · have hk2 : (0 : Int) < m := by omega
            go_wp2_with (refine wpList_store_cells (cells := pipZ.cells.toArray) rfl 54 _ _ rfl _ rfl rfl HQ.out info_pip rfl rfl ?_)
            refine bodyPost_ret (results_cells_tmp rfl _ _ _ rfl rfl (HQ.out.row pipZ.cells.toArray) Try.underlying54 rfl info_pip) rfl ?_
            exact np_bad HNO.out (below_setRow HB.out (Nat.le_refl _) _)
          · skip
            have hk2 : ¬ (0 : Int) < m := by omega
            go_wp2_with (refine wpList_store_cells (cells := pipZ.cells.toArray) rfl 54 _ _ rfl _ rfl rfl HQ.out info_pip rfl rfl ?_)
            refine bodyPost_ret (results_cells_tmp rfl _ _ _ rfl rfl (HQ.out.row pipZ.cells.toArray) Try.underlying54 rfl info_pip) rfl ?_
            exact np_bad HNO.out (below_setRow HB.out (Nat.le_refl _) _)
  · clear h
    have V1 := Lib.hid v1; clear v1
    have hq1 : ((m : Int) == (n : Int) - 1) = true := beq_iff_eq.2 v2
    have hq2 : decide ((m : Int) = (n : Int) - 1) = true := decide_eq_true v2
    have hn0 : (1 : Int) ≤ n := by have := inB_true' V1.out; omega
    clear v2
    unfold geB at t0
    unfold ltB at t1
    unfold geB at t2
    go_enter Try.func26, Try.ntmps26
    go_wp2_with (go_at_call 67; refine (c_l00In _ _ _ _ _ V1.out).mono ?_; rintro e wz ⟨rfl, rfl⟩)
    go_loopw [12, 13] (fun b i wr => i = .int .i64 0 ∧ b = .bool false ∧ Hid (Below w.heap.size w wr) ∧ Hid (Row wr w.heap.size pipZ.cells.toArray 54) ∧ Hid (Row wr g1 (jl zs) 2) ∧ Hid (Blk wr g2 ss 25)) (fun _ _ _ => 0)
    case atStart => exact ⟨rfl, rfl, HB, HQ, HI, HS⟩
    case round =>
      clear HB HQ HI HS
      obtain ⟨rfl, rfl, HB, HQ, HI, HS⟩ := hrel
      by_cases hlt : 0 < n
      · have hk1 : (0 : Int) < n := by omega
        go_wp2_with fail
        go_loopw [12, 14] (fun b i wr => i = .int .i64 0 ∧ b = .bool false ∧ Hid (Below w.heap.size w wr) ∧ Hid (Row wr w.heap.size pipZ.cells.toArray 54) ∧ Hid (Row wr g1 (jl zs) 2) ∧ Hid (Blk wr g2 ss 25)) (fun _ _ _ => 0)
        case atStart => exact ⟨rfl, rfl, HB, HQ, HI, HS⟩
        case round =>
          clear HB HQ HI HS
          obtain ⟨rfl, rfl, HB, HQ, HI, HS⟩ := hrel
          by_cases hlz : 0 < m
          · have hk2 : (0 : Int) < m := by omega
            go_wp2_with (refine wpList_store_cells (cells := pipZ.cells.toArray) rfl 54 _ _ rfl _ rfl rfl HQ.out info_pip rfl rfl ?_)
            refine bodyPost_ret (results_cells_tmp rfl _ _ _ rfl rfl (HQ.out.row pipZ.cells.toArray) Try.underlying54 rfl info_pip) rfl ?_
            exact np_bad HNO.out (below_setRow HB.out (Nat.le_refl _) _)
          · skip
            have hk2 : ¬ (0 : Int) < m := by omega
            go_wp2_with (refine wpList_store_cells (cells := pipZ.cells.toArray) rfl 54 _ _ rfl _ rfl rfl HQ.out info_pip rfl rfl ?_)
            refine bodyPost_ret (results_cells_tmp rfl _ _ _ rfl rfl (HQ.out.row pipZ.cells.toArray) Try.underlying54 rfl info_pip) rfl ?_
            exact np_bad HNO.out (below_setRow HB.out (Nat.le_refl _) _)
      · have hk1 : ¬ (0 : Int) < n := by omega
        go_wp2_with fail
        go_loopw [12, 14] (fun b i wr => i = .int .i64 0 ∧ b = .bool false ∧ Hid (Below w.heap.size w wr) ∧ Hid (Row wr w.heap.size pipZ.cells.toArray 54) ∧ Hid (Row wr g1 (jl zs) 2) ∧ Hid (Blk wr g2 ss 25)) (fun _ _ _ => 0)
        case atStart => exact ⟨rfl, rfl, HB, HQ, HI, HS⟩
        case round =>
          clear HB HQ HI HS
          obtain ⟨rfl, rfl, HB, HQ, HI, HS⟩ := hrel
          by_cases hlz : 0 < m
          · have hk2 : (0 : Int) < m := by omega
            go_wp2_with (refine wpList_store_cells (cells := pipZ.cells.toArray) rfl 54 _ _ rfl _ rfl rfl HQ.out info_pip rfl rfl ?_)
            refine bodyPost_ret (results_cells_tmp rfl _ _ _ rfl rfl (HQ.out.row pipZ.cells.toArray) Try.underlying54 rfl info_pip) rfl ?_
            exact np_bad HNO.out (below_setRow HB.out (Nat.le_refl _) _)
          · skip
            have hk2 : ¬ (0 : Int) < m := by omega
            go_wp2_with (refine wpList_store_cells (cells := pipZ.cells.toArray) rfl 54 _ _ rfl _ rfl rfl HQ.out info_pip rfl rfl ?_)
            refine bodyPost_ret (results_cells_tmp rfl _ _ _ rfl rfl (HQ.out.row pipZ.cells.toArray) Try.underlying54 rfl info_pip) rfl ?_
            exact np_bad HNO.out (below_setRow HB.out (Nat.le_refl _) _)
  · clear h
    have V1 := Lib.hid v1; clear v1
    have hq1 : ((m : Int) == (n : Int) - 1) = true := beq_iff_eq.2 v2
    have hq2 : decide ((m : Int) = (n : Int) - 1) = true := decide_eq_true v2
    have hn0 : (1 : Int) ≤ n := by have := inB_true' V1.out; omega
    clear v2
    unfold geB at t0
    unfold ltB at t1
    unfold geB at t2
    unfold leB at t3
    go_enter Try.func26, Try.ntmps26
    go_wp2_with (go_at_call 67; refine (c_l00In _ _ _ _ _ V1.out).mono ?_; rintro e wz ⟨rfl, rfl⟩)
    go_loopw [12, 13] (fun b i wr => i = .int .i64 0 ∧ b = .bool false ∧ Hid (Below w.heap.size w wr) ∧ Hid (Row wr w.heap.size pipZ.cells.toArray 54) ∧ Hid (Row wr g1 (jl zs) 2) ∧ Hid (Blk wr g2 ss 25)) (fun _ _ _ => 0)
    case atStart => exact ⟨rfl, rfl, HB, HQ, HI, HS⟩
    case round =>
      clear HB HQ HI HS
      obtain ⟨rfl, rfl, HB, HQ, HI, HS⟩ := hrel
      by_cases hlt : 0 < n
      · have hk1 : (0 : Int) < n := by omega
        go_wp2_with fail
        go_loopw [12, 14] (fun b i wr => i = .int .i64 0 ∧ b = .bool false ∧ Hid (Below w.heap.size w wr) ∧ Hid (Row wr w.heap.size pipZ.cells.toArray 54) ∧ Hid (Row wr g1 (jl zs) 2) ∧ Hid (Blk wr g2 ss 25)) (fun _ _ _ => 0)
        case atStart => exact ⟨rfl, rfl, HB, HQ, HI, HS⟩
        case round =>
          clear HB HQ HI HS
          obtain ⟨rfl, rfl, HB, HQ, HI, HS⟩ := hrel
          by_cases hlz : 0 < m
          · have hk2 : (0 : Int) < m := by omega
            go_wp2_with (refine wpList_store_cells (cells := pipZ.cells.toArray) rfl 54 _ _ rfl _ rfl rfl HQ.out info_pip rfl rfl ?_)
            refine bodyPost_ret (results_cells_tmp rfl _ _ _ rfl rfl (HQ.out.row pipZ.cells.toArray) Try.underlying54 rfl info_pip) rfl ?_
            exact np_bad HNO.out (below_setRow HB.out (Nat.le_refl _) _)
          · skip
            have hk2 : ¬ (0 : Int) < m := by omega
            go_wp2_with (refine wpList_store_cells (cells := pipZ.cells.toArray) rfl 54 _ _ rfl _ rfl rfl HQ.out info_pip rfl rfl ?_)
            refine bodyPost_ret (results_cells_tmp rfl _ _ _ rfl rfl (HQ.out.row pipZ.cells.toArray) Try.underlying54 rfl info_pip) rfl ?_
            exact np_bad HNO.out (below_setRow HB.out (Nat.le_refl _) _)
      · have hk1 : ¬ (0 : Int) < n := by omega
        go_wp2_with fail
        go_loopw [12, 14] (fun b i wr => i = .int .i64 0 ∧ b = .bool false ∧ Hid (Below w.heap.size w wr) ∧ Hid (Row wr w.heap.size pipZ.cells.toArray 54) ∧ Hid (Row wr g1 (jl zs) 2) ∧ Hid (Blk wr g2 ss 25)) (fun _ _ _ => 0)
        case atStart => exact ⟨rfl, rfl, HB, HQ, HI, HS⟩
        case round =>
          clear HB HQ HI HS
          obtain ⟨rfl, rfl, HB, HQ, HI, HS⟩ := hrel
          by_cases hlz : 0 < m
          · have hk2 : (0 : Int) < m := by omega
            go_wp2_with (refine wpList_store_cells (cells := pipZ.cells.toArray) rfl 54 _ _ rfl _ rfl rfl HQ.out info_pip rfl rfl ?_)
            refine bodyPost_ret (results_cells_tmp rfl _ _ _ rfl rfl (HQ.out.row pipZ.cells.toArray) Try.underlying54 rfl info_pip) rfl ?_
            exact np_bad HNO.out (below_setRow HB.out (Nat.le_refl _) _)
          · skip
            have hk2 : ¬ (0 : Int) < m := by omega
            go_wp2_with (refine wpList_store_cells (cells := pipZ.cells.toArray) rfl 54 _ _ rfl _ rfl rfl HQ.out info_pip rfl rfl ?_)
            refine bodyPost_ret (results_cells_tmp rfl _ _ _ rfl rfl (HQ.out.row pipZ.cells.toArray) Try.underlying54 rfl info_pip) rfl ?_
            exact np_bad HNO.out (below_setRow HB.out (Nat.le_refl _) _)
end Go.Proofs.Ytpchebclhjgcmaa
namespace Go.Proofs.Ytpchebclhjgcmaa
open Go.RowKit Go.Fl
set_option maxRecDepth 20000 in
set_option maxHeartbeats 4000000 in
theorem c_sNewPipe (g1 g2 : Nat) (zs : List Int) (ss : List Nat) (o : Bool) (keep loss : Nat) (w : World) (h1 : Row w g1 (jl zs) 2) (h2 : Blk w g2 ss 25) (hl1 : zs.length ≤ 1048576) (hl2 : ss.length ≤ 1048576) (h : npIn zs.length ss.length keep loss = true) :
    Calls Try.prog 26 #[.slice (some ⟨g1, 0, none⟩) zs.length zs.length, .slice (some ⟨g2, 0, none⟩) ss.length ss.length, .bool o, .float .f32 keep, .float .f32 loss] w (NpPost zs ss o keep loss w) := by
  have q2 : Row (w.alloc (.cells pipZ.cells.toArray 54)) w.heap.size pipZ.cells.toArray 54 := Row.new _ _ _ _ rfl
  have hb0 := Go.Joins.below_alloc1 w (.cells pipZ.cells.toArray 54)
  have HB := Lib.hid hb0; have HQ := Lib.hid q2; have HI := Lib.hid (h1.below hb0 h1.lt); have HS := Lib.hid (h2.below hb0 h2.lt); have HL1 := Lib.hid hl1; have HL2 := Lib.hid hl2
  have CO : Hid (∀ W, Calls Try.prog 68 #[.float .f32 keep] W fun e w' => ∃ r, e = .returned (.agg #[.int .i64 1, .float .f32 r, .float .f32 keep, .float .f32 0, .float .f32 0, .float .f32 0]) ∧ cv .f32 r = cop .sub .f32 (cv .f32 1065353216) (cv .f32 keep) ∧ Below W.heap.size W w') := Lib.hid (fun W => c_sOnePole keep W)
  clear q2 hb0 h1 h2
  have hi1 : (zs.length : Int) ≤ 1048576 := by omega
  have hi2 : (ss.length : Int) ≤ 1048576 := by omega
  clear hl1 hl2
  have HNI := Lib.hid h
  obtain ⟨v1, v2, v3, v4⟩ := npIn_yes h
  clear h
  rw [keepB_two, Bool.and_eq_true] at v3
  rw [inR_two, Bool.and_eq_true] at v4
  obtain ⟨t0, t1⟩ := v3
  obtain ⟨t2, t3⟩ := v4
  unfold geB at t0 t2
  unfold ltB at t1
  unfold leB at t3
  generalize hn : zs.length = n at *
  generalize hm : ss.length = m at *
  have HN := Lib.hid hn; have HM := Lib.hid hm; clear hn hm
  have V1 := Lib.hid v1; clear v1
  have hq1 : ((m : Int) == (n : Int) - 1) = true := beq_iff_eq.2 v2
  have hq2 : decide ((m : Int) = (n : Int) - 1) = true := decide_eq_true v2
  have hn0 : (1 : Int) ≤ n := by have := inB_true' V1.out; omega
  have HN3 := Lib.hid (show n ≤ 3 by have := inB_true' V1.out; omega)
  clear v2
  go_enter Try.func26, Try.ntmps26
  go_wp2_with (go_at_call 67; refine (c_l00In _ _ _ _ _ V1.out).mono ?_; rintro e wz ⟨rfl, rfl⟩)
  go_loopw [12, 13] (fun b i wr => ∃ k : Nat, k ≤ n ∧ i = .int .i64 k ∧ b = .bool (npL (zs.take k)) ∧ Hid (Below w.heap.size w wr) ∧ Hid (Row wr w.heap.size pipZ.cells.toArray 54) ∧ Hid (Row wr g1 (jl zs) 2) ∧ Hid (Blk wr g2 ss 25)) (fun _ i _ => n - (intOf i).toNat)
  case atStart => exact ⟨0, by omega, rfl, rfl, HB, HQ, HI, HS⟩
  case round =>
    clear HB HQ HI HS
    obtain ⟨k, hk, rfl, rfl, HB, HQ, HI, HS⟩ := hrel
    have hk0 : (0 : Int) ≤ k := by omega
    cases hv : npL (zs.take k)
    · have HNO := Lib.hid (np_notL (ss := ss) (keep := keep) (loss := loss) (npL_bad hv)); clear hv
      by_cases hlt : k < n
      · have hk1 : (k : Int) < n := by omega
        go_wp2_with fail
        go_loopw [12, 14] (fun b i wr => i = .int .i64 0 ∧ b = .bool false ∧ Hid (Below w.heap.size w wr) ∧ Hid (Row wr w.heap.size pipZ.cells.toArray 54) ∧ Hid (Row wr g1 (jl zs) 2) ∧ Hid (Blk wr g2 ss 25)) (fun _ _ _ => 0)
        case atStart => exact ⟨rfl, rfl, HB, HQ, HI, HS⟩
        case round =>
          clear HB HQ HI HS
          obtain ⟨rfl, rfl, HB, HQ, HI, HS⟩ := hrel
          by_cases hlz : 0 < m
          · have hk2 : (0 : Int) < m := by omega
            go_wp2_with (refine wpList_store_cells (cells := pipZ.cells.toArray) rfl 54 _ _ rfl _ rfl rfl HQ.out info_pip rfl rfl ?_)
            refine bodyPost_ret (results_cells_tmp rfl _ _ _ rfl rfl (HQ.out.row pipZ.cells.toArray) Try.underlying54 rfl info_pip) rfl ?_
            exact np_bad HNO.out (below_setRow HB.out (Nat.le_refl _) _)
          · skip
            have hk2 : ¬ (0 : Int) < m := by omega
            go_wp2_with (refine wpList_store_cells (cells := pipZ.cells.toArray) rfl 54 _ _ rfl _ rfl rfl HQ.out info_pip rfl rfl ?_)
            refine bodyPost_ret (results_cells_tmp rfl _ _ _ rfl rfl (HQ.out.row pipZ.cells.toArray) Try.underlying54 rfl info_pip) rfl ?_
            exact np_bad HNO.out (below_setRow HB.out (Nat.le_refl _) _)
      · have hk1 : ¬ (k : Int) < n := by omega
        go_wp2_with fail
        go_loopw [12, 14] (fun b i wr => i = .int .i64 0 ∧ b = .bool false ∧ Hid (Below w.heap.size w wr) ∧ Hid (Row wr w.heap.size pipZ.cells.toArray 54) ∧ Hid (Row wr g1 (jl zs) 2) ∧ Hid (Blk wr g2 ss 25)) (fun _ _ _ => 0)
        case atStart => exact ⟨rfl, rfl, HB, HQ, HI, HS⟩
        case round =>
          clear HB HQ HI HS
          obtain ⟨rfl, rfl, HB, HQ, HI, HS⟩ := hrel
          by_cases hlz : 0 < m
          · have hk2 : (0 : Int) < m := by omega
            go_wp2_with (refine wpList_store_cells (cells := pipZ.cells.toArray) rfl 54 _ _ rfl _ rfl rfl HQ.out info_pip rfl rfl ?_)
            refine bodyPost_ret (results_cells_tmp rfl _ _ _ rfl rfl (HQ.out.row pipZ.cells.toArray) Try.underlying54 rfl info_pip) rfl ?_
            exact np_bad HNO.out (below_setRow HB.out (Nat.le_refl _) _)
          · skip
            have hk2 : ¬ (0 : Int) < m := by omega
            go_wp2_with (refine wpList_store_cells (cells := pipZ.cells.toArray) rfl 54 _ _ rfl _ rfl rfl HQ.out info_pip rfl rfl ?_)
            refine bodyPost_ret (results_cells_tmp rfl _ _ _ rfl rfl (HQ.out.row pipZ.cells.toArray) Try.underlying54 rfl info_pip) rfl ?_
            exact np_bad HNO.out (below_setRow HB.out (Nat.le_refl _) _)
    by_cases hlt : k < n
    · have cz := HI.out.cell k _ (jl_get zs k (by rw [HN.out]; exact hlt))
      have hk2 : (k : Int) < n := by omega
      have e := npL_succ (zs := zs) (k := k) (by rw [HN.out]; exact hlt)
      rw [hv, Bool.true_and] at e
      have HE := Lib.hid e; clear e hv
      go_wp2_with (go_at_call 67; refine (c_l00In _ _ _ _ _ HE.out.symm).mono ?_; rintro e wz ⟨rfl, rfl⟩)
      go_roundw
      case rel => exact ⟨k + 1, by omega, by go_num, rfl, HB, HQ, HI, HS⟩
      case measure => simp [intOf]; omega
    have e : n = k := by omega
    subst e
    have HLK : Hid (npL zs = true) := Lib.hid (by rwa [List.take_of_length_le (by rw [HN.out]; exact Nat.le_refl _)] at hv)
    clear hv
    have hk1 : ¬ (n : Int) < n := by omega
    go_wp2_with fail
    go_loopw [12, 14] (fun b i wr => ∃ k : Nat, k ≤ m ∧ i = .int .i64 k ∧ b = .bool (npS (ss.take k)) ∧ Hid (Below w.heap.size w wr) ∧ Hid (Row wr w.heap.size pipZ.cells.toArray 54) ∧ Hid (Row wr g1 (jl zs) 2) ∧ Hid (Blk wr g2 ss 25)) (fun _ i _ => m - (intOf i).toNat)
    case atStart => exact ⟨0, by omega, rfl, rfl, HB, HQ, HI, HS⟩
    case round =>
      clear HB HQ HI HS hk1
      obtain ⟨k, hk, rfl, rfl, HB, HQ, HI, HS⟩ := hrel
      have hk0 : (0 : Int) ≤ k := by omega
      cases hv : npS (ss.take k)
      · have HNO := Lib.hid (np_notS (zs := zs) (keep := keep) (loss := loss) (npS_bad hv)); clear hv
        by_cases hlt : k < m
        · have hk1 : (k : Int) < m := by omega
          go_wp2_with (refine wpList_store_cells (cells := pipZ.cells.toArray) rfl 54 _ _ rfl _ rfl rfl HQ.out info_pip rfl rfl ?_)
          refine bodyPost_ret (results_cells_tmp rfl _ _ _ rfl rfl (HQ.out.row pipZ.cells.toArray) Try.underlying54 rfl info_pip) rfl ?_
          exact np_bad HNO.out (below_setRow HB.out (Nat.le_refl _) _)
        · have hk1 : ¬ (k : Int) < m := by omega
          go_wp2_with (refine wpList_store_cells (cells := pipZ.cells.toArray) rfl 54 _ _ rfl _ rfl rfl HQ.out info_pip rfl rfl ?_)
          refine bodyPost_ret (results_cells_tmp rfl _ _ _ rfl rfl (HQ.out.row pipZ.cells.toArray) Try.underlying54 rfl info_pip) rfl ?_
          exact np_bad HNO.out (below_setRow HB.out (Nat.le_refl _) _)
      by_cases hlt : k < m
      · have c1 := HS.out.cell k (by rw [HM.out]; exact hlt)
        have hk2 : (k : Int) < m := by omega
        have e := npS_succ (ss := ss) (k := k) (by rw [HM.out]; exact hlt)
        rw [hv, Bool.true_and, inR_two] at e
        clear hv
        cases hg : geB (nth ss k) 3212836864
        · rw [hg, Bool.false_and] at e
          have HE := Lib.hid e; clear e
          unfold geB at hg
          go_wp2
          go_roundw
          case rel => exact ⟨k + 1, by omega, by go_num, by rw [HE.out], HB, HQ, HI, HS⟩
          case measure => simp [intOf]; omega
        rw [hg, Bool.true_and] at e
        unfold geB at hg
        cases hl : leB (nth ss k) 1065353216
        all_goals
          rw [hl] at e
          have HE := Lib.hid e; clear e
          unfold leB at hl
          go_wp2
          go_roundw
          case rel => exact ⟨k + 1, by omega, by go_num, by rw [HE.out], HB, HQ, HI, HS⟩
          case measure => simp [intOf]; omega
      have e : m = k := by omega
      subst e
      have HSS : Hid (npS ss = true) := Lib.hid (by rwa [List.take_of_length_le (by rw [HM.out]; exact Nat.le_refl _)] at hv)
      clear hv
      have hk1 : ¬ (m : Int) < m := by omega
      have o1 : Own (wr.alloc (.cells #[] 25)) wr.heap.size (some ⟨wr.heap.size, 0, none⟩) 0 [] 25 := Own.of_blk (xs := []) (Blk.newRow wr [] #[] 25 _ rfl rfl) (Nat.le_refl _) (by simp [maxLen])
      have b := Go.Joins.below_alloc1 wr (.cells #[] 25)
      have HO1 := Lib.hid o1; clear o1
      have HZW := Lib.hid HQ.out.lt; have HZI := Lib.hid HI.out.lt; have HZS := Lib.hid HS.out.lt
      replace HB := Lib.hid (seq_below HB.out b); replace HQ := Lib.hid (HQ.out.below b HQ.out.lt); replace HI := Lib.hid (HI.out.below b HI.out.lt); replace HS := Lib.hid (HS.out.below b HS.out.lt); have HBZ := Lib.hid b.size; clear b
      go_wp2_with (at_builtin; refine wpList_append_slP rfl _ _ 22 rfl wr.heap.size 25 Try.underlying22 info_f32e (n := 0) (xs := []) rfl rfl HO1.out (ys := ss) HM.out rfl (sl_blk HS.out) (by have := HL2.out; omega) HBZ.out ?_; intro A3 c3 w3 ho2' hg2'; have HO2 := Lib.hid ho2'; have HG2 := Lib.hid hg2'; clear ho2' hg2'; rw [Nat.zero_add])
      have b : Below wr.heap.size _ w3 := below_grownBy HG2.out HBZ.out HO1.out.ge
      have HA3 : Hid (Own w3 w.heap.size A3 c3 ss 25) := Lib.hid ((show Own w3 wr.heap.size A3 c3 ss 25 from HO2.out).mono (Nat.le_of_lt HZW.out))
      have HA5 : Hid (∀ x, ownBlk A3 = some x → w.heap.size < x) := Lib.hid (fun x hx => Nat.lt_of_lt_of_le HZW.out (HO2.out.ge x hx))
      replace HB := Lib.hid (HB.out.trans (b.mono (Nat.le_of_lt HZW.out))); replace HQ := Lib.hid (HQ.out.below b HZW.out); replace HI := Lib.hid (HI.out.below b HZI.out); replace HS := Lib.hid (HS.out.below b HZS.out)
      clear b HO1 HO2 HG2 HZW HZI HZS HBZ
      go_wp2_with fail
      refine (CO.out _).mono ?_; rintro e w4 ⟨r, rfl, hr, b⟩
      have HR := Lib.hid hr; clear hr
      replace HB := Lib.hid (seq_below HB.out b); replace HQ := Lib.hid (HQ.out.below b HQ.out.lt); replace HI := Lib.hid (HI.out.below b HI.out.lt); replace HS := Lib.hid (HS.out.below b HS.out.lt); replace HA3 := Lib.hid (HA3.out.below b (Nat.le_refl _)); clear b
      go_wp2_with (refine at_store 54 rfl ?_)
      refine unstop ?_
      refine wpList_store_newest (cells := #[.slice none 0 0, .slice none 0 0, .slice A3 m c3, .int .i64 1, .float .f32 r, .float .f32 keep, .float .f32 0, .float .f32 0, .float .f32 0, .bool o, .float .f32 loss, .float .f32 1061158912, .float .f32 3200253952]) rfl 54 _ _ rfl rfl rfl info_pip rfl rfl (fun wx b q9 => ?_)
      have HGT : Hid (w.heap.size < w4.heap.size ∧ g1 < w4.heap.size ∧ g2 < w4.heap.size) := Lib.hid ⟨HQ.out.lt, HI.out.lt, HS.out.lt⟩
      have HA4 := Lib.hid (fun x hx => (⟨HA5.out x hx, HA3.out.lt x hx⟩ : w.heap.size < x ∧ x < w4.heap.size))
      replace HB := Lib.hid (seq_below HB.out b); replace HQ := Lib.hid (HQ.out.below b HQ.out.lt); replace HI := Lib.hid (HI.out.below b HI.out.lt); replace HS := Lib.hid (HS.out.below b HS.out.lt); replace HA3 := Lib.hid (HA3.out.below b (Nat.le_refl _)); clear b
      obtain ⟨G, hG⟩ : ∃ G, G = w4.heap.size := ⟨_, rfl⟩
      rw [← hG] at q9 HGT HA4 ⊢
      clear hG
      have HNB : Hid (NpB w G g1 g2 zs ss A3 c3 wx) := Lib.hid ⟨HGT.out, HA4.out, HB.out, HQ.out, HI.out, HS.out, HA3.out⟩
      have HNP : Hid (Row wx G (pipC none 0 0 none 0 0 A3 m c3 ⟨1, r, keep, 0, 0, 0⟩ o loss 1061158912 3200253952).toArray 54) := Lib.hid q9
      clear q9 HB HQ HI HS HA3 HGT HA4 HA5 CO hk1
      go_wp2_with fail
      go_loopw [16] (fun i wr => ∃ (k : Nat) (A1 : Option Addr) (c1 : Nat) (rs : List RingV) (b1 : Nat → Nat) (A2 : Option Addr) (c2 : Nat) (qs : List RingV) (b2 : Nat → Nat), k ≤ n ∧ i = .int .i64 k ∧ Hid (RingsTo rs zs k) ∧ Hid (RingsTo qs zs k) ∧ Hid (NpB w G g1 g2 zs ss A3 c3 wr) ∧ Hid (NpR G A1 c1 rs b1 A2 c2 qs b2 wr) ∧ Hid (Row wr G (pipC A1 k c1 A2 k c2 A3 m c3 ⟨1, r, keep, 0, 0, 0⟩ o loss 1061158912 3200253952).toArray 54)) (fun i _ => n - (intOf i).toNat)
      case atStart => exact ⟨0, none, 0, [], fun _ => 0, none, 0, [], fun _ => 0, by omega, rfl, RingsTo.nil _, RingsTo.nil _, HNB, NpR.nils _ _, HNP⟩
      case round =>
        clear HNB HNP
        obtain ⟨k, A1, c1, rs, b1, A2, c2, qs, b2, hk, rfl, HR1, HR2, HNB, HNR, HNP⟩ := hrel
        have hk0 : (0 : Int) ≤ k := by omega
        by_cases hlt : k < n
        · have hk2 : (k : Int) < n := by omega
          have hv : inB (nthJ zs k) 1 1024 = true := by
            have h0 := npL_succ (zs := zs) (k := k) (by rw [HN.out]; exact hlt)
            cases h1 : inB (nthJ zs k) 1 1024
            · rw [h1, Bool.and_false] at h0
              have h2 := HLK.out
              rw [npL_bad h0] at h2; cases h2
            · rfl
          have hv2 := inB_true' hv
          obtain ⟨l, hl⟩ : ∃ l : Nat, nthJ zs k = l := ⟨(nthJ zs k).toNat, by omega⟩
          have HLV : Hid ((nthJ zs k).toNat = l) := Lib.hid (by omega)
          have HLL : Hid (1 ≤ l ∧ l ≤ 1024) := Lib.hid (by omega)
          have HJ : Hid (∀ W, Row W g1 (jl zs) 2 → W.cell? ⟨g1, k, none⟩ = some (.int .i64 l)) := Lib.hid (fun W hW => by have h0 := hW.cell k _ (jl_get zs k (by rw [HN.out]; exact hlt)); rwa [hl] at h0)
          clear hv hv2 hl
          have HMK := Lib.hid (fun W => run_make_row' (P := Try.prog) 22 25 (.float .f32 0) 4 Try.underlying22 info_f32e rfl .i64 .i64 l (by have := HLL.out; omega) (by have := HLL.out; omega) W)
          go_wp2_with fail
          have b := (Below.refl wr.heap.size wr).drew
          replace HNB := Lib.hid (HNB.out.down b); replace HNR := Lib.hid (HNR.out.down b); replace HNP := Lib.hid (HNP.out.below b HNP.out.lt); clear b
          refine wp_region_roadB [11] (S := fun W => Row W G (pipC A1 k c1 A2 k c2 A3 m c3 ⟨1, r, keep, 0, 0, 0⟩ o loss 1061158912 3200253952).toArray 54 ∧ Row W g1 (jl zs) 2) (R := fun _ => True) (.sure 0 (.held 1 (.sure 2 (.sure 3 (.sure 4 (.held 5 (.one 6 (.sure 7 (.one 8 (.one 9 (.sure 10 (.one 11 .nil)))))))))))) (by kernel_rfl) (by kernel_rfl) (by kernel_rfl) (fun _ _ d _ _ h => by cases d <;> exact h) ?_
          generalize wr.drew = a0 at *
          refine wpRoadB_sure (v := .pointer (some ⟨G, 0, none⟩)) rfl rfl (.inl ⟨rfl, fun w' hw => by go_simp⟩) _ (by simp only [List.setIfInBounds_toArray, List.set_cons_zero, List.set_cons_succ]; rfl) ?_
          refine wpRoadB_held (v := .slice A1 k c1) rfl rfl ⟨HNP.out, HNB.out.ints⟩ (.inl ⟨rfl, fun W hW => by have k0 : W.cell? ⟨G, 0, none⟩ = some (.slice A1 k c1) := Row.cell hW.1 0 _ rfl; go_simp⟩) _ (by simp only [List.setIfInBounds_toArray, List.set_cons_zero, List.set_cons_succ]; rfl) ?_
          refine wpRoadB_sure (v := .slice (some ⟨g1, 0, none⟩) n n) rfl rfl (.inl ⟨rfl, fun w' hw => by go_simp⟩) _ (by simp only [List.setIfInBounds_toArray, List.set_cons_zero, List.set_cons_succ]; rfl) ?_
          refine wpRoadB_sure (v := .int .i64 k) rfl rfl (.inl ⟨rfl, fun w' hw => by go_simp⟩) _ (by simp only [List.setIfInBounds_toArray, List.set_cons_zero, List.set_cons_succ]; rfl) ?_
          refine wpRoadB_sure (v := .pointer (some ⟨g1, k, none⟩)) rfl rfl (.inl ⟨rfl, fun w' hw => by go_simp⟩) _ (by simp only [List.setIfInBounds_toArray, List.set_cons_zero, List.set_cons_succ]; rfl) ?_
          refine wpRoadB_held (v := .int .i64 l) rfl rfl ⟨HNP.out, HNB.out.ints⟩ (.inl ⟨rfl, fun W hW => by have k0 := HJ.out W hW.2; go_simp⟩) _ (by simp only [List.setIfInBounds_toArray, List.set_cons_zero, List.set_cons_succ]; rfl) ?_
          refine wpRoadB_one rfl rfl (fun K hK => ?_)
          have hmk := HMK.out
          go_wp2_with fail
          clear hmk
          have b := Go.Joins.below_alloc1 a0 (.cells (madeCells #[.float .f32 0] l) 25)
          have HZ : Hid (Blk (a0.alloc (.cells (madeCells #[.float .f32 0] l) 25)) a0.heap.size (List.replicate l 0) 25) := Lib.hid (Blk.newRow _ _ _ _ _ rfl (made_fl l))
          have HLT1 := Lib.hid HNR.out.lt1; have HLT2 := Lib.hid HNR.out.lt2; have HGG := Lib.hid (show G + 1 ≤ _ from HNP.out.lt)
          replace HNB := Lib.hid (HNB.out.down b); replace HNR := Lib.hid (HNR.out.down b); replace HNP := Lib.hid (HNP.out.below b HNP.out.lt)
          refine ⟨⟨fun _ hs => ⟨hs.1.below b hs.1.lt, hs.2.below b hs.2.lt⟩, fun _ => trivial⟩, ?_⟩; clear b
          generalize a0.alloc (.cells (madeCells #[.float .f32 0] l) 25) = a1 at *
          obtain ⟨gr, hgg⟩ : ∃ x, x = a0.heap.size := ⟨_, rfl⟩
          rw [← hgg] at HZ HLT1 HLT2 HGG ⊢
          clear hgg
          refine wpRoadB_sure (v := .agg #[.slice (some ⟨gr, 0, none⟩) l l, .int .i64 0]) rfl rfl (.inl ⟨rfl, fun w' hw => by go_simp⟩) _ (by simp only [List.setIfInBounds_toArray, List.set_cons_zero, List.set_cons_succ]; rfl) ?_
          refine wpRoadB_one rfl rfl (fun K hK => ?_)
          go_wp2_with fail
          have P3 : Row (a1.alloc (.cells #[.slice (some ⟨gr, 0, none⟩) l l, .int .i64 0] 34)) a1.heap.size #[.slice (some ⟨gr, 0, none⟩) l l, .int .i64 0] 34 := Row.new _ _ _ _ rfl
          have b := Go.Joins.below_alloc1 a1 (.cells #[.slice (some ⟨gr, 0, none⟩) l l, .int .i64 0] 34)
          refine ⟨⟨fun _ hs => ⟨hs.1.below b hs.1.lt, hs.2.below b hs.2.lt⟩, fun _ => trivial⟩, ?_⟩
          replace HNB := Lib.hid (HNB.out.down b); replace HNR := Lib.hid (HNR.out.down b); replace HNP := Lib.hid (HNP.out.below b HNP.out.lt); replace HZ := Lib.hid (HZ.out.below b HZ.out.lt); clear b
          generalize a1.alloc (.cells #[.slice (some ⟨gr, 0, none⟩) l l, .int .i64 0] 34) = a2 at *
          generalize a1.heap.size = yP at *
          refine wpRoadB_one rfl rfl (fun K hK => ?_)
          have HO : OwnR a2 (G + 1) A1 c1 k (fl2 rs) 34 2 := by have h0 := HNR.out.r.own; rwa [HR1.out.1] at h0
          refine wp_append_ownR _ _ 52 rfl (G + 1) 34 (.agg #[.slice none 0 0, .int .i64 0]) 2 32 Try.underlying52 info_ringe rfl (by decide) (n := k) rfl HO [.slice (some ⟨gr, 0, none⟩) l l, .int .i64 0] rfl (by intro u hu; simp only [List.mem_cons, List.not_mem_nil, or_false] at hu; rcases hu with rfl | rfl <;> rfl) rfl P3 (by have := HN3.out; omega) (by decide) HNP.out.lt ?_
          intro A1x c1x a3 hn hg _
          have hnG : ∀ x, x ≤ G → some x ≠ ownBlk A1 := fun x hx e => by have h0 := HO.ge x e.symm; omega
          refine hK (Act.mk (Array.setIfInBounds (List.toArray _) 105 _) _) _ ⟨⟨fun _ hs => ⟨hs.1.grown hg (hnG _ (Nat.le_refl _)), hs.2.grown hg (hnG _ (Nat.le_of_lt HNB.out.gt.2.1))⟩, fun _ => trivial⟩, ?_⟩; clear hK
          replace HNB := Lib.hid (HNB.out.step hg (fun x e => by have h0 := HO.ge x e; omega)); replace HNP := Lib.hid (HNP.out.grown hg (hnG _ (Nat.le_refl _)))
          replace HNR := Lib.hid (HNR.out.right (r := ⟨some ⟨gr, 0, none⟩, l, List.replicate l 0, 0⟩) (by rw [HR1.out.1]; simpa [rgC] using hn) hg rfl HGG.out HZ.out HLT1.out HLT2.out)
          clear hn hg hnG HO P3 HZ HLT1 HLT2 HGG
          refine wpRoadB_sure (v := .pointer (some ⟨G, 0, none⟩)) rfl rfl (.inl ⟨rfl, fun w' hw => by go_simp⟩) _ (by simp only [List.setIfInBounds_toArray, List.set_cons_zero, List.set_cons_succ]; rfl) ?_
          refine wpRoadB_one rfl rfl (fun K hK => ?_)
          refine wp_store_partV 52 _ _ rfl G 0 rfl [.slice A1x (k + 1) c1x] (.slice A1x (k + 1) c1x) rfl rfl HNP.out info_ringsS rfl rfl (pipC A1x (k + 1) c1x A2 k c2 A3 m c3 ⟨1, r, keep, 0, 0, 0⟩ o loss 1061158912 3200253952) rfl ?_
          intro a4 hg hp
          refine hK (Act.mk (List.toArray _) _) _ ⟨⟨fun hn => (hn (by decide)).elim, fun _ => trivial⟩, ?_⟩; clear hK
          replace HNB := Lib.hid (HNB.out.step hg (fun x e => by cases e; exact Nat.le_refl _)); replace HNR := Lib.hid (HNR.out.low hg (Nat.lt_succ_self _)); replace HNP : Hid (Row a4 G (pipC A1x (k + 1) c1x A2 k c2 A3 m c3 ⟨1, r, keep, 0, 0, 0⟩ o loss 1061158912 3200253952).toArray 54) := Lib.hid hp; clear hg hp
          refine wpRoadB_nil ?_
          go_wp2_with fail
          have b := (Below.refl a4.heap.size a4).drew
          replace HNB := Lib.hid (HNB.out.down b); replace HNR := Lib.hid (HNR.out.down b); replace HNP := Lib.hid (HNP.out.below b HNP.out.lt); clear b
          refine wp_region_roadB [11] (S := fun W => Row W G (pipC A1x (k + 1) c1x A2 k c2 A3 m c3 ⟨1, r, keep, 0, 0, 0⟩ o loss 1061158912 3200253952).toArray 54 ∧ Row W g1 (jl zs) 2) (R := fun _ => True) (.sure 0 (.held 1 (.sure 2 (.sure 3 (.sure 4 (.held 5 (.one 6 (.sure 7 (.one 8 (.one 9 (.sure 10 (.one 11 .nil)))))))))))) (by kernel_rfl) (by kernel_rfl) (by kernel_rfl) (fun _ _ d _ _ h => by cases d <;> exact h) ?_
          generalize a4.drew = b0 at *
          refine wpRoadB_sure (v := .pointer (some ⟨G, 1, none⟩)) rfl rfl (.inl ⟨rfl, fun w' hw => by go_simp⟩) _ (by simp only [List.setIfInBounds_toArray, List.set_cons_zero, List.set_cons_succ]; rfl) ?_
          refine wpRoadB_held (v := .slice A2 k c2) rfl rfl ⟨HNP.out, HNB.out.ints⟩ (.inl ⟨rfl, fun W hW => by have k0 : W.cell? ⟨G, 1, none⟩ = some (.slice A2 k c2) := Row.cell hW.1 1 _ rfl; go_simp⟩) _ (by simp only [List.setIfInBounds_toArray, List.set_cons_zero, List.set_cons_succ]; rfl) ?_
          refine wpRoadB_sure (v := .slice (some ⟨g1, 0, none⟩) n n) rfl rfl (.inl ⟨rfl, fun w' hw => by go_simp⟩) _ (by simp only [List.setIfInBounds_toArray, List.set_cons_zero, List.set_cons_succ]; rfl) ?_
          refine wpRoadB_sure (v := .int .i64 k) rfl rfl (.inl ⟨rfl, fun w' hw => by go_simp⟩) _ (by simp only [List.setIfInBounds_toArray, List.set_cons_zero, List.set_cons_succ]; rfl) ?_
          refine wpRoadB_sure (v := .pointer (some ⟨g1, k, none⟩)) rfl rfl (.inl ⟨rfl, fun w' hw => by go_simp⟩) _ (by simp only [List.setIfInBounds_toArray, List.set_cons_zero, List.set_cons_succ]; rfl) ?_
          refine wpRoadB_held (v := .int .i64 l) rfl rfl ⟨HNP.out, HNB.out.ints⟩ (.inl ⟨rfl, fun W hW => by have k0 := HJ.out W hW.2; go_simp⟩) _ (by simp only [List.setIfInBounds_toArray, List.set_cons_zero, List.set_cons_succ]; rfl) ?_
          refine wpRoadB_one rfl rfl (fun K hK => ?_)
          have hmk := HMK.out
          go_wp2_with fail
          clear hmk
          have b := Go.Joins.below_alloc1 b0 (.cells (madeCells #[.float .f32 0] l) 25)
          have HZ : Hid (Blk (b0.alloc (.cells (madeCells #[.float .f32 0] l) 25)) b0.heap.size (List.replicate l 0) 25) := Lib.hid (Blk.newRow _ _ _ _ _ rfl (made_fl l))
          have HLT1 := Lib.hid HNR.out.lt1; have HLT2 := Lib.hid HNR.out.lt2; have HGG := Lib.hid (show G + 1 ≤ _ from HNP.out.lt)
          replace HNB := Lib.hid (HNB.out.down b); replace HNR := Lib.hid (HNR.out.down b); replace HNP := Lib.hid (HNP.out.below b HNP.out.lt)
          refine ⟨⟨fun _ hs => ⟨hs.1.below b hs.1.lt, hs.2.below b hs.2.lt⟩, fun _ => trivial⟩, ?_⟩; clear b
          generalize b0.alloc (.cells (madeCells #[.float .f32 0] l) 25) = b1 at *
          obtain ⟨gq, hgg⟩ : ∃ x, x = b0.heap.size := ⟨_, rfl⟩
          rw [← hgg] at HZ HLT1 HLT2 HGG ⊢
          clear hgg
          refine wpRoadB_sure (v := .agg #[.slice (some ⟨gq, 0, none⟩) l l, .int .i64 0]) rfl rfl (.inl ⟨rfl, fun w' hw => by go_simp⟩) _ (by simp only [List.setIfInBounds_toArray, List.set_cons_zero, List.set_cons_succ]; rfl) ?_
          refine wpRoadB_one rfl rfl (fun K hK => ?_)
          go_wp2_with fail
          have P3 : Row (b1.alloc (.cells #[.slice (some ⟨gq, 0, none⟩) l l, .int .i64 0] 34)) b1.heap.size #[.slice (some ⟨gq, 0, none⟩) l l, .int .i64 0] 34 := Row.new _ _ _ _ rfl
          have b := Go.Joins.below_alloc1 b1 (.cells #[.slice (some ⟨gq, 0, none⟩) l l, .int .i64 0] 34)
          refine ⟨⟨fun _ hs => ⟨hs.1.below b hs.1.lt, hs.2.below b hs.2.lt⟩, fun _ => trivial⟩, ?_⟩
          replace HNB := Lib.hid (HNB.out.down b); replace HNR := Lib.hid (HNR.out.down b); replace HNP := Lib.hid (HNP.out.below b HNP.out.lt); replace HZ := Lib.hid (HZ.out.below b HZ.out.lt); clear b
          generalize b1.alloc (.cells #[.slice (some ⟨gq, 0, none⟩) l l, .int .i64 0] 34) = b2 at *
          generalize b1.heap.size = yP at *
          refine wpRoadB_one rfl rfl (fun K hK => ?_)
          have HO : OwnR b2 (G + 1) A2 c2 k (fl2 qs) 34 2 := by have h0 := HNR.out.l.own; rwa [HR2.out.1] at h0
          refine wp_append_ownR _ _ 52 rfl (G + 1) 34 (.agg #[.slice none 0 0, .int .i64 0]) 2 32 Try.underlying52 info_ringe rfl (by decide) (n := k) rfl HO [.slice (some ⟨gq, 0, none⟩) l l, .int .i64 0] rfl (by intro u hu; simp only [List.mem_cons, List.not_mem_nil, or_false] at hu; rcases hu with rfl | rfl <;> rfl) rfl P3 (by have := HN3.out; omega) (by decide) HNP.out.lt ?_
          intro A2x c2x b3 hn hg _
          have hnG : ∀ x, x ≤ G → some x ≠ ownBlk A2 := fun x hx e => by have h0 := HO.ge x e.symm; omega
          refine hK (Act.mk (Array.setIfInBounds (List.toArray _) 116 _) _) _ ⟨⟨fun _ hs => ⟨hs.1.grown hg (hnG _ (Nat.le_refl _)), hs.2.grown hg (hnG _ (Nat.le_of_lt HNB.out.gt.2.1))⟩, fun _ => trivial⟩, ?_⟩; clear hK
          replace HNB := Lib.hid (HNB.out.step hg (fun x e => by have h0 := HO.ge x e; omega)); replace HNP := Lib.hid (HNP.out.grown hg (hnG _ (Nat.le_refl _)))
          replace HNR := Lib.hid (HNR.out.left (r := ⟨some ⟨gq, 0, none⟩, l, List.replicate l 0, 0⟩) (by rw [HR2.out.1]; simpa [rgC] using hn) hg rfl HGG.out HZ.out HLT1.out HLT2.out)
          clear hn hg hnG HO P3 HZ HLT1 HLT2 HGG
          refine wpRoadB_sure (v := .pointer (some ⟨G, 1, none⟩)) rfl rfl (.inl ⟨rfl, fun w' hw => by go_simp⟩) _ (by simp only [List.setIfInBounds_toArray, List.set_cons_zero, List.set_cons_succ]; rfl) ?_
          refine wpRoadB_one rfl rfl (fun K hK => ?_)
          refine wp_store_partV 52 _ _ rfl G 1 rfl [.slice A2x (k + 1) c2x] (.slice A2x (k + 1) c2x) rfl rfl HNP.out info_ringsS rfl rfl (pipC A1x (k + 1) c1x A2x (k + 1) c2x A3 m c3 ⟨1, r, keep, 0, 0, 0⟩ o loss 1061158912 3200253952) rfl ?_
          intro b4 hg hp
          refine hK (Act.mk (List.toArray _) _) _ ⟨⟨fun hn => (hn (by decide)).elim, fun _ => trivial⟩, ?_⟩; clear hK
          replace HNB := Lib.hid (HNB.out.step hg (fun x e => by cases e; exact Nat.le_refl _)); replace HNR := Lib.hid (HNR.out.low hg (Nat.lt_succ_self _)); replace HNP : Hid (Row b4 G (pipC A1x (k + 1) c1x A2x (k + 1) c2x A3 m c3 ⟨1, r, keep, 0, 0, 0⟩ o loss 1061158912 3200253952).toArray 54) := Lib.hid hp; clear hg hp
          refine wpRoadB_nil ?_
          go_wp2_with fail
          go_roundw
          case rel => exact ⟨k + 1, A1x, c1x, rs ++ [⟨some ⟨gr, 0, none⟩, l, List.replicate l 0, 0⟩], _, A2x, c2x, qs ++ [⟨some ⟨gq, 0, none⟩, l, List.replicate l 0, 0⟩], _, by omega, by go_num, HR1.out.snoc (by rw [HLV.out]) rfl, HR2.out.snoc (by rw [HLV.out]) rfl, HNB, HNR, HNP⟩
          case measure => simp [intOf]; omega
        have e : n = k := by omega
        subst e
        have hk1 : ¬ (n : Int) < n := by omega
        have HOK := Lib.hid (np_yes (zs := zs) (ss := ss) (keep := keep) (loss := loss) (by rw [HN.out, HM.out]; exact HNI.out) HSS.out HLK.out)
        go_wp2_with (first
          | (refine wpList_load_cells rfl 54 _ rfl _ rfl HNP.out Try.underlying54 rfl info_pip ?_)
          | (refine wpList_store_cells (cells := (pipC A1 n c1 A2 n c2 A3 m c3 ⟨1, r, keep, 0, 0, 0⟩ o loss 1061158912 3200253952).toArray) rfl 54 _ _ rfl _ rfl rfl HNB.out.zero info_pip rfl rfl ?_))
        have hg := grownBy_setRow wr w.heap.size (pipC A1 n c1 A2 n c2 A3 m c3 ⟨1, r, keep, 0, 0, 0⟩ o loss 1061158912 3200253952).toArray
        have hgt := HNB.out.gt.1
        obtain ⟨G1, G2, hpo⟩ := np_po (p := ⟨A1, c1, rs, A2, c2, qs, A3, c3, ss, ⟨1, r, keep, 0, 0, 0⟩, o, loss, 1061158912, 3200253952⟩) hgt HNB.out.a3 (HNB.out.own.kept hg (fun x hx e => by have h0 := HNB.out.a3 x hx; have := Option.some.inj e; omega)) (HNR.out.low hg (by omega)) rfl rfl rfl
        refine bodyPost_ret (results_cells_tmp rfl _ _ _ rfl rfl (HNB.out.zero.row (pipC A1 n c1 A2 n c2 A3 m c3 ⟨1, r, keep, 0, 0, 0⟩ o loss 1061158912 3200253952).toArray) Try.underlying54 rfl info_pip) rfl ?_
        refine ⟨⟨A1, c1, rs, A2, c2, qs, A3, c3, ss, ⟨1, r, keep, 0, 0, 0⟩, o, loss, 1061158912, 3200253952⟩, G1, b1, G2, b2, 0, ?_, hpo, .inl ⟨HOK.out, by rw [HN.out]; exact HR1.out, by rw [HN.out]; exact HR2.out, rfl, ⟨r, rfl, HR.out⟩, rfl, rfl, rfl, rfl, rfl⟩, below_setRow HNB.out.below (Nat.le_refl _) _⟩
        unfold PipV.cells
        simp only [HR1.out.1, HR2.out.1, HM.out]
        rfl
end Go.Proofs.Ytpchebclhjgcmaa
namespace Go.ChangeShapes
open Go.WideShapes
theorem trodAll_five {H : Type} {enc : TypeId × Value → H} {P : Program} {w : World} {base : Nat} {spare : Nat → Bool} {held : Bool} {t0 t1 t2 t3 t4 : TypeId} {args : Array Value} {ds : List (DataW H)} {ps : List MemPlace} (h : DataW.TrodAll enc P w base spare held [t0, t1, t2, t3, t4] args.toList ds ps) :
    ∃ v0 v1 v2 v3 v4 d0 d1 d2 d3 d4 p0 p1 p2 p3 p4, args = #[v0, v1, v2, v3, v4] ∧ ds = [d0, d1, d2, d3, d4] ∧ ps = p0 ++ (p1 ++ (p2 ++ (p3 ++ p4))) ∧ DataW.Trod enc P w base spare held t0 v0 d0 p0 ∧ DataW.Trod enc P w base spare held t1 v1 d1 p1 ∧ DataW.Trod enc P w base spare held t2 v2 d2 p2 ∧ DataW.Trod enc P w base spare held t3 v3 d3 p3 ∧ DataW.Trod enc P w base spare held t4 v4 d4 p4 := by
  obtain ⟨v0, l0, d0, e0, p0, q0, ha, rfl, rfl, h0, r0⟩ := trodAll_cons h
  obtain ⟨v1, l1, d1, e1, p1, q1, rfl, rfl, rfl, h1, r1⟩ := trodAll_cons r0
  obtain ⟨v2, l2, d2, e2, p2, q2, rfl, rfl, rfl, h2, r2⟩ := trodAll_cons r1
  obtain ⟨v3, l3, d3, e3, p3, q3, rfl, rfl, rfl, h3, r3⟩ := trodAll_cons r2
  obtain ⟨v4, l4, d4, e4, p4, q4, rfl, rfl, rfl, h4, r4⟩ := trodAll_cons r3
  obtain ⟨rfl, rfl, rfl⟩ := trodAll_nil r4
  exact ⟨v0, v1, v2, v3, v4, d0, d1, d2, d3, d4, p0, p1, p2, p3, p4, by cases args; simp_all, rfl, by simp, h0, h1, h2, h3, h4⟩
end Go.ChangeShapes
