/- Slices of one's own, of any elements: appended to. No condition. -/
import Derived.Test.YtpchebclhjgcmaaTa
namespace Go.Fl
open Go.RowKit
/-- A slice of one's own that holds these cells. -/
def OwnR (w : World) (base : Nat) (A : Option Addr) (c n : Nat) (cs : List Value) (t : TypeId) (size : Nat) : Prop := w.ownsRow base t size (.slice A n c) n cs
section
variable {P : Program} {w w' : World} {base : Nat} {A : Option Addr} {c n : Nat} {cs : List Value} {t : TypeId} {size : Nat}
theorem OwnR.nil (w : World) (base : Nat) (t : TypeId) (size : Nat) : OwnR w base none 0 0 [] t size := World.ownsRow_nil ..
theorem OwnR.of_row {v : Value} (h : w.ownsRow base t size v n cs) : ∃ A c, v = .slice A n c ∧ OwnR w base A c n cs t size := by
  rcases h.2 with ⟨rfl, h0⟩ | ⟨g, cap, cur, rfl, _⟩
  · subst h0; exact ⟨none, 0, rfl, h⟩
  · exact ⟨_, cap, rfl, h⟩
theorem own_blockR : (Value.slice A n c).ownBlock = ownBlk A := by cases A <;> rfl
theorem OwnR.kept (h : OwnR w base A c n cs t size) {row : Option Nat} (hg : w.grownBy w' row) (hne : ∀ k, ownBlk A = some k → some k ≠ row) : OwnR w' base A c n cs t size := by
  refine World.ownsRow.kept h hg ?_
  rw [own_blockR]
  cases hA : ownBlk A with
  | none => exact .inl rfl
  | some k => exact .inr (hne k hA)
theorem OwnR.below (h : OwnR w base A c n cs t size) {B : Nat} (hb : Below B w w') (hB : w.heap.size ≤ B) : OwnR w' base A c n cs t size :=
  h.kept (row := none) ⟨hb.os, hb.tape, hb.output, hb.size, fun k hk _ => hb.block k (Nat.lt_of_lt_of_le hk hB)⟩ (fun k _ => by simp)
theorem OwnR.ge (h : OwnR w base A c n cs t size) : ∀ k, ownBlk A = some k → base ≤ k := fun k hk => (World.ownsRow.lt h k (by rw [own_blockR]; exact hk)).1
theorem OwnR.lt (h : OwnR w base A c n cs t size) : ∀ k, ownBlk A = some k → k < w.heap.size := fun k hk => (World.ownsRow.lt h k (by rw [own_blockR]; exact hk)).2
theorem OwnR.mono (h : OwnR w base A c n cs t size) {b : Nat} (hb : b ≤ base) : OwnR w b A c n cs t size := by
  refine ⟨h.1, ?_⟩
  rcases h.2 with h1 | ⟨g, cap, cur, h1, h2, h3⟩
  · exact .inl h1
  · exact .inr ⟨g, cap, cur, h1, by omega, h3⟩
theorem OwnR.cell {g : Nat} (h : OwnR w base (some ⟨g, 0, none⟩) c n cs t size) (j : Nat) (u : Value) (hu : cs[j]? = some u) : w.cell? ⟨g, j, none⟩ = some u := by
  have := World.ownsRow.cells h (g := g) rfl j u hu
  have e : (⟨g, 0, none⟩ : Addr).add j = ⟨g, j, none⟩ := by unfold Addr.add; split <;> simp_all
  rwa [e] at this
theorem OwnR.head (h : OwnR w base A c n cs t size) (hn : 0 < n) : ∃ g, A = some ⟨g, 0, none⟩ ∧ base ≤ g ∧ g < w.heap.size := by
  rcases h.2 with ⟨_, h0⟩ | ⟨g, cap, cur, h1, h2, h3, _⟩
  · omega
  · injection h1 with h1
    exact ⟨g, h1, h2, (Array.getElem?_eq_some_iff.1 h3).1⟩
theorem OwnR.cap (h : OwnR w base A c n cs t size) : n ≤ c := by
  rcases h.2 with ⟨h1, h0⟩ | ⟨g, cap, cur, h1, h2, h3, h4, _⟩
  · omega
  · injection h1 with _ _ h1
    omega
/-- The block, whole. -/
theorem OwnR.blk {g : Nat} (h : OwnR w base (some ⟨g, 0, none⟩) c n cs t size) : ∃ r, w.heap[g]? = some (.cells (cs ++ r).toArray t) := by
  rcases h.2 with ⟨h1, _⟩ | ⟨g', cap, cur, h1, h2, h3, h4, h5, h6, h7⟩
  · cases h1
  · injection h1 with h1
    cases h1
    refine ⟨cur.toList.drop (n * size), ?_⟩
    rw [← h7, List.take_append_drop]; exact h3
theorem wpList_append_oneR {ops : Array Oper} {rest : List Oper} {o : Oper} {a : Act} {Q : Exit → Act → World → Prop} {W : World} (hgd : o.guard = none) (s x : Operand) (t : TypeId)
    (ho : o.op = .call { callee := .builtin .append, args := #[s, x], argTypes := #[t, t] }) (base : Nat) (e : TypeId) (z : Value) (size bytes : Nat) (ht : P.underlying t = some (.slice e)) (hinfo : (P.info? e).map (fun i => (i.zero, i.size, i.bytes)) = some (some z, size, bytes))
    (hzs : z.cells.size = size) (hsz : 0 < size)
    {A : Option Addr} {c n : Nat} {cs : List Value} (hs : a.eval s = .slice A n c) (hown : OwnR W base A c n cs e size) (news : List Value) (hnl : news.length = size) (h1 : ∀ u ∈ news, u.oneCell' = true) (hx : a.eval x = .slice (some ⟨W.heap.size, 0, none⟩) 1 1)
    (h63 : n ≤ 8388608) (hby : bytes ≤ 1048576) (hbase : base ≤ W.heap.size)
    (h : ∀ A' c' w', OwnR w' base A' c' (n + 1) (cs ++ news) e size → W.grownBy w' (ownBlk A) → A' ≠ none → wpList P ops Q rest (a.put o.dst (.slice A' (n + 1) c')) w') : wpList P ops Q (o :: rest) a (W.alloc (.cells news.toArray e)) := by
  obtain ⟨i0, hi, hz0, hz1, hz2⟩ := info_parts hinfo
  have hrow : (W.alloc (.cells news.toArray e)).heap[W.heap.size]? = some (.cells news.toArray e) := heap_alloc_new W _
  refine wpList_append_own (W.alloc (.cells news.toArray e)) hgd s x t ho base e i0 z size bytes ht hi hz0 hz1 hz2 hzs hsz _ n cs hs (hown.kept (World.grownBy_alloc W _ none) (fun k hk => by simp)) ⟨W.heap.size, 0, none⟩ 1 1 news hx (by rw [hnl, Nat.one_mul]) ?_ h1 (by unfold maxLen; omega) ?_ (by simp; omega) ?_
  · intro j u hu
    have e2 : (⟨W.heap.size, 0, none⟩ : Addr).add j = ⟨W.heap.size, j, none⟩ := by unfold Addr.add; split <;> simp_all
    rw [e2, Go.Joins.cell_of_block hrow]
    simpa using hu
  · have h2 : (n + 1) * bytes ≤ 8388609 * 1048576 := Nat.mul_le_mul (by omega) hby
    omega
  · intro v' w2 hr hg hnil
    obtain ⟨A', c', rfl, h4⟩ := OwnR.of_row hr
    rw [own_blockR] at hg
    refine h A' c' w2 h4 (grownBy_trans (World.grownBy_alloc W _ _) hg) (fun e0 => ?_)
    subst e0
    rcases h4.2 with ⟨_, h6⟩ | ⟨g, cap, cur, h6, _⟩
    · omega
    · cases h6
end
end Go.Fl
