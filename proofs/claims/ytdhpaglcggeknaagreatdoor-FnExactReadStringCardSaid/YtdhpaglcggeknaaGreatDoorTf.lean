/- Append of one sample; breaths that become more or less. No condition. -/
import Derived.Test.YtdhpaglcggeknaaGreatDoorTe
namespace Go.Fl
open Go.RowKit
theorem Sl.of_blk0 {w : World} {g : Nat} {xs : List Nat} {t : TypeId} (h : Blk w g xs t) : Sl w (some ⟨g, 0, none⟩) xs := by
  refine .inr ⟨_, rfl, h.lt, fun k hk => ?_⟩
  have e : (⟨g, 0, none⟩ : Addr).add k = ⟨g, k, none⟩ := by
    unfold Addr.add
    by_cases h0 : k = 0
    · subst h0; simp
    · simp [h0]
  rw [e]; exact h.cell k hk
theorem wpList_append_one {P : Program} {ops : Array Oper} {rest : List Oper} {o : Oper} {a : Act} {Q : Exit → Act → World → Prop} {W : World} (hgd : o.guard = none) (s x : Operand) (t : TypeId)
    (ho : o.op = .call { callee := .builtin .append, args := #[s, x], argTypes := #[t, t] }) (base : Nat) (e : TypeId) (ht : P.underlying t = some (.slice e)) (hinfo : (P.info? e).map (fun i => (i.zero, i.size, i.bytes)) = some (some (.float .f32 0), 1, 4))
    {A : Option Addr} {c n X : Nat} {xs : List Nat} (hn : xs.length = n) (hs : a.eval s = .slice A n c) (hown : Own W base A c xs e) (hx : a.eval x = .slice (some ⟨W.heap.size, 0, none⟩) 1 1)
    (h63 : n ≤ 8388608) (hbase : base ≤ W.heap.size)
    (h : ∀ A' c' w', Own w' base A' c' (xs ++ [X]) e → W.grownBy w' (ownBlk A) → A' ≠ none → wpList P ops Q rest (a.put o.dst (.slice A' (n + 1) c')) w') : wpList P ops Q (o :: rest) a (W.alloc (.cells #[.float .f32 X] e)) := by
  subst hn
  refine wpList_append_sl hgd s x t ho base e ht hinfo hs (hown.kept (World.grownBy_alloc W _ none) (fun k hk => by simp)) (ys := [X]) hx (Sl.of_blk0 (Blk.new W [X] e _ rfl)) (by simp; omega) (by simp; omega) ?_
  intro A' c' w' h1 h2 h3
  exact h A' c' w' h1 (grownBy_trans (World.grownBy_alloc W _ _) h2) (fun e => by have := (h3.1 e).2; simp at this)
end Go.Fl
namespace Go.Proofs.YtdhpaglcggeknaaGreatDoor
open Go.RowKit Go.Fl
def rampC (a b : Nat) (i n : Int) : CF := cop .add .f32 (cv .f32 a) (cop .mul .f32 (cop .sub .f32 (cv .f32 b) (cv .f32 a)) (cop .quo .f32 (cv .f32 (floatOfInt .f32 i)) (cv .f32 (floatOfInt .f32 n))))
def RampTo (a b : Nat) (n : Int) (k : Nat) (xs : List Nat) : Prop := xs.length = k ∧ ∀ j : Nat, j < k → cv .f32 (nth xs j) = rampC a b j n
theorem nth_append_l (xs ys : List Nat) (j : Nat) (h : j < xs.length) : nth (xs ++ ys) j = nth xs j := by
  simp [nth, List.getD_eq_getElem?_getD, List.getElem?_append_left h]
theorem nth_append_e (xs : List Nat) (x : Nat) : nth (xs ++ [x]) xs.length = x := by
  simp [nth, List.getD_eq_getElem?_getD]
theorem RampTo.step {a b : Nat} {n : Int} {k x : Nat} {xs : List Nat} (h : RampTo a b n k xs) (hx : cv .f32 x = rampC a b k n) : RampTo a b n (k + 1) (xs ++ [x]) := by
  refine ⟨by rw [List.length_append, h.1]; rfl, fun j hj => ?_⟩
  by_cases e : j = k
  · subst e
    have e2 := nth_append_e xs x
    rw [h.1] at e2
    rw [e2]; exact hx
  · rw [nth_append_l _ _ _ (by rw [h.1]; omega)]
    exact h.2 j (by omega)
theorem RampTo.same {a b : Nat} {n : Int} {k : Nat} {xs ys : List Nat} (h : RampTo a b n k xs) (g : RampTo a b n k ys) : ∀ j, j < k → cv .f32 (nth xs j) = cv .f32 (nth ys j) := fun j hj => (h.2 j hj).trans (g.2 j hj).symm
theorem c_eqFloat32S_n (A B : Option Addr) (c d n : Nat) (xs ys : List Nat) (w : World) (hs : Sl w A xs) (ht : Sl w B ys) (hx : xs.length = n) (hy : ys.length = n) (hl2 : (n : Int) ≤ 4294967296) (h : ∀ j, j < n → cv .f32 (nth xs j) = cv .f32 (nth ys j)) :
    Calls Tryz.prog 40 #[.slice A n c, .slice B n d] w fun e w' => e = .returned (.bool true) ∧ Below w.heap.size w w' := by
  have h1 := c_eqFloat32S A B c d xs ys w hs ht (hx.trans hy.symm) (by omega) (by rw [hx]; exact h)
  rw [hx, hy] at h1; exact h1
end Go.Proofs.YtdhpaglcggeknaaGreatDoor
