/- Rings turned. No condition. -/
import Derived.Test.YtdhpaglcggeknaaGreatDoorTc
namespace Go.Fl
open Go.RowKit
theorem grownBy_setRow (w : World) (g : Nat) (cs : Array Value) : w.grownBy (w.setRow g cs) (some g) := ⟨rfl, rfl, rfl, by simp, fun k _ hn => setRow_other w g k cs (fun e => hn (by rw [e]))⟩
theorem addr_add_add (ad : Addr) (j k : Nat) : (ad.add j).add k = ad.add (j + k) := by
  obtain ⟨b, o, s⟩ := ad
  unfold Addr.add
  repeat' split
  all_goals (simp_all; try omega)
theorem Sl.drop {w : World} {ad : Addr} {xs : List Nat} (h : Sl w (some ad) xs) (j : Nat) (hj : j < xs.length) : Sl w (some (ad.add j)) (xs.drop j) := by
  rcases h with h | ⟨a, hA, hlt, hc⟩
  · rw [h] at hj; simp at hj
  · cases hA
    refine .inr ⟨_, rfl, by rw [addr_add_block]; exact hlt, fun k hk => ?_⟩
    rw [List.length_drop] at hk
    rw [addr_add_add, hc _ (by omega)]
    simp [nth, List.getD_eq_getElem?_getD, List.getElem?_drop]
theorem Sl.take {w : World} {ad : Addr} {xs : List Nat} (h : Sl w (some ad) xs) (j : Nat) : Sl w (some ad) (xs.take j) := by
  rcases h with h | ⟨a, hA, hlt, hc⟩
  · left; rw [h]; simp
  · cases hA
    refine .inr ⟨_, rfl, hlt, fun k hk => ?_⟩
    rw [List.length_take] at hk
    rw [hc _ (by omega)]
    have : k < j := by omega
    simp [nth, List.getD_eq_getElem?_getD, this]
theorem wp_append_sl_n {P : Program} {w : World} {o : Oper} {a : Act} {K : Act → World → Prop} {Q : Exit → Act → World → Prop} (s x : Operand) (t : TypeId)
    (ho : o.op = .call { callee := .builtin .append, args := #[s, x], argTypes := #[t, t] }) (base : Nat) (e : TypeId) (ht : P.underlying t = some (.slice e)) (hinfo : (P.info? e).map (fun i => (i.zero, i.size, i.bytes)) = some (some (.float .f32 0), 1, 4))
    {A : Option Addr} {c n : Nat} {xs : List Nat} (hn : xs.length = n) (hs : a.eval s = .slice A n c) (hown : Own w base A c xs e) {ad : Addr} {d m : Nat} {ys : List Nat} (hm : ys.length = m) (hx : a.eval x = .slice (some ad) m d) (hsl : Sl w (some ad) ys)
    (h63 : n + m ≤ 16777216) (hbase : base ≤ w.heap.size)
    (h : ∀ A' c' w', Own w' base A' c' (xs ++ ys) e → w.grownBy w' (ownBlk A) → (A' = none ↔ A = none ∧ ys = []) → K (a.put o.dst (.slice A' (n + m) c')) w') : o.wp P a w K Q := by
  subst hn; subst hm
  exact wp_append_sl s x t ho base e ht hinfo hs hown hx hsl h63 hbase h
end Go.Fl
namespace Go.Proofs.YtdhpaglcggeknaaGreatDoor
open Go.RowKit Go.Fl
theorem wp_store_cells {P : Program} {o : Oper} {a : Act} {w : World} {K : Act → World → Prop} {Q : Exit → Act → World → Prop} (ty : TypeId) (x y : Operand) (ho : o.op = .store ty x y) (g : Nat) (hx : a.eval x = .pointer (some ⟨g, 0, none⟩)) {cells : Array Value} (hy : a.eval y = .agg cells) {old : Array Value} {t : TypeId} (hb : Row w g old t)
    (hi : (P.info? ty).map (·.size) = some cells.size) (hold : old.size = cells.size) (h1 : cells.toList.all (·.oneCell') = true) (h : K (a.put o.dst undef) (w.setRow g cells)) : o.wp P a w K Q :=
  wp_store_row ty x y ho g cells hx hy t old hb hi hold (by rw [← Array.all_toList]; exact h1) h
end Go.Proofs.YtdhpaglcggeknaaGreatDoor
