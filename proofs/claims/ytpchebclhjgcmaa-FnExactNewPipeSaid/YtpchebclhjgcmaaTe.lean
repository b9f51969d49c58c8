/- Own rings marked; slices.Grow of nothing, slices.Concat of two. Append of a list of samples; slices.Concat of two. Rings turned. Own rings marked: the length apart. No condition. -/
import Derived.Test.YtpchebclhjgcmaaTa
import Derived.Lib.AppendZerosOnto
namespace Go.Proofs.Ytpchebclhjgcmaa
open Go.RowKit Go.Fl
theorem c_markRing_own (A : Option Addr) (c base : Nat) (xs : List Nat) (at0 m : Int) (w : World) (h : Own w base A c xs 25) (hl : (xs.length : Int) ≤ 4294967296) (h0 : 0 ≤ m) (h1 : m ≤ 4294967296) :
    Calls Try.prog 63 #[.agg #[.slice A xs.length c, .int .i64 at0], .int .i64 m] w fun e w' => e = .returned (.int .i64 (m + xs.length)) ∧ Own w' base A c (markL xs.length m) 25 ∧ w.grownBy w' (ownBlk A) := by
  have hg := World.grownBy_alloc w (.cells #[.slice A xs.length c, .int .i64 at0] 34) (ownBlk A)
  have HA := Lib.hid (h.kept (World.grownBy_alloc w (.cells #[.slice A xs.length c, .int .i64 at0] 34) none) (fun k hk => by simp))
  have HL := Lib.hid hl; have HG := Lib.hid hg; clear hl h hg
  go_enter Try.func63, Try.ntmps63
  go_wp2_with (go_at_call 34; refine (c_markFloat32S_own _ _ _ _ _ _ HA.out HL.out h0 h1).mono ?_; rintro e w1 ⟨rfl, h2, b'⟩; have b := Lib.hid b'; clear b')
  go_ret
  exact ⟨rfl, h2, grownBy_trans HG.out b.out⟩
theorem c_heldRing_sl (A : Option Addr) (c n : Nat) (at0 m : Int) (w : World) (hg : Sl w A (markL n m)) (hl : (n : Int) ≤ 4294967296) (h0 : 0 ≤ m) (h1 : m ≤ 4294967296) :
    Calls Try.prog 64 #[.agg #[.slice A n c, .int .i64 at0], .int .i64 m] w fun e w' => e = .returned (.int .i64 (m + n)) ∧ Below w.heap.size w w' := by
  have hb := Go.Joins.below_alloc1 w (.cells #[.slice A n c, .int .i64 at0] 34)
  have HG := Lib.hid (hg.below hb)
  have hn : ¬ (m + (n : Int) < 0) := by omega
  clear hg
  go_enter Try.func64, Try.ntmps64
  go_wp2_with (go_at_call 77; refine (c_heldFloat32S_sl _ _ _ _ _ HG.out hl h0 h1).mono ?_; rintro e w1 ⟨rfl, b⟩)
  go_ret
  exact ⟨rfl, seq_below hb b⟩
end Go.Proofs.Ytpchebclhjgcmaa
namespace Go.Fl
open Go.RowKit
section
variable {P : Program} {w : World}
theorem wp_append_sl {o : Oper} {a : Act} {K : Act → World → Prop} {Q : Exit → Act → World → Prop} (s x : Operand) (t : TypeId)
    (ho : o.op = .call { callee := .builtin .append, args := #[s, x], argTypes := #[t, t] }) (base : Nat) (e : TypeId) (ht : P.underlying t = some (.slice e)) (hinfo : (P.info? e).map (fun i => (i.zero, i.size, i.bytes)) = some (some (.float .f32 0), 1, 4))
    {A : Option Addr} {c : Nat} {xs : List Nat} (hs : a.eval s = .slice A xs.length c) (hown : Own w base A c xs e) {ad : Addr} {d : Nat} {ys : List Nat} (hx : a.eval x = .slice (some ad) ys.length d) (hsl : Sl w (some ad) ys)
    (h63 : xs.length + ys.length ≤ 16777216) (hbase : base ≤ w.heap.size)
    (h : ∀ A' c' w', Own w' base A' c' (xs ++ ys) e → w.grownBy w' (ownBlk A) → (A' = none ↔ A = none ∧ ys = []) → K (a.put o.dst (.slice A' (xs.length + ys.length) c')) w') : o.wp P a w K Q := by
  obtain ⟨i0, hi, hz0, hz1, hz2⟩ := info_parts hinfo
  refine wp_append_own w s x t ho base e i0 (.float .f32 0) 1 4 ht hi hz0 hz1 hz2 rfl (by decide) _ _ _ hs hown.row ad ys.length d (fll ys) hx (by rw [fll_length]; omega) hsl.news (fll_one ys) (by unfold maxLen; omega) (by omega) hbase ?_
  intro v' w' h1 h2 h3
  rw [← fll_append] at h1
  obtain ⟨A', c', rfl, h4⟩ := Own.of_row h1
  rw [own_block hown] at h2
  have h5 := h A' c' w' h4 h2 ?_
  · rw [List.length_append]; exact h5
  · constructor
    · rintro rfl
      rcases h4.2 with ⟨_, h6, rfl⟩ | ⟨g, r, h6, _⟩
      · have h7 := h3.1 (by rw [h6]; rfl)
        injection h7.1 with e1
        exact ⟨e1, List.eq_nil_of_length_eq_zero h7.2⟩
      · cases h6
    · rintro ⟨rfl, rfl⟩
      rcases hown.2 with ⟨_, rfl, rfl⟩ | ⟨g, r, h6, _⟩
      · have h7 := h3.2 ⟨rfl, rfl⟩
        cases h7; rfl
      · cases h6
theorem wpList_append_sl {ops : Array Oper} {rest : List Oper} {o : Oper} {a : Act} {Q : Exit → Act → World → Prop} (hgd : o.guard = none) (s x : Operand) (t : TypeId)
    (ho : o.op = .call { callee := .builtin .append, args := #[s, x], argTypes := #[t, t] }) (base : Nat) (e : TypeId) (ht : P.underlying t = some (.slice e)) (hinfo : (P.info? e).map (fun i => (i.zero, i.size, i.bytes)) = some (some (.float .f32 0), 1, 4))
    {A : Option Addr} {c : Nat} {xs : List Nat} (hs : a.eval s = .slice A xs.length c) (hown : Own w base A c xs e) {ad : Addr} {d : Nat} {ys : List Nat} (hx : a.eval x = .slice (some ad) ys.length d) (hsl : Sl w (some ad) ys)
    (h63 : xs.length + ys.length ≤ 16777216) (hbase : base ≤ w.heap.size)
    (h : ∀ A' c' w', Own w' base A' c' (xs ++ ys) e → w.grownBy w' (ownBlk A) → (A' = none ↔ A = none ∧ ys = []) → wpList P ops Q rest (a.put o.dst (.slice A' (xs.length + ys.length) c')) w') : wpList P ops Q (o :: rest) a w :=
  wpList_plain hgd fun _ hK => wp_append_sl s x t ho base e ht hinfo hs hown hx hsl h63 hbase fun A' c' w' h2 h3 h4 => hK _ _ (h A' c' w' h2 h3 h4)
end
end Go.Fl
namespace Go.Proofs.Ytpchebclhjgcmaa
open Go.RowKit Go.Fl
def CatA (n1 n2 : Nat) (s i : Value) : Prop := i = .int .i64 0 ∧ s = .int .i64 0 ∨ i = .int .i64 1 ∧ s = .int .i64 n1 ∨ i = .int .i64 2 ∧ s = .int .i64 (n1 + n2)
def CatB (w : World) (xs ys : List Nat) (v i : Value) (wr : World) : Prop := Below w.heap.size w wr ∧ ∃ A c, (i = .int .i64 0 ∧ v = .slice A 0 c ∧ Own wr w.heap.size A c [] 25 ∨ i = .int .i64 1 ∧ v = .slice A xs.length c ∧ Own wr w.heap.size A c xs 25 ∨ i = .int .i64 2 ∧ v = .slice A (xs.length + ys.length) c ∧ Own wr w.heap.size A c (xs ++ ys) 25)
end Go.Proofs.Ytpchebclhjgcmaa
namespace Go.Fl
open Go.RowKit
theorem grownBy_setRow (w : World) (g : Nat) (cs : Array Value) : w.grownBy (w.setRow g cs) (some g) := ⟨rfl, rfl, rfl, by simp, fun k _ hn => setRow_other w g k cs (fun e => hn (by rw [e]))⟩
theorem addr_add_add (ad : Addr) (j k : Nat) : (ad.add j).add k = ad.add (j + k) := by
  obtain ⟨b, o, s⟩ := ad
  unfold Addr.add
  repeat' split
  all_goals (simp_all; try omega)
theorem Sl.drop {w : World} {ad : Addr} {xs : List Nat} (h : Sl w (some ad) xs) (j : Nat) (hj : j < xs.length) : Sl w (some (ad.add j)) (xs.drop j) := by
  rcases h with h | ⟨a, hA, hlt, hc⟩
  · rw [h] at hj; simp at hj
  · cases hA
    refine .inr ⟨_, rfl, by rw [addr_add_block]; exact hlt, fun k hk => ?_⟩
    rw [List.length_drop] at hk
    rw [addr_add_add, hc _ (by omega)]
    simp [nth, List.getD_eq_getElem?_getD, List.getElem?_drop]
theorem Sl.take {w : World} {ad : Addr} {xs : List Nat} (h : Sl w (some ad) xs) (j : Nat) : Sl w (some ad) (xs.take j) := by
  rcases h with h | ⟨a, hA, hlt, hc⟩
  · left; rw [h]; simp
  · cases hA
    refine .inr ⟨_, rfl, hlt, fun k hk => ?_⟩
    rw [List.length_take] at hk
    rw [hc _ (by omega)]
    have : k < j := by omega
    simp [nth, List.getD_eq_getElem?_getD, this]
theorem wp_append_sl_n {P : Program} {w : World} {o : Oper} {a : Act} {K : Act → World → Prop} {Q : Exit → Act → World → Prop} (s x : Operand) (t : TypeId)
    (ho : o.op = .call { callee := .builtin .append, args := #[s, x], argTypes := #[t, t] }) (base : Nat) (e : TypeId) (ht : P.underlying t = some (.slice e)) (hinfo : (P.info? e).map (fun i => (i.zero, i.size, i.bytes)) = some (some (.float .f32 0), 1, 4))
    {A : Option Addr} {c n : Nat} {xs : List Nat} (hn : xs.length = n) (hs : a.eval s = .slice A n c) (hown : Own w base A c xs e) {ad : Addr} {d m : Nat} {ys : List Nat} (hm : ys.length = m) (hx : a.eval x = .slice (some ad) m d) (hsl : Sl w (some ad) ys)
    (h63 : n + m ≤ 16777216) (hbase : base ≤ w.heap.size)
    (h : ∀ A' c' w', Own w' base A' c' (xs ++ ys) e → w.grownBy w' (ownBlk A) → (A' = none ↔ A = none ∧ ys = []) → K (a.put o.dst (.slice A' (n + m) c')) w') : o.wp P a w K Q := by
  subst hn; subst hm
  exact wp_append_sl s x t ho base e ht hinfo hs hown hx hsl h63 hbase h
end Go.Fl
namespace Go.Proofs.Ytpchebclhjgcmaa
open Go.RowKit Go.Fl
theorem wp_store_cells {P : Program} {o : Oper} {a : Act} {w : World} {K : Act → World → Prop} {Q : Exit → Act → World → Prop} (ty : TypeId) (x y : Operand) (ho : o.op = .store ty x y) (g : Nat) (hx : a.eval x = .pointer (some ⟨g, 0, none⟩)) {cells : Array Value} (hy : a.eval y = .agg cells) {old : Array Value} {t : TypeId} (hb : Row w g old t)
    (hi : (P.info? ty).map (·.size) = some cells.size) (hold : old.size = cells.size) (h1 : cells.toList.all (·.oneCell') = true) (h : K (a.put o.dst undef) (w.setRow g cells)) : o.wp P a w K Q :=
  wp_store_row ty x y ho g cells hx hy t old hb hi hold (by rw [← Array.all_toList]; exact h1) h
end Go.Proofs.Ytpchebclhjgcmaa
namespace Go.Proofs.Ytpchebclhjgcmaa
open Go.RowKit Go.Fl
theorem c_markFloat32S_own_n (A : Option Addr) (c base n : Nat) (xs : List Nat) (m : Int) (w : World) (h : Own w base A c xs 25) (hn : xs.length = n) (hl : (n : Int) ≤ 4294967296) (h0 : 0 ≤ m) (h1 : m ≤ 4294967296) :
    Calls Try.prog 34 #[.slice A n c, .int .i64 m] w fun e w' => e = .returned (.int .i64 (m + n)) ∧ Own w' base A c (markL n m) 25 ∧ w.grownBy w' (ownBlk A) := by
  subst hn; exact c_markFloat32S_own A c base xs m w h hl h0 h1
theorem c_markRing_own_n (A : Option Addr) (c base n : Nat) (xs : List Nat) (at0 m : Int) (w : World) (h : Own w base A c xs 25) (hn : xs.length = n) (hl : (n : Int) ≤ 4294967296) (h0 : 0 ≤ m) (h1 : m ≤ 4294967296) :
    Calls Try.prog 63 #[.agg #[.slice A n c, .int .i64 at0], .int .i64 m] w fun e w' => e = .returned (.int .i64 (m + n)) ∧ Own w' base A c (markL n m) 25 ∧ w.grownBy w' (ownBlk A) := by
  subst hn; exact c_markRing_own A c base xs at0 m w h hl h0 h1
theorem ringOk_facts {n : Nat} {at0 : Int} (h : ringOk n at0 = true) : (n : Int) ≤ 1024 ∧ 1 ≤ (n : Int) ∧ 0 ≤ at0 ∧ at0 ≤ (n : Int) - 1 := by
  unfold ringOk at h
  rw [Bool.and_eq_true] at h
  obtain ⟨a, b⟩ := inB_true' h.1
  obtain ⟨c, d⟩ := inB_true' h.2
  exact ⟨b, a, c, d⟩
theorem turn_len (xs : List Nat) (j : Nat) (h : j < xs.length) : (xs.drop j ++ xs.take j).length = xs.length := by
  rw [List.length_append, List.length_drop, List.length_take]; omega
end Go.Proofs.Ytpchebclhjgcmaa
