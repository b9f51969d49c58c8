/- Append of a list of samples; slices.Concat of two. No condition. -/
import Derived.Test.YtboffmlhoddopaaTb
namespace Go.Fl
open Go.RowKit
section
variable {P : Program} {w : World}
theorem wp_append_sl {o : Oper} {a : Act} {K : Act → World → Prop} {Q : Exit → Act → World → Prop} (s x : Operand) (t : TypeId)
    (ho : o.op = .call { callee := .builtin .append, args := #[s, x], argTypes := #[t, t] }) (base : Nat) (e : TypeId) (ht : P.underlying t = some (.slice e)) (hinfo : (P.info? e).map (fun i => (i.zero, i.size, i.bytes)) = some (some (.float .f32 0), 1, 4))
    {A : Option Addr} {c : Nat} {xs : List Nat} (hs : a.eval s = .slice A xs.length c) (hown : Own w base A c xs e) {ad : Addr} {d : Nat} {ys : List Nat} (hx : a.eval x = .slice (some ad) ys.length d) (hsl : Sl w (some ad) ys)
    (h63 : xs.length + ys.length ≤ 16777216) (hbase : base ≤ w.heap.size)
    (h : ∀ A' c' w', Own w' base A' c' (xs ++ ys) e → w.grownBy w' (ownBlk A) → (A' = none ↔ A = none ∧ ys = []) → K (a.put o.dst (.slice A' (xs.length + ys.length) c')) w') : o.wp P a w K Q := by
  obtain ⟨i0, hi, hz0, hz1, hz2⟩ := info_parts hinfo
  refine wp_append_own w s x t ho base e i0 (.float .f32 0) 1 4 ht hi hz0 hz1 hz2 rfl (by decide) _ _ _ hs hown.row ad ys.length d (fll ys) hx (by rw [fll_length]; omega) hsl.news (fll_one ys) (by unfold maxLen; omega) (by omega) hbase ?_
  intro v' w' h1 h2 h3
  rw [← fll_append] at h1
  obtain ⟨A', c', rfl, h4⟩ := Own.of_row h1
  rw [own_block hown] at h2
  have h5 := h A' c' w' h4 h2 ?_
  · rw [List.length_append]; exact h5
  · constructor
    · rintro rfl
      rcases h4.2 with ⟨_, h6, rfl⟩ | ⟨g, r, h6, _⟩
      · have h7 := h3.1 (by rw [h6]; rfl)
        injection h7.1 with e1
        exact ⟨e1, List.eq_nil_of_length_eq_zero h7.2⟩
      · cases h6
    · rintro ⟨rfl, rfl⟩
      rcases hown.2 with ⟨_, rfl, rfl⟩ | ⟨g, r, h6, _⟩
      · have h7 := h3.2 ⟨rfl, rfl⟩
        cases h7; rfl
      · cases h6
theorem wpList_append_sl {ops : Array Oper} {rest : List Oper} {o : Oper} {a : Act} {Q : Exit → Act → World → Prop} (hgd : o.guard = none) (s x : Operand) (t : TypeId)
    (ho : o.op = .call { callee := .builtin .append, args := #[s, x], argTypes := #[t, t] }) (base : Nat) (e : TypeId) (ht : P.underlying t = some (.slice e)) (hinfo : (P.info? e).map (fun i => (i.zero, i.size, i.bytes)) = some (some (.float .f32 0), 1, 4))
    {A : Option Addr} {c : Nat} {xs : List Nat} (hs : a.eval s = .slice A xs.length c) (hown : Own w base A c xs e) {ad : Addr} {d : Nat} {ys : List Nat} (hx : a.eval x = .slice (some ad) ys.length d) (hsl : Sl w (some ad) ys)
    (h63 : xs.length + ys.length ≤ 16777216) (hbase : base ≤ w.heap.size)
    (h : ∀ A' c' w', Own w' base A' c' (xs ++ ys) e → w.grownBy w' (ownBlk A) → (A' = none ↔ A = none ∧ ys = []) → wpList P ops Q rest (a.put o.dst (.slice A' (xs.length + ys.length) c')) w') : wpList P ops Q (o :: rest) a w :=
  wpList_plain hgd fun _ hK => wp_append_sl s x t ho base e ht hinfo hs hown hx hsl h63 hbase fun A' c' w' h2 h3 h4 => hK _ _ (h A' c' w' h2 h3 h4)
end
end Go.Fl
namespace Go.Proofs.Ytboffmlhoddopaa
open Go.RowKit Go.Fl
def CatA (n1 n2 : Nat) (s i : Value) : Prop := i = .int .i64 0 ∧ s = .int .i64 0 ∨ i = .int .i64 1 ∧ s = .int .i64 n1 ∨ i = .int .i64 2 ∧ s = .int .i64 (n1 + n2)
def CatB (w : World) (xs ys : List Nat) (v i : Value) (wr : World) : Prop := Below w.heap.size w wr ∧ ∃ A c, (i = .int .i64 0 ∧ v = .slice A 0 c ∧ Own wr w.heap.size A c [] 22 ∨ i = .int .i64 1 ∧ v = .slice A xs.length c ∧ Own wr w.heap.size A c xs 22 ∨ i = .int .i64 2 ∧ v = .slice A (xs.length + ys.length) c ∧ Own wr w.heap.size A c (xs ++ ys) 22)
theorem c_Grow_int (m : Int) (w : World) (h1 : 1 ≤ m) (h2 : m ≤ 1048576) :
    Calls Try.prog 85 #[.slice none 0 0, .int .i64 m] w fun e w' => ∃ A c, e = .returned (.slice A 0 c) ∧ Own w' w.heap.size A c [] 22 ∧ Below w.heap.size w w' := by
  obtain ⟨n, rfl⟩ := Int.eq_ofNat_of_zero_le (show 0 ≤ m from by omega)
  exact (c_Grow n w (by omega) (by omega)).mono fun e w' ⟨A, c, a, _, b, d⟩ => ⟨A, c, a, b, d⟩
set_option maxHeartbeats 2000000 in
set_option maxRecDepth 20000 in
theorem c_Concat (gL c1 c2 : Nat) (a1 a2 : Addr) (xs ys : List Nat) (w : World) (hr : Row w gL #[.slice (some a1) xs.length c1, .slice (some a2) ys.length c2] 37) (hx : Sl w (some a1) xs) (hy : Sl w (some a2) ys) (h1 : 1 ≤ xs.length) (h2 : xs.length + ys.length ≤ 1048576) :
    Calls Try.prog 73 #[.slice (some ⟨gL, 0, none⟩) 2 2] w fun e w' => ∃ A c, e = .returned (.slice A (xs.length + ys.length) c) ∧ Own w' w.heap.size A c (xs ++ ys) 22 ∧ Below w.heap.size w w' := by
  have HX := Lib.hid hx; have HY := Lib.hid hy; have HR := Lib.hid hr; clear hx hy
  have b1 : (xs.length : Int) ≤ 1048576 := by omega
  have b2 : (ys.length : Int) ≤ 1048576 := by omega
  have b3 : (0 : Int) ≤ (xs.length : Int) := by omega
  have b4 : (0 : Int) ≤ (ys.length : Int) := by omega
  have b5 : (xs.length : Int) + (ys.length : Int) ≤ 1048576 := by omega
  have H12 := Lib.hid h2; have H11 := Lib.hid h1; clear h1 h2
  have k0 := hr.cell 0 _ rfl; have k1 := hr.cell 1 _ rfl
  have hlt := hr.lt
  clear hr
  go_enter Try.func73, Try.ntmps73
  go_wp2
  go_loop [3, 11] (fun s i => CatA xs.length ys.length s i) (fun _ i => 2 - (intOf i).toNat)
  case atStart => exact .inl ⟨rfl, rfl⟩
  case round =>
    rcases hrel with ⟨rfl, rfl⟩ | ⟨rfl, rfl⟩ | ⟨rfl, rfl⟩
    · go_wp2
      go_round
      case rel => exact .inr (.inl ⟨rfl, rfl⟩)
      case measure => simp [intOf]
    · go_wp2
      go_round
      case rel => exact .inr (.inr ⟨rfl, rfl⟩)
      case measure => simp [intOf]
    · have hpos : 1 ≤ (xs.length : Int) + (ys.length : Int) := by have := H11.out; omega
      go_wp2_with (go_at_call 85; refine (c_Grow_int _ _ hpos b5).mono ?_; rintro e w1 ⟨A, c, rfl, ho, hb⟩; have HO := Lib.hid ho; have HB := Lib.hid hb; clear ho hb)
      go_loopw [6, 27] (fun v i wr => CatB w xs ys v i wr) (fun _ i _ => 2 - (intOf i).toNat)
      case atStart => exact ⟨HB.out, A, c, .inl ⟨rfl, rfl, HO.out⟩⟩
      case round =>
        clear HO HB
        obtain ⟨hb, A', c', h⟩ := hrel
        have q := HR.out.below hb hlt
        have k0 := q.cell 0 _ rfl; have k1 := q.cell 1 _ rfl
        have HS := Lib.hid hb.size
        rcases h with ⟨rfl, rfl, ho⟩ | ⟨rfl, rfl, ho⟩ | ⟨rfl, rfl, ho⟩
        · go_wp2_with (at_builtin; refine wpList_append_sl rfl _ _ 37 rfl w.heap.size 22 Try.underlying37 info_f32e rfl ho rfl (HX.out.below hb) (by have := H12.out; simp; omega) HS.out ?_; intro A2 c2 w2 ho2' hg2' _; have HO2 := Lib.hid ho2'; have HG2 := Lib.hid hg2'; clear ho2' hg2')
          go_roundw
          case rel => exact ⟨hb.grown HG2.out HS.out ho.ge, A2, c2, .inr (.inl ⟨rfl, by simp, HO2.out⟩)⟩
          case measure => simp [intOf]
        · go_wp2_with (at_builtin; refine wpList_append_sl rfl _ _ 37 rfl w.heap.size 22 Try.underlying37 info_f32e rfl ho rfl (HY.out.below hb) (by have := H12.out; omega) HS.out ?_; intro A2 c2 w2 ho2' hg2' _; have HO2 := Lib.hid ho2'; have HG2 := Lib.hid hg2'; clear ho2' hg2')
          go_roundw
          case rel => exact ⟨hb.grown HG2.out HS.out ho.ge, A2, c2, .inr (.inr ⟨rfl, rfl, HO2.out⟩)⟩
          case measure => simp [intOf]
        · go_wp2
          go_ret
          exact ⟨A', c', rfl, ho, hb⟩
end Go.Proofs.Ytboffmlhoddopaa
