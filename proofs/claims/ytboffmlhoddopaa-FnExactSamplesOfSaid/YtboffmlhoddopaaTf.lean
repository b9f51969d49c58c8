/- Append of one sample; breaths that become more or less. No condition. -/
import Derived.Test.YtboffmlhoddopaaTe
namespace Go.Fl
open Go.RowKit
theorem Sl.of_blk0 {w : World} {g : Nat} {xs : List Nat} {t : TypeId} (h : Blk w g xs t) : Sl w (some ⟨g, 0, none⟩) xs := by
  refine .inr ⟨_, rfl, h.lt, fun k hk => ?_⟩
  have e : (⟨g, 0, none⟩ : Addr).add k = ⟨g, k, none⟩ := by
    unfold Addr.add
    by_cases h0 : k = 0
    · subst h0; simp
    · simp [h0]
  rw [e]; exact h.cell k hk
theorem wpList_append_one {P : Program} {ops : Array Oper} {rest : List Oper} {o : Oper} {a : Act} {Q : Exit → Act → World → Prop} {W : World} (hgd : o.guard = none) (s x : Operand) (t : TypeId)
    (ho : o.op = .call { callee := .builtin .append, args := #[s, x], argTypes := #[t, t] }) (base : Nat) (e : TypeId) (ht : P.underlying t = some (.slice e)) (hinfo : (P.info? e).map (fun i => (i.zero, i.size, i.bytes)) = some (some (.float .f32 0), 1, 4))
    {A : Option Addr} {c n X : Nat} {xs : List Nat} (hn : xs.length = n) (hs : a.eval s = .slice A n c) (hown : Own W base A c xs e) (hx : a.eval x = .slice (some ⟨W.heap.size, 0, none⟩) 1 1)
    (h63 : n ≤ 8388608) (hbase : base ≤ W.heap.size)
    (h : ∀ A' c' w', Own w' base A' c' (xs ++ [X]) e → W.grownBy w' (ownBlk A) → A' ≠ none → wpList P ops Q rest (a.put o.dst (.slice A' (n + 1) c')) w') : wpList P ops Q (o :: rest) a (W.alloc (.cells #[.float .f32 X] e)) := by
  subst hn
  refine wpList_append_sl hgd s x t ho base e ht hinfo hs (hown.kept (World.grownBy_alloc W _ none) (fun k hk => by simp)) (ys := [X]) hx (Sl.of_blk0 (Blk.new W [X] e _ rfl)) (by simp; omega) (by simp; omega) ?_
  intro A' c' w' h1 h2 h3
  exact h A' c' w' h1 (grownBy_trans (World.grownBy_alloc W _ _) h2) (fun e => by have := (h3.1 e).2; simp at this)
end Go.Fl
namespace Go.Proofs.Ytboffmlhoddopaa
open Go.RowKit Go.Fl
def rampC (a b : Nat) (i n : Int) : CF := cop .add .f32 (cv .f32 a) (cop .mul .f32 (cop .sub .f32 (cv .f32 b) (cv .f32 a)) (cop .quo .f32 (cv .f32 (floatOfInt .f32 i)) (cv .f32 (floatOfInt .f32 n))))
def RampTo (a b : Nat) (n : Int) (k : Nat) (xs : List Nat) : Prop := xs.length = k ∧ ∀ j : Nat, j < k → cv .f32 (nth xs j) = rampC a b j n
theorem nth_append_l (xs ys : List Nat) (j : Nat) (h : j < xs.length) : nth (xs ++ ys) j = nth xs j := by
  simp [nth, List.getD_eq_getElem?_getD, List.getElem?_append_left h]
theorem nth_append_e (xs : List Nat) (x : Nat) : nth (xs ++ [x]) xs.length = x := by
  simp [nth, List.getD_eq_getElem?_getD]
theorem RampTo.step {a b : Nat} {n : Int} {k x : Nat} {xs : List Nat} (h : RampTo a b n k xs) (hx : cv .f32 x = rampC a b k n) : RampTo a b n (k + 1) (xs ++ [x]) := by
  refine ⟨by rw [List.length_append, h.1]; rfl, fun j hj => ?_⟩
  by_cases e : j = k
  · subst e
    have e2 := nth_append_e xs x
    rw [h.1] at e2
    rw [e2]; exact hx
  · rw [nth_append_l _ _ _ (by rw [h.1]; omega)]
    exact h.2 j (by omega)
theorem c_iBreathRamp_no (a b : Nat) (n : Int) (w : World) (h : inB n 0 4096 = false) : Calls Try.prog 55 #[.float .f32 a, .float .f32 b, .int .i64 n] w fun e w' => e = .returned (.tuple #[.slice none 0 0, .int .i64 2]) ∧ w' = w := by
  go_enter Try.func55, Try.ntmps55
  go_wp2_with (go_at_call 67; refine (c_within _ _ _ _ _ h).mono ?_; rintro e w' ⟨rfl, rfl⟩)
  go_ret2
  exact ⟨rfl, rfl⟩
set_option maxHeartbeats 1000000 in
theorem c_iBreathRamp (a b n : Nat) (w : World) (h : inB n 0 4096 = true) : Calls Try.prog 55 #[.float .f32 a, .float .f32 b, .int .i64 n] w fun e w' => ∃ A c xs, e = .returned (.tuple #[.slice A n c, .int .i64 0]) ∧ Own w' w.heap.size A c xs 22 ∧ RampTo a b n n xs ∧ Below w.heap.size w w' := by
  obtain ⟨h1, h2⟩ := inB_true' h
  go_enter Try.func55, Try.ntmps55
  go_wp2_with (go_at_call 67; refine (c_within _ _ _ _ _ h).mono ?_; rintro e w' ⟨rfl, hww⟩; obtain rfl := hww.symm)
  go_loopw [8, 14] (fun v i wr => ∃ (k : Nat) (A : Option Addr) (c : Nat) (xs : List Nat), k ≤ n ∧ i = .int .i64 k ∧ v = .slice A k c ∧ Own wr w.heap.size A c xs 22 ∧ RampTo a b n k xs ∧ Below w.heap.size w wr) (fun _ i _ => n - (intOf i).toNat)
  case atStart => exact ⟨0, none, 0, [], by omega, rfl, rfl, ⟨by simp [maxLen], .inl ⟨rfl, rfl, rfl⟩⟩, ⟨rfl, fun j hj => by omega⟩, Below.refl _ _⟩
  case round =>
    obtain ⟨k, A, c, xs, hk, rfl, rfl, ho, hr, hb⟩ := hrel
    have HS := Lib.hid hb.size
    by_cases hlt : k < n
    · have hi : (0 : Int) ≤ k := by omega
      have hi2 : (k : Int) < n := by omega
      go_wp2_with (at_builtin; refine wpList_append_one rfl _ _ 37 rfl w.heap.size 22 Try.underlying37 info_f32e hr.1 rfl ho rfl (by omega) HS.out ?_; intro A2 c2 w2 ho2' hg2' _; have HO2 := Lib.hid ho2'; have HG2 := Lib.hid hg2'; clear ho2' hg2')
      go_roundw
      case rel => exact ⟨k + 1, A2, c2, _, by omega, by go_num, rfl, HO2.out, hr.step (by simp only [cv_fval]; rfl), (below_drewN hb _).grown HG2.out HS.out ho.ge⟩
      case measure => simp [intOf]; omega
    · have e : k = n := by omega
      subst e
      go_wp2
      go_ret2
      exact ⟨A, c, xs, rfl, ho, hr, hb⟩
theorem c_sBreathRamp_no (a b : Nat) (n : Int) (w : World) (h : inB n 0 4096 = false) : Calls Try.prog 54 #[.float .f32 a, .float .f32 b, .int .i64 n] w fun e w' => ∃ g, e = .returned (.tuple #[.slice (some ⟨g, 0, none⟩) 0 0, .int .i64 2]) ∧ Below w.heap.size w w' := by
  go_enter Try.func54, Try.ntmps54
  go_wp2_with (go_at_call 69; refine (c_l00In _ _ _ _ _ h).mono ?_; rintro e w' ⟨rfl, hww⟩; obtain rfl := hww.symm)
  go_ret2
  exact ⟨_, rfl, Go.Joins.below_alloc1 _ _⟩
set_option maxHeartbeats 1000000 in
theorem c_sBreathRamp (a b n : Nat) (w : World) (h : inB n 0 4096 = true) : Calls Try.prog 54 #[.float .f32 a, .float .f32 b, .int .i64 n] w fun e w' => ∃ A c xs, e = .returned (.tuple #[.slice A n c, .int .i64 0]) ∧ Own w' w.heap.size A c xs 22 ∧ RampTo a b n n xs ∧ Below w.heap.size w w' := by
  obtain ⟨h1, h2⟩ := inB_true' h
  have O1 := Lib.hid (Own.of_blk (xs := []) (Blk.newRow w [] #[] 22 _ rfl rfl) (Nat.le_refl _) (by simp [maxLen]))
  go_enter Try.func54, Try.ntmps54
  go_wp2_with (go_at_call 69; refine (c_l00In _ _ _ _ _ h).mono ?_; rintro e w' ⟨rfl, hww⟩; obtain rfl := hww.symm)
  go_loopw [8, 9] (fun v i wr => ∃ (k : Nat) (A : Option Addr) (c : Nat) (xs : List Nat), k ≤ n ∧ i = .int .i64 k ∧ v = .slice A k c ∧ Own wr w.heap.size A c xs 22 ∧ RampTo a b n k xs ∧ Below w.heap.size w wr) (fun _ i _ => n - (intOf i).toNat)
  case atStart => exact ⟨0, _, 0, [], by omega, rfl, rfl, O1.out, ⟨rfl, fun j hj => by omega⟩, Go.Joins.below_alloc1 _ _⟩
  case round =>
    clear O1
    obtain ⟨k, A, c, xs, hk, rfl, rfl, ho, hr, hb⟩ := hrel
    have HS := Lib.hid hb.size
    by_cases hlt : k < n
    · have hi : (0 : Int) ≤ k := by omega
      have hi2 : (k : Int) < n := by omega
      go_wp2_with (at_builtin; refine wpList_append_one rfl _ _ 37 rfl w.heap.size 22 Try.underlying37 info_f32e hr.1 rfl ho rfl (by omega) HS.out ?_; intro A2 c2 w2 ho2' hg2' _; have HO2 := Lib.hid ho2'; have HG2 := Lib.hid hg2'; clear ho2' hg2')
      go_roundw
      case rel => exact ⟨k + 1, A2, c2, _, by omega, by go_num, rfl, HO2.out, hr.step (by simp only [cv_fval]; rfl), (below_drewN hb _).grown HG2.out HS.out ho.ge⟩
      case measure => simp [intOf]; omega
    · have e : k = n := by omega
      subst e
      go_wp2
      go_ret2
      exact ⟨A, c, xs, rfl, ho, hr, hb⟩
theorem RampTo.same {a b : Nat} {n : Int} {k : Nat} {xs ys : List Nat} (h : RampTo a b n k xs) (g : RampTo a b n k ys) : ∀ j, j < k → cv .f32 (nth xs j) = cv .f32 (nth ys j) := fun j hj => (h.2 j hj).trans (g.2 j hj).symm
theorem c_eqFloat32S_n (A B : Option Addr) (c d n : Nat) (xs ys : List Nat) (w : World) (hs : Sl w A xs) (ht : Sl w B ys) (hx : xs.length = n) (hy : ys.length = n) (hl2 : (n : Int) ≤ 4294967296) (h : ∀ j, j < n → cv .f32 (nth xs j) = cv .f32 (nth ys j)) :
    Calls Try.prog 45 #[.slice A n c, .slice B n d] w fun e w' => e = .returned (.bool true) ∧ Below w.heap.size w w' := by
  have h1 := c_eqFloat32S A B c d xs ys w hs ht (hx.trans hy.symm) (by omega) (by rw [hx]; exact h)
  rw [hx, hy] at h1; exact h1
end Go.Proofs.Ytboffmlhoddopaa
