/- Slices of one's own: made by append, with room behind; marked and held. No condition. -/
import Derived.Test.YtpchebclhjgcmaaSz
import Derived.Laws.AppendOwn
namespace Go.Fl
open Go.RowKit
/-- Block g holds these floats and r behind them. -/
def PreR (w : World) (g : Nat) (xs : List Nat) (r : List Value) (t : TypeId) : Prop := w.heap[g]? = some (.cells (fll xs ++ r).toArray t)
section
variable {w w' : World} {g : Nat} {xs ys : List Nat} {r : List Value} {t : TypeId} {A : Option Addr} {c base : Nat}
theorem PreR.lt (h : PreR w g xs r t) : g < w.heap.size := by
  unfold PreR at h
  rcases Nat.lt_or_ge g w.heap.size with h' | h'
  · exact h'
  · rw [Array.getElem?_eq_none h'] at h; cases h
theorem fll_get (xs : List Nat) (k : Nat) (h : k < xs.length) : (fll xs)[k]? = some (.float .f32 (nth xs k)) := by
  simp [fll, nth, h]
theorem PreR.cell (h : PreR w g xs r t) (k : Nat) (hk : k < xs.length) : w.cell? ⟨g, k, none⟩ = some (.float .f32 (nth xs k)) := by
  rw [Go.Joins.cell_of_block h]
  simp only [List.getElem?_toArray]
  rw [List.getElem?_append_left (by rw [fll_length]; exact hk), fll_get xs k hk]
theorem PreR.free (h : PreR w g xs r t) (k : Nat) : w.frozen? ⟨g, k, none⟩ = false := Go.Joins.unfrozen_of_block h k
theorem PreR.set (h : PreR w g xs r t) (k x : Nat) (hk : k < xs.length) : PreR (w.setCell ⟨g, k, none⟩ (.float .f32 x)) g (xs.set k x) r t := by
  unfold PreR
  rw [Go.Joins.block_setCell h, List.setIfInBounds_toArray, List.set_append_left _ _ (by rw [fll_length]; exact hk)]
  unfold fll
  rw [List.map_set]
theorem PreR.alloc (h : PreR w g xs r t) (o : Obj) : PreR (w.alloc o) g xs r t := by
  unfold PreR
  rw [Below.heap_alloc _ _ _ h.lt]; exact h

def ownBlk (A : Option Addr) : Option Nat := A.map (·.block)
/-- A slice of one's own: nil, or the head of a block from 'base' on. -/
def Own (w : World) (base : Nat) (A : Option Addr) (c : Nat) (xs : List Nat) (t : TypeId) : Prop :=
  c ≤ maxLen ∧ (A = none ∧ xs = [] ∧ c = 0 ∨ ∃ g r, A = some ⟨g, 0, none⟩ ∧ base ≤ g ∧ PreR w g xs r t ∧ c = xs.length + r.length)
theorem Own.sl (h : Own w base A c xs t) : Sl w A xs := by
  rcases h.2 with ⟨_, h, _⟩ | ⟨g, r, rfl, _, hp, _⟩
  · exact .inl h
  · refine .inr ⟨_, rfl, hp.lt, fun k hk => ?_⟩
    have e : (⟨g, 0, none⟩ : Addr).add k = ⟨g, k, none⟩ := by
      unfold Addr.add
      by_cases h0 : k = 0
      · subst h0; simp
      · simp [h0]
    rw [e]; exact hp.cell k hk
theorem Own.of_row {v : Value} {n : Nat} (h : w.ownsRow base t 1 v n (fll xs)) : ∃ A c, v = .slice A xs.length c ∧ Own w base A c xs t := by
  have hl := h.1
  rw [fll_length, Nat.mul_one] at hl
  subst hl
  rcases h.2 with ⟨rfl, h0⟩ | ⟨g, cap, cur, rfl, hb, hg, hn, hc, hs, htk⟩
  · exact ⟨none, 0, by rw [h0], by simp [maxLen], .inl ⟨rfl, List.eq_nil_of_length_eq_zero h0, rfl⟩⟩
  · refine ⟨_, cap, rfl, hc, .inr ⟨g, cur.toList.drop xs.length, rfl, hb, ?_, ?_⟩⟩
    · unfold PreR
      rw [Nat.mul_one] at htk
      rw [← htk, List.take_append_drop]; exact hg
    · have e : cur.toList.length = cap := by rw [Array.length_toList]; omega
      rw [List.length_drop, e]; omega
theorem Own.row (h : Own w base A c xs t) : w.ownsRow base t 1 (.slice A xs.length c) xs.length (fll xs) := by
  refine ⟨by rw [fll_length, Nat.mul_one], ?_⟩
  rcases h.2 with ⟨rfl, rfl, rfl⟩ | ⟨g, r, rfl, hb, hp, rfl⟩
  · exact .inl ⟨rfl, rfl⟩
  · exact .inr ⟨g, _, _, rfl, hb, hp, by omega, h.1, by rw [List.size_toArray, List.length_append, fll_length]; omega, List.take_left' (by rw [fll_length]; omega)⟩
theorem Own.ge (h : Own w base A c xs t) : ∀ k, ownBlk A = some k → base ≤ k := by
  intro k hk
  rcases h.2 with ⟨rfl, _⟩ | ⟨g, r, rfl, hb, _⟩
  · simp [ownBlk] at hk
  · simp [ownBlk] at hk; omega
theorem Own.lt (h : Own w base A c xs t) : ∀ k, ownBlk A = some k → k < w.heap.size := by
  intro k hk
  rcases h.2 with ⟨rfl, _⟩ | ⟨g, r, rfl, hb, hp, _⟩
  · simp [ownBlk] at hk
  · simp [ownBlk] at hk; have := hp.lt; omega
theorem own_block (h : Own w base A c xs t) : (Value.slice A xs.length c).ownBlock = ownBlk A := by
  rcases h.2 with ⟨rfl, _⟩ | ⟨g, r, rfl, _⟩ <;> rfl
theorem Own.kept (h : Own w base A c xs t) {row : Option Nat} (hg : w.grownBy w' row) (hne : ∀ k, ownBlk A = some k → some k ≠ row) : Own w' base A c xs t := by
  refine ⟨h.1, ?_⟩
  rcases h.2 with h1 | ⟨g, r, rfl, hb, hp, hc⟩
  · exact .inl h1
  · refine .inr ⟨g, r, rfl, hb, ?_, hc⟩
    unfold PreR
    rw [hg.block g hp.lt (hne g rfl)]; exact hp
theorem Own.below (h : Own w base A c xs t) {B : Nat} (hb : Below B w w') (hB : w.heap.size ≤ B) : Own w' base A c xs t := by
  refine ⟨h.1, ?_⟩
  rcases h.2 with h1 | ⟨g, r, rfl, hg, hp, hc⟩
  · exact .inl h1
  · refine .inr ⟨g, r, rfl, hg, ?_, hc⟩
    unfold PreR
    rw [hb.block g (Nat.lt_of_lt_of_le hp.lt hB)]; exact hp
theorem Own.of_blk (h : Blk w g xs t) (hb : base ≤ g) (hm : xs.length ≤ maxLen) : Own w base (some ⟨g, 0, none⟩) xs.length xs t :=
  ⟨hm, .inr ⟨g, [], rfl, hb, by unfold PreR; rw [List.append_nil]; exact h, rfl⟩⟩
theorem Own.mono (h : Own w base A c xs t) {b : Nat} (hb : b ≤ base) : Own w b A c xs t := by
  refine ⟨h.1, ?_⟩
  rcases h.2 with h1 | ⟨g, r, h1, h2, h3⟩
  · exact .inl h1
  · exact .inr ⟨g, r, h1, by omega, h3⟩
/-- Behind a store into another block. -/
theorem grownBy_refl (w : World) (row : Option Nat) : w.grownBy w row := ⟨rfl, rfl, rfl, Nat.le_refl _, fun _ _ _ => rfl⟩
theorem grownBy_trans {a b d : World} {row : Option Nat} (h : a.grownBy b row) (k : b.grownBy d row) : a.grownBy d row :=
  ⟨k.os.trans h.os, k.tape.trans h.tape, k.output.trans h.output, Nat.le_trans h.size k.size, fun i hi hn => (k.block i (Nat.lt_of_lt_of_le hi h.size) hn).trans (h.block i hi hn)⟩
theorem grownBy_setCell {a b : World} {x : Nat} (h : a.grownBy b (some x)) (off : Nat) (v : Value) : a.grownBy (b.setCell ⟨x, off, none⟩ v) (some x) :=
  grownBy_trans h ⟨rfl, rfl, rfl, by simp [World.setCell], fun k _ hn => Below.heap_setCell _ _ _ _ (fun e => hn (by rw [e]))⟩
theorem grownBy_below {a b : World} {row : Option Nat} (h : Below a.heap.size a b) : a.grownBy b row := ⟨h.os, h.tape, h.output, h.size, fun k hk _ => h.block k hk⟩
theorem below_grownBy {a b : World} {row : Option Nat} (h : a.grownBy b row) {B : Nat} (hB : B ≤ a.heap.size) (hr : ∀ k, row = some k → B ≤ k) : Below B a b := (Below.refl B a).grown h hB hr
theorem Sl.grown {ad : Addr} (h : Sl w (some ad) xs) {row : Option Nat} (hg : w.grownBy w' row) (hne : some ad.block ≠ row) : Sl w' (some ad) xs := by
  rcases h with h | ⟨a, hA, hlt, hc⟩
  · exact .inl h
  · cases hA
    exact .inr ⟨_, rfl, Nat.lt_of_lt_of_le hlt hg.size, fun k hk => by rw [World.cell?_of_block (w := w) (hg.block _ (by rw [addr_add_block]; exact hlt) (by rw [addr_add_block]; exact hne))]; exact hc k hk⟩
theorem Blk.grown (h : Blk w g xs t) {row : Option Nat} (hg : w.grownBy w' row) (hne : some g ≠ row) : Blk w' g xs t := by
  unfold Blk
  rw [hg.block g h.lt hne]; exact h
theorem Sl.news {ad : Addr} (h : Sl w (some ad) xs) : ∀ j u, (fll xs)[j]? = some u → w.cell? (ad.add j) = some u := by
  intro j u hu
  have hj : j < xs.length := by
    have := (List.getElem?_eq_some_iff.1 hu).1
    rwa [fll_length] at this
  rw [fll_get xs j hj] at hu
  cases hu
  rcases h with h | ⟨a, hA, _, hc⟩
  · rw [h] at hj; simp at hj
  · cases hA; exact hc j hj
theorem fll_one (xs : List Nat) : ∀ u ∈ fll xs, u.oneCell' = true := by
  intro u hu
  simp only [fll, List.mem_map] at hu
  obtain ⟨x, _, rfl⟩ := hu
  rfl
theorem fll_append (xs ys : List Nat) : fll (xs ++ ys) = fll xs ++ fll ys := by simp [fll]
end
end Go.Fl
namespace Go.Proofs.Ytpchebclhjgcmaa
open Go.RowKit Go.Fl
theorem Row.grown {w w' : World} {g : Nat} {cs : Array Value} {t : TypeId} (h : Row w g cs t) {row : Option Nat} (hg : w.grownBy w' row) (hne : some g ≠ row) : Row w' g cs t := by
  have hl := h.lt
  unfold Row at *
  rw [hg.block g hl hne]; exact h
set_option maxHeartbeats 1000000 in
theorem c_markFloat32S_own (A : Option Addr) (c base : Nat) (xs : List Nat) (m : Int) (w : World) (h : Own w base A c xs 25) (hl : (xs.length : Int) ≤ 4294967296) (h0 : 0 ≤ m) (h1 : m ≤ 4294967296) :
    Calls Try.prog 34 #[.slice A xs.length c, .int .i64 m] w fun e w' => e = .returned (.int .i64 (m + xs.length)) ∧ Own w' base A c (markL xs.length m) 25 ∧ w.grownBy w' (ownBlk A) := by
  rcases h with ⟨hc, ⟨rfl, rfl, rfl⟩ | ⟨g, r, rfl, hb, hp, rfl⟩⟩
  · refine (c_markFloat32S_nil _ _ _ _).mono ?_
    rintro e w' ⟨rfl, rfl⟩
    refine ⟨?_, ⟨hc, .inl ⟨rfl, rfl, rfl⟩⟩, grownBy_refl _ _⟩
    simp
  have hC := Lib.hid hc; have hB := Lib.hid hb; clear hc hb
  generalize hcc : xs.length + r.length = c at *
  have hCC := Lib.hid hcc; clear hcc
  generalize hn : xs.length = n at *
  have HN := Lib.hid hn; clear hn
  have HF : Hid (c = (markL n m).length + r.length) := by rw [markL_length]; exact hCC.out.symm
  go_enter Try.func34, Try.ntmps34
  go_wp2
  go_loopw [1, 5] (fun s i wr => ∃ j : Nat, j ≤ n ∧ s = .int .i64 (m + j) ∧ i = .int .i64 j ∧ PreR wr g (mix (markL n m) xs j) r 25 ∧ Hid (w.grownBy wr (some g))) (fun _ i _ => n - (intOf i).toNat)
  case atStart => exact ⟨0, by omega, by simp, rfl, by rw [mix_zero]; exact hp, grownBy_refl _ _⟩
  case round =>
    clear hp
    obtain ⟨j, hj, rfl, rfl, h3, hb⟩ := hrel
    by_cases hlt : j < n
    · have c3 := h3.cell j (by rw [mix_length _ _ _ (by rw [markL_length, HN.out]), HN.out]; exact hlt)
      have f3 := h3.free j
      have hi : (0 : Int) ≤ j := by omega
      have hi2 : (j : Int) < n := by omega
      go_wp2
      go_roundw
      case rel =>
        refine ⟨j + 1, by omega, by go_num, by go_num, ?_, grownBy_setCell hb.out _ _⟩
        rw [← mix_set _ _ _ (by rw [markL_length, HN.out]) (by rw [HN.out]; exact hlt), markL_nth _ _ _ hlt]
        exact h3.set _ _ (by rw [mix_length _ _ _ (by rw [markL_length, HN.out]), HN.out]; exact hlt)
      case measure => simp [intOf]; omega
    · have e : j = n := by omega
      subst e
      have h4 : PreR wr g (markL j m) r 25 := by
        have := mix_full (markL j m) xs (by rw [markL_length, HN.out])
        rw [HN.out] at this
        rw [this] at h3; exact h3
      clear h3
      go_wp2
      go_ret
      exact ⟨rfl, ⟨hC.out, .inr ⟨g, r, rfl, hB.out, h4, HF.out⟩⟩, hb.out⟩
set_option maxHeartbeats 1000000 in
theorem c_heldFloat32S_sl (A : Option Addr) (c n : Nat) (m : Int) (w : World) (hg : Sl w A (markL n m)) (hl : (n : Int) ≤ 4294967296) (h0 : 0 ≤ m) (h1 : m ≤ 4294967296) :
    Calls Try.prog 77 #[.slice A n c, .int .i64 m] w fun e w' => e = .returned (.int .i64 (m + n)) ∧ Below w.heap.size w w' := by
  have HG := Lib.hid hg; clear hg
  go_enter Try.func77, Try.ntmps77
  go_wp2
  go_loopw [1, 5] (fun s i wr => ∃ j : Nat, j ≤ n ∧ s = .int .i64 (m + j) ∧ i = .int .i64 j ∧ Below w.heap.size w wr) (fun _ i _ => n - (intOf i).toNat)
  case atStart => exact ⟨0, by omega, by simp, rfl, Below.refl _ _⟩
  case round =>
    obtain ⟨j, hj, rfl, rfl, hb⟩ := hrel
    by_cases hlt : j < n
    · obtain ⟨ad, rfl, hbl, c3⟩ := (HG.out.below hb).at_ (k := j) (by rw [markL_length]; exact hlt)
      rw [markL_nth _ _ _ hlt] at c3
      have hself := int_self (m + (j : Int))
      have hi : (0 : Int) ≤ j := by omega
      have hi2 : (j : Int) < n := by omega
      go_wp2
      go_roundw
      case rel => exact ⟨j + 1, by omega, by go_num, by go_num, hb⟩
      case measure => simp [intOf]; omega
    · have e : j = n := by omega
      subst e
      go_wp2
      go_ret
      exact ⟨rfl, hb⟩
end Go.Proofs.Ytpchebclhjgcmaa
