/- Rings of one's own in a row: marked by the law and found again. Pipes of one's own: marked by the law and found again. Slices of int64: an argument opened, copied, compared, marked by the law. Rings in the making: appended to two rows side by side. No condition. -/
import Derived.Test.YtpchebclhjgcmaaLs
import Derived.Test.YtpchebclhjgcmaaOg
import Derived.Test.YtpchebclhjgcmaaJg
import Derived.Test.YtpchebclhjgcmaaTa
import Derived.Test.YtpchebclhjgcmaaSz
import Derived.Test.YtpchebclhjgcmaaSr
namespace Go.Fl
open Go.RowKit
/-- What has changed lies in S. -/
structure Chg (w w' : World) (S : Nat → Prop) : Prop where
  os : w'.os = w.os
  tape : w'.tape = w.tape
  output : w'.output = w.output
  size : w.heap.size ≤ w'.heap.size
  block : ∀ k, k < w.heap.size → ¬ S k → w'.heap[k]? = w.heap[k]?
theorem Chg.refl (w : World) (S : Nat → Prop) : Chg w w S := ⟨rfl, rfl, rfl, Nat.le_refl _, fun _ _ _ => rfl⟩
theorem Chg.trans {a b d : World} {S : Nat → Prop} (h : Chg a b S) (k : Chg b d S) : Chg a d S :=
  ⟨k.os.trans h.os, k.tape.trans h.tape, k.output.trans h.output, Nat.le_trans h.size k.size, fun i hi hn => (k.block i (Nat.lt_of_lt_of_le hi h.size) hn).trans (h.block i hi hn)⟩
theorem Chg.mono {a b : World} {S T : Nat → Prop} (h : Chg a b S) (hs : ∀ k, S k → T k) : Chg a b T := ⟨h.os, h.tape, h.output, h.size, fun k hk hn => h.block k hk (fun e => hn (hs k e))⟩
theorem Chg.of_grown {a b : World} {row : Option Nat} {S : Nat → Prop} (h : a.grownBy b row) (hs : ∀ k, row = some k → S k) : Chg a b S := ⟨h.os, h.tape, h.output, h.size, fun k hk hn => h.block k hk (fun e => hn (hs k e.symm))⟩
theorem Chg.of_below {a b : World} {S : Nat → Prop} (h : Below a.heap.size a b) : Chg a b S := ⟨h.os, h.tape, h.output, h.size, fun k hk _ => h.block k hk⟩
theorem Chg.below {a b : World} {S : Nat → Prop} (h : Chg a b S) {B : Nat} (hB : B ≤ a.heap.size) (hs : ∀ k, S k → B ≤ k) : Below B a b := ⟨h.os, h.tape, h.output, h.size, fun k hk => h.block k (by omega) (fun e => by have := hs k e; omega)⟩
theorem Chg.setCell {a b : World} {S : Nat → Prop} (h : Chg a b S) {x : Nat} (hx : S x) (off : Nat) (v : Value) : Chg a (b.setCell ⟨x, off, none⟩ v) S :=
  h.trans ⟨rfl, rfl, rfl, by simp [World.setCell], fun k _ hn => Below.heap_setCell _ _ _ _ (fun e => hn (by rw [e]; exact hx))⟩
/-- The first cells of block G are these rings. -/
def RowR (w : World) (G : Nat) (rs : List RingV) (t : TypeId) : Prop := ∃ r, w.heap[G]? = some (.cells (fl2 rs ++ r).toArray t)
section
variable {w w' : World} {G : Nat} {rs : List RingV} {t : TypeId}
theorem RowR.lt (h : RowR w G rs t) : G < w.heap.size := by
  obtain ⟨r, h⟩ := h
  rcases Nat.lt_or_ge G w.heap.size with h1 | h1
  · exact h1
  · rw [Array.getElem?_eq_none h1] at h; cases h
theorem RowR.cells (h : RowR w G rs t) {k : Nat} (hk : k < rs.length) : w.cell? ⟨G, k * 2, none⟩ = some (.slice (rgs rs k).A (rgs rs k).xs.length (rgs rs k).c) ∧ w.cell? ⟨G, k * 2 + 1, none⟩ = some (.int .i64 (rgs rs k).at0) := by
  obtain ⟨r, h⟩ := h
  obtain ⟨h1, h2⟩ := fl2_at rs k hk
  have hl := fl2_length rs
  refine ⟨?_, ?_⟩
  · rw [Go.Joins.cell_of_block h]
    simp only [List.getElem?_toArray]
    rw [List.getElem?_append_left (by omega)]; exact h1
  · rw [Go.Joins.cell_of_block h]
    simp only [List.getElem?_toArray]
    rw [List.getElem?_append_left (by omega)]; exact h2
theorem RowR.free (h : RowR w G rs t) (k : Nat) : w.frozen? ⟨G, k, none⟩ = false := by
  obtain ⟨r, h⟩ := h
  exact Go.Joins.unfrozen_of_block h k
theorem RowR.block (h : RowR w G rs t) (hb : w'.heap[G]? = w.heap[G]?) : RowR w' G rs t := by
  obtain ⟨r, h⟩ := h
  exact ⟨r, hb.trans h⟩
theorem set_fl2 : ∀ (rs : List RingV) (k : Nat) (r : RingV), k < rs.length → r.A = (rgs rs k).A → r.c = (rgs rs k).c → r.xs.length = (rgs rs k).xs.length → (fl2 rs).set (k * 2 + 1) (.int .i64 r.at0) = fl2 (rs.set k r)
  | q :: rs, 0, r, _, hA, hc, hx => by
    have e : rgs (q :: rs) 0 = q := rfl
    rw [e] at hA hc hx
    simp [fl2, rgC, hA, hc, hx]
  | q :: rs, k + 1, r, h, hA, hc, hx => by
    have e2 : rgs (q :: rs) (k + 1) = rgs rs k := by simp [rgs]
    rw [e2] at hA hc hx
    have ih := set_fl2 rs k r (by simpa using h) hA hc hx
    have e : fl2 (q :: rs) = rgC q ++ fl2 rs := rfl
    rw [List.set_cons_succ, show fl2 (q :: rs.set k r) = rgC q ++ fl2 (rs.set k r) from rfl, ← ih, e]
    rw [List.set_append_right _ _ (by rw [rgC_length]; omega), rgC_length, show (k + 1) * 2 + 1 - 2 = k * 2 + 1 from by omega]
theorem RowR.setAt (h : RowR w G rs t) {k : Nat} (hk : k < rs.length) (r : RingV) (hA : r.A = (rgs rs k).A) (hc : r.c = (rgs rs k).c) (hx : r.xs.length = (rgs rs k).xs.length) : RowR (w.setCell ⟨G, k * 2 + 1, none⟩ (.int .i64 r.at0)) G (rs.set k r) t := by
  obtain ⟨q, h⟩ := h
  refine ⟨q, ?_⟩
  rw [Go.Joins.block_setCell h, List.setIfInBounds_toArray, List.set_append_left _ _ (by rw [fl2_length]; omega), set_fl2 rs k r hk hA hc hx]
end
end Go.Fl
namespace Go.Proofs.Ytpchebclhjgcmaa
open Go.RowKit Go.Fl
def startR (rs : List RingV) (m : Int) (k : Nat) : Int := m + (sumTo rs k : Int) + (k : Int)
theorem startR_zero (rs : List RingV) (m : Int) : startR rs m 0 = m := by simp [startR, sumTo]
theorem startR_succ (rs : List RingV) (m : Int) (k : Nat) : startR rs m (k + 1) = startR rs m k + ((rgs rs k).xs.length : Int) + 1 := by
  unfold startR; rw [sumTo_succ]; omega
theorem startR_end (rs : List RingV) (m : Int) : startR rs m rs.length = m + (totR rs : Int) := by
  unfold startR totR; omega
theorem startR_le (rs : List RingV) (m : Int) {k : Nat} (hk : k ≤ rs.length) : m ≤ startR rs m k ∧ startR rs m k ≤ m + (totR rs : Int) := by
  have := sumTo_le rs hk
  unfold startR totR; omega
/-- Ring k behind the law's marks. -/
def mkR (rs : List RingV) (m : Int) (k : Nat) : RingV := ⟨(rgs rs k).A, (rgs rs k).c, markL (rgs rs k).xs.length (startR rs m k), startR rs m k + ((rgs rs k).xs.length : Int)⟩
def midR (rs : List RingV) (m : Int) : Nat → List RingV
  | 0 => rs
  | k + 1 => (midR rs m k).set k (mkR rs m k)
def markR (rs : List RingV) (m : Int) : List RingV := midR rs m rs.length
theorem midR_length (rs : List RingV) (m : Int) : ∀ k, (midR rs m k).length = rs.length
  | 0 => rfl
  | k + 1 => by show ((midR rs m k).set k _).length = _; rw [List.length_set]; exact midR_length rs m k
theorem markR_length (rs : List RingV) (m : Int) : (markR rs m).length = rs.length := midR_length rs m _
theorem midR_at (rs : List RingV) (m : Int) : ∀ k j, k ≤ rs.length → rgs (midR rs m k) j = if j < k then mkR rs m j else rgs rs j
  | 0, j, _ => by simp [midR]
  | k + 1, j, h => by
    show rgs ((midR rs m k).set k _) j = _
    rw [rgs_set _ _ _ _ (by rw [midR_length]; omega), midR_at rs m k j (by omega)]
    by_cases e : j = k
    · subst e; rw [if_pos rfl, if_pos (by omega)]
    · rw [if_neg e]
      by_cases h2 : j < k
      · rw [if_pos h2, if_pos (by omega)]
      · rw [if_neg h2, if_neg (by omega)]
theorem midR_now (rs : List RingV) (m : Int) (k : Nat) (h : k < rs.length) : rgs (midR rs m k) k = rgs rs k := by
  rw [midR_at rs m k k (by omega), if_neg (by omega)]
theorem markR_at (rs : List RingV) (m : Int) (k : Nat) (h : k < rs.length) : rgs (markR rs m) k = mkR rs m k := by
  unfold markR
  rw [midR_at rs m _ k (by omega), if_pos h]
theorem mkR_len (rs : List RingV) (m : Int) (k : Nat) : (mkR rs m k).xs.length = (rgs rs k).xs.length := by
  unfold mkR; exact markL_length _ _
theorem markR_sumTo (rs : List RingV) (m : Int) : ∀ k, k ≤ rs.length → sumTo (markR rs m) k = sumTo rs k
  | 0, _ => by simp [sumTo]
  | k + 1, h => by rw [sumTo_succ, sumTo_succ, markR_sumTo rs m k (by omega), markR_at rs m k (by omega), mkR_len]
/-- The rings rs at A, all of one's own: the row's block G, the ring k's samples in block b k. -/
structure RO (w : World) (base : Nat) (A : Option Addr) (rs : List RingV) (G : Nat) (b : Nat → Nat) : Prop where
  head : 0 < rs.length → A = some ⟨G, 0, none⟩ ∧ base ≤ G
  row : 0 < rs.length → RowR w G rs 34
  own : ∀ k, k < rs.length → (rgs rs k).A = some ⟨b k, 0, none⟩ ∧ base ≤ b k ∧ b k ≠ G ∧ Blk w (b k) (rgs rs k).xs 25
  inj : ∀ k j, k < rs.length → j < rs.length → b j = b k → j = k
/-- The blocks of such rings. -/
def SR (rs : List RingV) (G : Nat) (b : Nat → Nat) (x : Nat) : Prop := 0 < rs.length ∧ (x = G ∨ ∃ k, k < rs.length ∧ x = b k)
theorem RO.ge {w : World} {base : Nat} {A : Option Addr} {rs : List RingV} {G : Nat} {b : Nat → Nat} (h : RO w base A rs G b) : ∀ x, SR rs G b x → base ≤ x := by
  rintro x ⟨h0, rfl | ⟨k, hk, rfl⟩⟩
  · exact (h.head h0).2
  · exact (h.own k hk).2.1
theorem RO.lt {w : World} {base : Nat} {A : Option Addr} {rs : List RingV} {G : Nat} {b : Nat → Nat} (h : RO w base A rs G b) : ∀ x, SR rs G b x → x < w.heap.size := by
  rintro x ⟨h0, rfl | ⟨k, hk, rfl⟩⟩
  · exact (h.row h0).lt
  · exact (h.own k hk).2.2.2.lt
theorem RO.chg {w w' : World} {base : Nat} {A : Option Addr} {rs : List RingV} {G : Nat} {b : Nat → Nat} (h : RO w base A rs G b) {S : Nat → Prop} (hc : Chg w w' S) (hd : ∀ x, SR rs G b x → ¬ S x) : RO w' base A rs G b := by
  refine ⟨h.head, fun h0 => (h.row h0).block (hc.block _ (h.row h0).lt (hd _ ⟨h0, .inl rfl⟩)), fun k hk => ?_, h.inj⟩
  obtain ⟨h1, h2, h3, h4⟩ := h.own k hk
  refine ⟨h1, h2, h3, ?_⟩
  unfold Blk
  rw [hc.block _ h4.lt (hd _ ⟨by omega, .inr ⟨k, hk, rfl⟩⟩)]; exact h4
theorem RO.rs {w : World} {base : Nat} {A : Option Addr} {rs : List RingV} {G : Nat} {b : Nat → Nat} (h : RO w base A rs G b) : Rs w A rs := by
  by_cases h0 : rs = []
  · exact .inl h0
  have hl : 0 < rs.length := List.length_pos_iff.2 h0
  have hadd : ∀ j, (⟨G, 0, none⟩ : Addr).add j = ⟨G, j, none⟩ := fun j => by
    unfold Addr.add
    by_cases h0 : j = 0
    · subst h0; simp
    · simp [h0]
  refine .inr ⟨_, (h.head hl).1, (h.row hl).lt, fun k hk => ?_⟩
  obtain ⟨h1, h2⟩ := (h.row hl).cells hk
  obtain ⟨h3, _, _, h4⟩ := h.own k hk
  exact ⟨by rw [hadd]; exact h1, by rw [hadd]; exact h2, by rw [h3]; exact Sl.of_blk h4⟩
set_option maxRecDepth 20000 in
set_option maxHeartbeats 1000000 in
theorem c_markRingS (A : Option Addr) (c n base G : Nat) (b : Nat → Nat) (rs : List RingV) (m : Int) (w : World) (h : RO w base A rs G b) (hn : rs.length = n) (h0 : 0 ≤ m) (h1 : m + (totR rs : Int) ≤ 4294967295) :
    Calls Try.prog 75 #[.slice A n c, .int .i64 m] w fun e w' => e = .returned (.int .i64 (m + (totR rs : Int))) ∧ RO w' base A (markR rs m) G b ∧ Chg w w' (SR rs G b) := by
  by_cases hz : n = 0
  · subst hz
    obtain rfl : rs = [] := List.length_eq_zero_iff.1 hn
    go_enter Try.func75, Try.ntmps75
    go_wp2_with fail
    go_loopw [1, 5] (fun s i wr => s = .int .i64 m ∧ i = .int .i64 0 ∧ wr = w) (fun _ _ _ => 0)
    case atStart => exact ⟨rfl, rfl, rfl⟩
    case round =>
      obtain ⟨rfl, rfl, rfl⟩ := hrel
      go_wp2_with fail
      go_ret
      exact ⟨by simp [totR, sumTo], h, Chg.refl _ _⟩
  obtain ⟨hA, hG⟩ := h.head (by omega)
  subst hA
  have HN := Lib.hid hn; have HO := Lib.hid h; have H0 := Lib.hid h0; have H1 := Lib.hid h1
  have hrow := h.row (by omega)
  have hblk : ∀ k, k < n → Blk w (b k) (rgs (midR rs m 0) k).xs 25 := fun k hk => (h.own k (by omega)).2.2.2
  clear h h0 h1 hn hG
  go_enter Try.func75, Try.ntmps75
  go_wp2_with fail
  go_loopw [1, 5] (fun s i wr => ∃ (k : Nat) (v : Int), k ≤ n ∧ s = .int .i64 v ∧ i = .int .i64 k ∧ Hid (v = startR rs m k) ∧ RowR wr G (midR rs m k) 34 ∧ Hid (∀ j, j < n → Blk wr (b j) (rgs (midR rs m k) j).xs 25) ∧ Hid (Chg w wr (SR rs G b))) (fun _ i _ => n - (intOf i).toNat)
  case atStart => exact ⟨0, m, by omega, rfl, rfl, (startR_zero rs m).symm, hrow, hblk, Chg.refl _ _⟩
  case round =>
    clear hrow hblk
    obtain ⟨k, v, hk, rfl, rfl, HV, hr, HB, HC⟩ := hrel
    by_cases hlt : k < n
    · have hkr : k < rs.length := by rw [HN.out]; exact hlt
      obtain ⟨a0, a1⟩ := hr.cells (k := k) (by rw [midR_length]; exact hkr)
      have f1 := hr.free (k * 2 + 1)
      rw [midR_now rs m k hkr] at a0 a1
      rw [(HO.out.own k hkr).1] at a0
      have hbk := HB.out k hlt
      rw [midR_now rs m k hkr] at hbk
      have hle := startR_le rs m (k := k) (by omega)
      have hle2 := startR_le rs m (k := k + 1) hkr
      have hsu := startR_succ rs m k
      have hv := HV.out; have hh0 := H0.out; have hh1 := H1.out
      have hv0 : 0 ≤ v := by omega
      have hv1 : v ≤ 4294967296 := by omega
      have hlen : ((rgs rs k).xs.length : Int) ≤ 4294967296 := by omega
      have hlen0 : (0 : Int) ≤ ((rgs rs k).xs.length : Int) := by omega
      have hsum : v + ((rgs rs k).xs.length : Int) ≤ 4294967295 := by omega
      have CM := Lib.hid (fun W (hw : Blk W (b k) (rgs rs k).xs 25) => c_markFloat32S (b k) (rgs rs k).c (rgs rs k).xs v W hw hlen hv0 hv1)
      have HE : Hid (mkR rs m k = ⟨(rgs rs k).A, (rgs rs k).c, markL (rgs rs k).xs.length v, v + ((rgs rs k).xs.length : Int)⟩) := by unfold mkR; rw [hv]; rfl
      have HS : Hid (v + ((rgs rs k).xs.length : Int) + 1 = startR rs m (k + 1)) := Lib.hid (by omega)
      have HBK := Lib.hid hbk; have HR := Lib.hid hr
      have hi : (0 : Int) ≤ k := by omega
      have hi2 : (k : Int) < n := by omega
      have hi3 : (n : Int) ≤ 4294967296 := by
        have := HN.out; unfold totR at hh1; omega
      have HNE := Lib.hid (HO.out.own k hkr).2.2.1
      clear hle hle2 hsu hv hh0 hh1 hlen hbk hr
      generalize ((rgs rs k).xs.length : Int) = len at *
      generalize hL : (rgs rs k).xs.length = lenN at *
      go_wp2_with fail
      refine (CM.out _ HBK.out).mono ?_; rintro e w1 ⟨rfl, hm, hbl, hoth⟩
      have hg1 : wr.grownBy w1 (some (b k)) := ⟨hbl.os, hbl.tape, hbl.output, hbl.size, fun x _ hx => hoth x (fun e => hx (by rw [e]))⟩
      have HG1 := Lib.hid hg1; have HM := Lib.hid hm; have HOT := Lib.hid hoth
      replace HR := Lib.hid (HR.out.block (hoth G (fun e => HNE.out e.symm)))
      have c1 := (HR.out.cells (k := k) (by rw [midR_length]; exact hkr)).2
      have g1 := HR.out.free (k * 2 + 1)
      clear hg1 hm hoth hbl a0 a1 f1
      go_wp2_with fail
      go_roundw
      case rel =>
        refine ⟨k + 1, v + len + 1, by omega, by go_num, by go_num, HS.out, ?_, fun j hj => ?_, ?_⟩
        · have h1 := HR.out.setAt (k := k) (by rw [midR_length]; exact hkr) (mkR rs m k) (by rw [midR_now rs m k hkr]; rfl) (by rw [midR_now rs m k hkr]; rfl) (by rw [midR_now rs m k hkr, mkR_len])
          rw [HE.out] at h1
          have h2 : midR rs m (k + 1) = (midR rs m k).set k (mkR rs m k) := rfl
          rw [h2, HE.out]
          exact h1
        · rw [midR_at rs m (k + 1) j (by have := HN.out; omega)]
          by_cases e : j = k
          · subst e
            rw [if_pos (by omega), HE.out]
            exact HM.out.other HNE.out _
          · have h3 := HB.out j hj
            rw [midR_at rs m k j (by have := HN.out; omega)] at h3
            have hne : b j ≠ b k := fun e2 => e (HO.out.inj k j hkr (by have := HN.out; omega) e2)
            have h4 : Blk w1 (b j) (if j < k then mkR rs m j else rgs rs j).xs 25 := by
              unfold Blk; rw [HOT.out _ hne]; exact h3
            have h5 := h4.other (b := G) (off := k * 2 + 1) (HO.out.own j (by have := HN.out; omega)).2.2.1 (.int .i64 (v + len))
            by_cases h6 : j < k
            · rw [if_pos (by omega)]; rw [if_pos h6] at h5; exact h5
            · rw [if_neg (by omega)]; rw [if_neg h6] at h5; exact h5
        · exact (HC.out.trans (Chg.of_grown HG1.out (fun x hx => by cases hx; exact ⟨by omega, .inr ⟨k, hkr, rfl⟩⟩))).setCell ⟨by omega, .inl rfl⟩ _ _
      case measure => simp [intOf]; omega
    · have e : k = n := by omega
      subst e
      have HE : Hid (v = m + (totR rs : Int)) := Lib.hid (by rw [HV.out, ← HN.out]; exact startR_end rs m)
      have HRO : Hid (RO wr base (some ⟨G, 0, none⟩) (markR rs m) G b) := Lib.hid (by
        have hk2 : markR rs m = midR rs m k := by unfold markR; rw [HN.out]
        refine ⟨fun h0 => ?_, fun h0 => by rw [hk2]; exact hr, fun j hj => ?_, fun i j hi hj => HO.out.inj i j (by rw [markR_length] at hi; exact hi) (by rw [markR_length] at hj; exact hj)⟩
        · exact HO.out.head (by rw [markR_length] at h0; exact h0)
        · rw [markR_length] at hj
          obtain ⟨h1, h2, h3, _⟩ := HO.out.own j hj
          have h4 := HB.out j (by have := HN.out; omega)
          rw [← hk2] at h4
          rw [markR_at rs m j hj] at h4 ⊢
          exact ⟨h1, h2, h3, h4⟩)
      clear hr HB
      go_wp2_with fail
      go_ret
      exact ⟨congrArg (fun x => Ending.returned (Value.int .i64 x)) HE.out, HRO.out, HC.out⟩
set_option maxRecDepth 20000 in
set_option maxHeartbeats 1000000 in
theorem c_heldRingS (A : Option Addr) (c n : Nat) (rs : List RingV) (m : Int) (w : World) (h : Rs w A (markR rs m)) (hn : rs.length = n) (h0 : 0 ≤ m) (h1 : m + (totR rs : Int) ≤ 4294967295) :
    Calls Try.prog 76 #[.slice A n c, .int .i64 m] w fun e w' => e = .returned (.int .i64 (m + (totR rs : Int))) ∧ Below w.heap.size w w' := by
  have HN := Lib.hid hn; have HS := Lib.hid h; have H0 := Lib.hid h0; have H1 := Lib.hid h1
  clear h h0 h1 hn
  go_enter Try.func76, Try.ntmps76
  go_wp2_with fail
  go_loopw [1, 5] (fun s i wr => ∃ (k : Nat) (v : Int), k ≤ n ∧ s = .int .i64 v ∧ i = .int .i64 k ∧ Hid (v = startR rs m k) ∧ Below w.heap.size w wr) (fun _ i _ => n - (intOf i).toNat)
  case atStart => exact ⟨0, m, by omega, rfl, rfl, (startR_zero rs m).symm, Below.refl _ _⟩
  case round =>
    obtain ⟨k, v, hk, rfl, rfl, HV, hb⟩ := hrel
    by_cases hlt : k < n
    · have hkr : k < rs.length := by rw [HN.out]; exact hlt
      obtain ⟨ad, rfl, hbl, hc, hsl⟩ := (HS.out.below hb).at_ (k := k) (by rw [markR_length]; exact hkr)
      rw [markR_at rs m k hkr] at hc hsl
      have hle := startR_le rs m (k := k) (by omega)
      have hle2 := startR_le rs m (k := k + 1) hkr
      have hsu := startR_succ rs m k
      have hv := HV.out; have hh0 := H0.out; have hh1 := H1.out
      have hv0 : 0 ≤ v := by omega
      have hv1 : v ≤ 4294967296 := by omega
      have hlen : ((rgs rs k).xs.length : Int) ≤ 4294967296 := by omega
      have hlen0 : (0 : Int) ≤ ((rgs rs k).xs.length : Int) := by omega
      have hsum : v + ((rgs rs k).xs.length : Int) ≤ 4294967295 := by omega
      have hnn : ¬ (v + ((rgs rs k).xs.length : Int) < 0) := by omega
      have a0 : wr.cell? (ad.add (k * 2)) = some (.slice (rgs rs k).A (rgs rs k).xs.length (rgs rs k).c) := by
        have := hc 0 _ rfl
        rw [mkR_len] at this
        have e : (ad.add (k * 2)).add 0 = ad.add (k * 2) := by unfold Addr.add; simp
        rw [e] at this; exact this
      have a1 : wr.cell? ⟨(ad.add (k * 2)).block, (ad.add (k * 2)).off + 1, none⟩ = some (.int .i64 (v + ((rgs rs k).xs.length : Int))) := by
        have := hc 1 _ rfl
        have e2 : (mkR rs m k).at0 = v + ((rgs rs k).xs.length : Int) := by rw [hv]; rfl
        rw [e2] at this
        exact this
      have hsl2 : Sl wr (rgs rs k).A (markL (rgs rs k).xs.length v) := by
        have e3 : (mkR rs m k).xs = markL (rgs rs k).xs.length v := by rw [hv]; rfl
        have e4 : (mkR rs m k).A = (rgs rs k).A := rfl
        rw [e3, e4] at hsl
        exact hsl
      have CH := Lib.hid (c_heldFloat32S_sl (rgs rs k).A (rgs rs k).c (rgs rs k).xs.length v wr hsl2 hlen hv0 hv1)
      have HS2 : Hid (v + ((rgs rs k).xs.length : Int) + 1 = startR rs m (k + 1)) := Lib.hid (by omega)
      have HLT := Lib.hid hbl
      have hi : (0 : Int) ≤ k := by omega
      have hi2 : (k : Int) < n := by omega
      have hi3 : (n : Int) ≤ 4294967296 := by
        have := HN.out; unfold totR at hh1; omega
      clear hle hle2 hsu hv hh0 hh1 hlen hsl hsl2 hc
      generalize ((rgs rs k).xs.length : Int) = len at *
      generalize (rgs rs k).xs.length = lenN at *
      go_wp2_with fail
      refine CH.out.mono ?_; rintro e w1 ⟨rfl, b⟩
      have a2 : w1.cell? ⟨(ad.add (k * 2)).block, (ad.add (k * 2)).off + 1, none⟩ = some (.int .i64 (v + len)) := by
        rw [b.cell (p := ⟨(ad.add (k * 2)).block, (ad.add (k * 2)).off + 1, none⟩) (by rw [addr_add_block]; exact HLT.out)]; exact a1
      replace hb := seq_below hb b; clear b a0 a1
      go_wp2_with fail
      go_roundw
      case rel => exact ⟨k + 1, v + len + 1, by omega, by go_num, by go_num, HS2.out, hb⟩
      case measure => simp [intOf]; omega
    · have e : k = n := by omega
      subst e
      have HE : Hid (v = m + (totR rs : Int)) := Lib.hid (by rw [HV.out, ← HN.out]; exact startR_end rs m)
      go_wp2_with fail
      go_ret
      exact ⟨congrArg (fun x => Ending.returned (Value.int .i64 x)) HE.out, hb⟩
end Go.Proofs.Ytpchebclhjgcmaa
namespace Go.Proofs.Ytpchebclhjgcmaa
open Go.RowKit Go.Fl
theorem own_chg {w w' : World} {base : Nat} {A : Option Addr} {c : Nat} {xs : List Nat} {t : TypeId} (h : Own w base A c xs t) {S : Nat → Prop} (hc : Chg w w' S) (hd : ∀ x, ownBlk A = some x → ¬ S x) : Own w' base A c xs t := by
  refine ⟨h.1, ?_⟩
  rcases h.2 with h1 | ⟨g, r, rfl, hb, hp, hl⟩
  · exact .inl h1
  · refine .inr ⟨g, r, rfl, hb, ?_, hl⟩
    unfold PreR
    rw [hc.block g hp.lt (hd g rfl)]; exact hp
theorem Row.chg {w w' : World} {g : Nat} {cs : Array Value} {t : TypeId} (h : Row w g cs t) {S : Nat → Prop} (hc : Chg w w' S) (hd : ¬ S g) : Row w' g cs t := by
  have hl := h.lt
  unfold Row at *
  rw [hc.block g hl hd]; exact h
/-- A pipe of one's own. -/
structure PO (w : World) (base : Nat) (p : PipV) (G1 : Nat) (b1 : Nat → Nat) (G2 : Nat) (b2 : Nat → Nat) : Prop where
  r : RO w base p.A1 p.rs G1 b1
  l : RO w base p.A2 p.qs G2 b2
  s : p.xs = [] ∨ Own w base p.A3 p.c3 p.xs 25
  d12 : ∀ x, SR p.rs G1 b1 x → ¬ SR p.qs G2 b2 x
  d13 : p.xs ≠ [] → ∀ x, ownBlk p.A3 = some x → ¬ SR p.rs G1 b1 x ∧ ¬ SR p.qs G2 b2 x
theorem PO.at_ {w : World} {base : Nat} {p : PipV} {G1 : Nat} {b1 : Nat → Nat} {G2 : Nat} {b2 : Nat → Nat} (h : PO w base p G1 b1 G2 b2) : PipAt w p :=
  ⟨h.r.rs, h.l.rs, h.s.elim .inl (fun h => h.sl)⟩
theorem PO.below {w w' : World} {base : Nat} {p : PipV} {G1 : Nat} {b1 : Nat → Nat} {G2 : Nat} {b2 : Nat → Nat} (h : PO w base p G1 b1 G2 b2) (hb : Below w.heap.size w w') : PO w' base p G1 b1 G2 b2 :=
  ⟨h.r.chg (Chg.of_below (S := fun _ => False) hb) (fun _ _ => id), h.l.chg (Chg.of_below (S := fun _ => False) hb) (fun _ _ => id), h.s.elim .inl (fun h => .inr (h.below hb (Nat.le_refl _))), h.d12, h.d13⟩
/-- The blocks of a pipe of one's own. -/
def PoB (p : PipV) (G1 : Nat) (b1 : Nat → Nat) (G2 : Nat) (b2 : Nat → Nat) (x : Nat) : Prop := SR p.rs G1 b1 x ∨ SR p.qs G2 b2 x ∨ (p.xs ≠ [] ∧ ownBlk p.A3 = some x)
theorem PO.ge {w : World} {base : Nat} {p : PipV} {G1 : Nat} {b1 : Nat → Nat} {G2 : Nat} {b2 : Nat → Nat} (h : PO w base p G1 b1 G2 b2) : ∀ x, PoB p G1 b1 G2 b2 x → base ≤ x := by
  rintro x (h1 | h1 | ⟨h1, h2⟩)
  · exact h.r.ge x h1
  · exact h.l.ge x h1
  · exact (h.s.resolve_left h1).ge x h2
theorem PO.lt {w : World} {base : Nat} {p : PipV} {G1 : Nat} {b1 : Nat → Nat} {G2 : Nat} {b2 : Nat → Nat} (h : PO w base p G1 b1 G2 b2) : ∀ x, PoB p G1 b1 G2 b2 x → x < w.heap.size := by
  rintro x (h1 | h1 | ⟨h1, h2⟩)
  · exact h.r.lt x h1
  · exact h.l.lt x h1
  · exact (h.s.resolve_left h1).lt x h2
theorem PO.chg {w w' : World} {base : Nat} {p : PipV} {G1 : Nat} {b1 : Nat → Nat} {G2 : Nat} {b2 : Nat → Nat} (h : PO w base p G1 b1 G2 b2) {S : Nat → Prop} (hc : Chg w w' S) (hd : ∀ x, PoB p G1 b1 G2 b2 x → ¬ S x) : PO w' base p G1 b1 G2 b2 := by
  refine ⟨h.r.chg hc (fun x hx => hd x (.inl hx)), h.l.chg hc (fun x hx => hd x (.inr (.inl hx))), ?_, h.d12, h.d13⟩
  by_cases hx : p.xs = []
  · exact .inl hx
  · exact .inr (own_chg (h.s.resolve_left hx) hc (fun x e => hd x (.inr (.inr ⟨hx, e⟩))))
theorem SR_mark {rs : List RingV} {m : Int} {G : Nat} {b : Nat → Nat} {x : Nat} (h : SR (markR rs m) G b x) : SR rs G b x := by
  unfold SR at *
  rwa [markR_length] at h
def markP (p : PipV) (m : Int) : PipV := { p with rs := markR p.rs m, qs := markR p.qs (m + (totR p.rs : Int)), xs := markL p.xs.length (m + (totR p.rs : Int) + (totR p.qs : Int)) }
theorem markP_cells (p : PipV) (m : Int) : (markP p m).cells = p.cells := by
  unfold PipV.cells markP
  simp only [markR_length, markL_length]
theorem c_markF_any (A : Option Addr) (c base : Nat) (xs : List Nat) (m : Int) (w : World) (h : xs = [] ∨ Own w base A c xs 25) (hl : (xs.length : Int) ≤ 4294967296) (h0 : 0 ≤ m) (h1 : m ≤ 4294967296) :
    Calls Try.prog 34 #[.slice A xs.length c, .int .i64 m] w fun e w' => e = .returned (.int .i64 (m + xs.length)) ∧ Sl w' A (markL xs.length m) ∧ Chg w w' (fun x => xs ≠ [] ∧ ownBlk A = some x) := by
  by_cases hx : xs = []
  · subst hx
    refine (c_markFloat32S_nil A c m w).mono ?_; rintro e w' ⟨rfl, rfl⟩
    exact ⟨by simp, .inl rfl, Chg.refl _ _⟩
  · have ho := h.resolve_left hx
    refine (c_markFloat32S_own A c base xs m w ho hl h0 h1).mono ?_; rintro e w' ⟨rfl, ho', hg⟩
    exact ⟨rfl, ho'.sl, Chg.of_grown hg (fun k hk => ⟨hx, hk⟩)⟩
set_option maxRecDepth 20000 in
set_option maxHeartbeats 1000000 in
theorem c_markPipe (p : PipV) (base G1 : Nat) (b1 : Nat → Nat) (G2 : Nat) (b2 : Nat → Nat) (w : World) (h : PO w base p G1 b1 G2 b2) (hm : (totP p : Int) ≤ 1048576) :
    Calls Try.prog 35 #[.agg p.cells.toArray, .int .i64 1] w fun e w' => e = .returned (.int .i64 (1 + (totP p : Int))) ∧ PipAt w' (markP p 1) ∧ Chg w w' (PoB p G1 b1 G2 b2) := by
  have q1 : Row (w.alloc (.cells p.cells.toArray 54)) (w.heap.size) p.cells.toArray 54 := Row.new _ _ _ _ rfl
  have hb := Go.Joins.below_alloc1 w (.cells p.cells.toArray 54)
  have N1 : Hid (¬ SR p.rs G1 b1 w.heap.size) := Lib.hid (fun e => absurd (h.r.lt _ e) (Nat.lt_irrefl _))
  have N2 : Hid (¬ SR p.qs G2 b2 w.heap.size) := Lib.hid (fun e => absurd (h.l.lt _ e) (Nat.lt_irrefl _))
  have hp := h.below hb
  have HP := Lib.hid hp; have HB : Hid (Chg w _ (PoB p G1 b1 G2 b2)) := Lib.hid (Chg.of_below hb)
  have hs0 := Go.Joins.below_alloc1 w (.cells p.cells.toArray 54)
  have T0 := Lib.hid (p_c0 p)
  have T1 := Lib.hid (p_c1 p)
  have T2 := Lib.hid (p_c2 p)
  have hT : totP p = totR p.rs + (totR p.qs + p.xs.length) := rfl
  have HT : Hid ((1 : Int) + (totR p.rs : Int) + (totR p.qs : Int) + (p.xs.length : Int) = 1 + (totP p : Int)) := Lib.hid (by omega)
  have HM := Lib.hid hm
  have C1 := Lib.hid (fun W (h : RO W base p.A1 p.rs G1 b1) => c_markRingS p.A1 p.c1 p.rs.length base G1 b1 p.rs 1 W h rfl (by decide) (by omega))
  have C2 := Lib.hid (fun W (h : RO W base p.A2 p.qs G2 b2) => c_markRingS p.A2 p.c2 p.qs.length base G2 b2 p.qs (1 + (totR p.rs : Int)) W h rfl (by omega) (by omega))
  have C3 := Lib.hid (fun W (h : p.xs = [] ∨ Own W base p.A3 p.c3 p.xs 25) => c_markF_any p.A3 p.c3 base p.xs (1 + (totR p.rs : Int) + (totR p.qs : Int)) W h (by omega) (by omega) (by omega))
  clear h hp hb hs0 hT hm
  have hcells := markP_cells p 1
  generalize p.cells = TT at *
  go_enter Try.func35, Try.ntmps35
  go_wp2_with (refine wpList_load_one rfl 52 _ rfl ⟨w.heap.size, 0, none⟩ rfl (.slice p.A1 p.rs.length p.c1) (cell_row q1 T0.out) Try.underlying52 rfl ?_)
  refine (C1.out _ HP.out.r).mono ?_; rintro e w1 ⟨rfl, r1, g1⟩
  have R1 := Lib.hid r1
  have L1 := Lib.hid (HP.out.l.chg g1 (fun x hx e => HP.out.d12 x e hx))
  have S1 : Hid (p.xs = [] ∨ Own w1 base p.A3 p.c3 p.xs 25) := Lib.hid (by
    by_cases hx : p.xs = []
    · exact .inl hx
    · exact .inr (own_chg (HP.out.s.resolve_left hx) g1 (fun x e => (HP.out.d13 hx x e).1)))
  replace q1 := q1.chg g1 (fun e => N1.out e)
  replace HB := Lib.hid (HB.out.trans (g1.mono (fun x e => .inl e)))
  clear g1 r1
  go_wp2_with (refine wpList_load_one rfl 52 _ rfl ⟨w.heap.size, 1, none⟩ rfl (.slice p.A2 p.qs.length p.c2) (cell_row q1 T1.out) Try.underlying52 rfl ?_)
  refine (C2.out _ L1.out).mono ?_; rintro e w2 ⟨rfl, r2, g2⟩
  have L2 := Lib.hid r2
  have R2 := Lib.hid (R1.out.chg g2 (fun x hx e => HP.out.d12 x (SR_mark hx) e))
  have S2 : Hid (p.xs = [] ∨ Own w2 base p.A3 p.c3 p.xs 25) := Lib.hid (by
    by_cases hx : p.xs = []
    · exact .inl hx
    · exact .inr (own_chg (S1.out.resolve_left hx) g2 (fun x e => (HP.out.d13 hx x e).2)))
  replace q1 := q1.chg g2 (fun e => N2.out e)
  replace HB := Lib.hid (HB.out.trans (g2.mono (fun x e => .inr (.inl e))))
  clear g2 r2
  go_wp2_with (refine wpList_load_one rfl 22 _ rfl ⟨w.heap.size, 2, none⟩ rfl (.slice p.A3 p.xs.length p.c3) (cell_row q1 T2.out) Try.underlying22 rfl ?_)
  refine (C3.out _ S2.out).mono ?_; rintro e w3 ⟨rfl, r3, g3⟩
  have S3 := Lib.hid r3
  have R3 := Lib.hid (R2.out.chg g3 (fun x hx e => (HP.out.d13 e.1 x e.2).1 (SR_mark hx)))
  have L3 := Lib.hid (L2.out.chg g3 (fun x hx e => (HP.out.d13 e.1 x e.2).2 (SR_mark hx)))
  replace HB := Lib.hid (HB.out.trans (g3.mono (fun x e => .inr (.inr e))))
  clear g3 r3
  go_wp2_with fail
  go_ret
  exact ⟨congrArg (fun x => Ending.returned (Value.int .i64 x)) HT.out, ⟨R3.out.rs, L3.out.rs, S3.out⟩, HB.out⟩
set_option maxRecDepth 20000 in
set_option maxHeartbeats 1000000 in
theorem c_heldPipe (p : PipV) (w : World) (h : PipAt w (markP p 1)) (hm : (totP p : Int) ≤ 1048576) :
    Calls Try.prog 36 #[.agg p.cells.toArray, .int .i64 1] w fun e w' => e = .returned (.int .i64 (1 + (totP p : Int))) ∧ Below w.heap.size w w' := by
  have q1 : Row (w.alloc (.cells p.cells.toArray 54)) (w.heap.size) p.cells.toArray 54 := Row.new _ _ _ _ rfl
  have hb := Go.Joins.below_alloc1 w (.cells p.cells.toArray 54)
  have HP := Lib.hid (h.below hb)
  have T0 := Lib.hid (p_c0 p)
  have T1 := Lib.hid (p_c1 p)
  have T2 := Lib.hid (p_c2 p)
  have hT : totP p = totR p.rs + (totR p.qs + p.xs.length) := rfl
  have HT : Hid ((1 : Int) + (totR p.rs : Int) + (totR p.qs : Int) + (p.xs.length : Int) = 1 + (totP p : Int)) := Lib.hid (by omega)
  have n1 : ¬ ((1 : Int) + (totR p.rs : Int) < 0) := by omega
  have n2 : ¬ ((1 : Int) + (totR p.rs : Int) + (totR p.qs : Int) < 0) := by omega
  have n3 : ¬ ((1 : Int) + (totR p.rs : Int) + (totR p.qs : Int) + (p.xs.length : Int) < 0) := by omega
  have C1 := Lib.hid (fun W (h : Rs W p.A1 (markR p.rs 1)) => c_heldRingS p.A1 p.c1 p.rs.length p.rs 1 W h rfl (by decide) (by omega))
  have C2 := Lib.hid (fun W (h : Rs W p.A2 (markR p.qs (1 + (totR p.rs : Int)))) => c_heldRingS p.A2 p.c2 p.qs.length p.qs (1 + (totR p.rs : Int)) W h rfl (by omega) (by omega))
  have C3 := Lib.hid (fun W (h : Sl W p.A3 (markL p.xs.length (1 + (totR p.rs : Int) + (totR p.qs : Int)))) => c_heldFloat32S_sl p.A3 p.c3 p.xs.length (1 + (totR p.rs : Int) + (totR p.qs : Int)) W h (by omega) (by omega) (by omega))
  clear h hT hm
  generalize p.cells = TT at *
  go_enter Try.func36, Try.ntmps36
  go_wp2_with (refine wpList_load_one rfl 52 _ rfl ⟨w.heap.size, 0, none⟩ rfl (.slice p.A1 p.rs.length p.c1) (cell_row q1 T0.out) Try.underlying52 rfl ?_)
  refine (C1.out _ HP.out.1).mono ?_; rintro e w1 ⟨rfl, b⟩
  replace q1 := q1.below b q1.lt; replace hb := seq_below hb b; replace HP := Lib.hid (HP.out.below b); clear b
  go_wp2_with (refine wpList_load_one rfl 52 _ rfl ⟨w.heap.size, 1, none⟩ rfl (.slice p.A2 p.qs.length p.c2) (cell_row q1 T1.out) Try.underlying52 rfl ?_)
  refine (C2.out _ HP.out.2.1).mono ?_; rintro e w2 ⟨rfl, b⟩
  replace q1 := q1.below b q1.lt; replace hb := seq_below hb b; replace HP := Lib.hid (HP.out.below b); clear b
  go_wp2_with (refine wpList_load_one rfl 22 _ rfl ⟨w.heap.size, 2, none⟩ rfl (.slice p.A3 p.xs.length p.c3) (cell_row q1 T2.out) Try.underlying22 rfl ?_)
  refine (C3.out _ HP.out.2.2).mono ?_; rintro e w3 ⟨rfl, b⟩
  replace hb := seq_below hb b; clear b
  go_wp2_with fail
  go_ret
  exact ⟨congrArg (fun x => Ending.returned (Value.int .i64 x)) HT.out, hb⟩
end Go.Proofs.Ytpchebclhjgcmaa
namespace Go.Fl
open Go.RowKit Go.Deep
def nthJ (zs : List Int) (k : Nat) : Int := zs.getD k 0
def jl (zs : List Int) : Array Value := (zs.map fun z => Value.int .i64 z).toArray
theorem jl_get (zs : List Int) (k : Nat) (h : k < zs.length) : (jl zs)[k]? = some (.int .i64 (nthJ zs k)) := by
  simp [jl, nthJ, h]
theorem jl_set (zs : List Int) (k : Nat) (x : Int) : (jl zs).setIfInBounds k (.int .i64 x) = jl (zs.set k x) := by
  unfold jl
  rw [List.setIfInBounds_toArray, List.map_set]
theorem made_jl (n : Nat) : madeCells #[.int .i64 0] n = jl (List.replicate n 0) := by
  unfold madeCells jl
  apply Array.ext
  · simp
  · intro i h1 h2
    simp [Nat.mod_one]
def mixJ (xs ys : List Int) (k : Nat) : List Int := xs.take k ++ ys.drop k
theorem mixJ_zero (xs ys : List Int) : mixJ xs ys 0 = ys := by simp [mixJ]
theorem mixJ_full (xs ys : List Int) (h : xs.length = ys.length) : mixJ xs ys ys.length = xs := by simp [mixJ, ← h]
theorem mixJ_length (xs ys : List Int) (k : Nat) (h : xs.length = ys.length) : (mixJ xs ys k).length = ys.length := by simp [mixJ]; omega
theorem mixJ_set (xs ys : List Int) (k : Nat) (h : xs.length = ys.length) (hk : k < ys.length) : (mixJ xs ys k).set k (nthJ xs k) = mixJ xs ys (k + 1) := by
  apply List.ext_getElem?
  intro i
  have hx : k < xs.length := by omega
  simp only [mixJ, List.getElem?_set, List.getElem?_append, List.length_take, List.length_append, List.length_drop, List.getElem?_take, List.getElem?_drop]
  by_cases h1 : k = i
  · subst h1
    have e1 : k < min k xs.length + (ys.length - k) := by omega
    have e2 : k < min (k + 1) xs.length := by omega
    simp [e1, e2, hx, nthJ]
  · by_cases h2 : i < k
    · have e1 : i < min k xs.length := by omega
      have e2 : i < min (k + 1) xs.length := by omega
      have e3 : i < k + 1 := by omega
      simp [h1, e1, e2, h2, e3]
    · have e1 : ¬ i < min k xs.length := by omega
      have e2 : ¬ i < min (k + 1) xs.length := by omega
      simp only [h1, e1, e2, if_false]
      congr 1; omega
/-- A slice at A of these numbers. -/
def Il (w : World) (A : Option Addr) (zs : List Int) : Prop := zs = [] ∨ ∃ ad, A = some ad ∧ ad.block < w.heap.size ∧ ∀ k, k < zs.length → w.cell? (ad.add k) = some (.int .i64 (nthJ zs k))
theorem Il.below {w w' : World} {A : Option Addr} {zs : List Int} (h : Il w A zs) (hb : Below w.heap.size w w') : Il w' A zs := by
  rcases h with h | ⟨ad, hA, hlt, hc⟩
  · exact .inl h
  · exact .inr ⟨ad, hA, Nat.lt_of_lt_of_le hlt hb.size, fun k hk => by rw [hb.cell (by rw [addr_add_block]; exact hlt)]; exact hc k hk⟩
theorem Il.at_ {w : World} {A : Option Addr} {zs : List Int} (h : Il w A zs) {k : Nat} (hk : k < zs.length) : ∃ ad, A = some ad ∧ ad.block < w.heap.size ∧ w.cell? (ad.add k) = some (.int .i64 (nthJ zs k)) := by
  rcases h with h | ⟨ad, hA, hlt, hc⟩
  · rw [h] at hk; simp at hk
  · exact ⟨ad, hA, hlt, hc k hk⟩
theorem open_i64s {H : Type} {enc : TypeId × Value → H} {P : Program} {w : World} {base : Nat} {spare : Nat → Bool} {held : Bool} {r : Reach} {b0 : Nat} {t e : TypeId} {v : Value} {d : DataW H} {ps : List MemPlace}
    (ht : P.underlying t = some (.slice e)) (he : P.underlying e = some (.int .i64)) (hc : P.cellsOf e = 1) (hval : Value.okWide P w r b0 t v) (hd : DataW.Trod enc P w base spare held t v d ps) :
    ∃ (A : Option Addr) (c : Nat) (zs : List Int), v = .slice A zs.length c ∧ Il w A zs ∧ zs.length ≤ c ∧ c ≤ maxLen ∧ ∀ k, k < zs.length → (Lit.int .i64 (nthJ zs k)).wf = true := by
  obtain ⟨A, n, c, rfl⟩ := Go.WideShapes.okWide_slice ht hval
  obtain ⟨fuel, hf⟩ := hd
  rcases open_slice1 ht hc hf with ⟨h, _⟩ | ⟨a, n', c', m, n'', V, D, Pl, h, hb, hl, hm, hmm, _, hx⟩
  · simp [Value.cells] at h
    obtain ⟨rfl, rfl, rfl⟩ := h
    exact ⟨none, 0, [], rfl, .inl rfl, Nat.le_refl _, Nat.zero_le _, fun k hk => by simp at hk⟩
  · simp [Value.cells] at h
    obtain ⟨rfl, rfl, rfl⟩ := h
    have hnm : n ≤ m := by rw [hmm]; split <;> omega
    have hV : ∀ i, i < n → w.cell? (a.add i) = some (.int .i64 (intV (V i))) ∧ (Lit.int .i64 (intV (V i))).wf = true := fun i hi => by
      obtain ⟨h1, h2⟩ := hx i (by omega)
      obtain ⟨z, e3, _, hw⟩ := DataW.trod_int he h2
      have e4 : V i = .int .i64 z := by simpa using e3
      rw [e4] at h1
      rw [e4]
      exact ⟨h1, hw⟩
    have hn : ∀ k, k < n → nthJ ((List.range n).map fun i => intV (V i)) k = intV (V k) := fun k hk => by
      simp [nthJ, List.getD_eq_getElem?_getD, hk]
    refine ⟨some a, c, (List.range n).map fun i => intV (V i), by simp, ?_, by simpa using hl, hm, fun k hk => ?_⟩
    · by_cases h0 : n = 0
      · subst h0; exact .inl rfl
      · refine .inr ⟨a, rfl, ?_, fun k hk => ?_⟩
        · have := block_lt_of_cell (hV 0 (by omega)).1
          rwa [addr_add_block] at this
        · have hk' : k < n := by simpa using hk
          rw [hn k hk']; exact (hV k hk').1
    · have hk' : k < n := by simpa using hk
      rw [hn k hk']; exact (hV k hk').2
end Go.Fl
namespace Go.Proofs.Ytpchebclhjgcmaa
open Go.RowKit Go.Fl
theorem Il.of_row {w : World} {g : Nat} {zs : List Int} {t : TypeId} (h : Row w g (jl zs) t) : Il w (some ⟨g, 0, none⟩) zs := by
  refine .inr ⟨_, rfl, h.lt, fun k hk => ?_⟩
  have e : (⟨g, 0, none⟩ : Addr).add k = ⟨g, k, none⟩ := by
    unfold Addr.add
    by_cases h0 : k = 0
    · subst h0; simp
    · simp [h0]
  rw [e]
  exact h.cell k _ (jl_get zs k hk)
theorem info_i64e : (Try.prog.info? 2).map (fun i => (i.zero, i.size, i.bytes)) = some (some (.int .i64 0), 1, 8) := by kernel_rfl
theorem c_toInt64S (A : Option Addr) (c : Nat) (zs : List Int) (w : World) (hs : Il w A zs) (hl : zs.length ≤ 4294967296) :
    Calls Try.prog 27 #[.slice A zs.length c] w fun e w' => ∃ g, e = .returned (.slice (some ⟨g, 0, none⟩) zs.length zs.length) ∧ Row w' g (jl zs) 2 ∧ w.heap.size ≤ g ∧ Below w.heap.size w w' := by
  have hmk := fun W => run_make_row' (P := Try.prog) 51 2 (.int .i64 0) 8 Try.underlying51 info_i64e rfl .i64 .i64 zs.length (by omega) (by omega) W
  have HS := Lib.hid hs; clear hs
  have HL := Lib.hid hl; clear hl
  generalize hn : zs.length = n at *
  have HN := Lib.hid hn; clear hn
  go_enter Try.func27, Try.ntmps27
  go_wp2
  go_loopw [4] (fun i wr => ∃ k : Nat, k ≤ n ∧ i = .int .i64 k ∧ Below w.heap.size w wr ∧ Row wr w.heap.size (jl (mixJ zs (List.replicate n 0) k)) 2) (fun i _ => n - (intOf i).toNat)
  case atStart => exact ⟨0, by omega, rfl, Go.Joins.below_alloc1 _ _, by rw [mixJ_zero, ← made_jl]; exact Row.new _ _ _ _ rfl⟩
  case round =>
    clear hmk
    obtain ⟨k, hk, rfl, hb, h3⟩ := hrel
    have hsz := hb.size
    by_cases hlt : k < n
    · obtain ⟨ad, rfl, hbl, c1⟩ := (HS.out.below hb).at_ (k := k) (by rw [HN.out]; exact hlt)
      have c3 := h3.cell k _ (jl_get _ _ (by rw [mixJ_length _ _ _ (by rw [HN.out, List.length_replicate]), List.length_replicate]; exact hlt))
      have f3 := h3.free k
      have hi : (0 : Int) ≤ k := by omega
      have hi2 : (k : Int) < n := by omega
      have hi3 : (n : Int) ≤ 4294967296 := by have := HL.out; omega
      go_wp2
      go_roundw
      case rel =>
        refine ⟨k + 1, by omega, by go_num, below_setCell hb (Nat.le_refl _) _, ?_⟩
        rw [← mixJ_set _ _ _ (by rw [HN.out, List.length_replicate]) (by rw [List.length_replicate]; exact hlt), ← jl_set]
        exact h3.set _ _
      case measure => simp [intOf]; omega
    · have e : k = n := by omega
      subst e
      have h4 : Row wr w.heap.size (jl zs) 2 := by
        have := mixJ_full zs (List.replicate k 0) (by rw [HN.out, List.length_replicate])
        rw [List.length_replicate] at this
        rw [this] at h3; exact h3
      clear h3
      go_wp2
      go_ret
      exact ⟨_, rfl, h4, Nat.le_refl _, hb⟩
set_option maxHeartbeats 4000000 in
theorem c_eqInt64S (A B : Option Addr) (c d : Nat) (zs : List Int) (w : World) (hs : Il w A zs) (ht : Il w B zs) (hl2 : zs.length ≤ 4294967296) :
    Calls Try.prog 31 #[.slice A zs.length c, .slice B zs.length d] w fun e w' => e = .returned (.bool true) ∧ Below w.heap.size w w' := by
  have HL := Lib.hid hl2; clear hl2
  have HS := Lib.hid hs; have HT := Lib.hid ht; clear hs ht
  generalize hn : zs.length = n at *
  have HN := Lib.hid hn; clear hn
  go_enter Try.func31, Try.ntmps31
  go_wp2
  go_loopw [5] (fun i wr => ∃ k : Nat, k ≤ n ∧ i = .int .i64 k ∧ Below w.heap.size w wr) (fun i _ => n - (intOf i).toNat)
  case atStart => exact ⟨0, by omega, rfl, Below.refl _ _⟩
  case round =>
    obtain ⟨k, hk, rfl, hb⟩ := hrel
    by_cases hlt : k < n
    · obtain ⟨ad, rfl, hbl, c1⟩ := (HS.out.below hb).at_ (k := k) (by rw [HN.out]; exact hlt)
      obtain ⟨bd, rfl, hbl2, c2⟩ := (HT.out.below hb).at_ (k := k) (by rw [HN.out]; exact hlt)
      have hi : (0 : Int) ≤ k := by omega
      have hi2 : (k : Int) < n := by omega
      have hi3 : (n : Int) ≤ 4294967296 := by have := HL.out; omega
      generalize nthJ zs k = z at *
      have hzz : (z != z) = false := by simp
      go_wp2
      go_quiet (fail)
      go_wp2
      go_roundw
      case rel => exact ⟨k + 1, by omega, by go_num, by first | exact hb | exact below_drewN hb _⟩
      case measure => simp [intOf]; omega
    · have e : k = n := by omega
      subst e
      go_wp2
      go_ret
      exact ⟨rfl, hb⟩
set_option maxHeartbeats 1000000 in
theorem c_markInt64S (g c : Nat) (zs : List Int) (m : Int) (w : World) (hg : Row w g (jl zs) 2) (hl : (zs.length : Int) ≤ 4294967296) (h0 : 0 ≤ m) (h1 : m ≤ 4294967296) :
    Calls Try.prog 33 #[.slice (some ⟨g, 0, none⟩) zs.length c, .int .i64 m] w fun e w' => e = .returned (.int .i64 (m + zs.length)) ∧ w.grownBy w' (some g) := by
  generalize hn : zs.length = n at *
  go_enter Try.func33, Try.ntmps33
  go_wp2
  go_loopw [1, 5] (fun s i wr => ∃ (j : Nat) (ys : List Int), j ≤ n ∧ ys.length = n ∧ s = .int .i64 (m + j) ∧ i = .int .i64 j ∧ Row wr g (jl ys) 2 ∧ Hid (w.grownBy wr (some g))) (fun _ i _ => n - (intOf i).toNat)
  case atStart => exact ⟨0, zs, by omega, hn, by simp, rfl, hg, grownBy_refl _ _⟩
  case round =>
    clear hg hn
    obtain ⟨j, ys, hj, hy, rfl, rfl, h3, hb⟩ := hrel
    by_cases hlt : j < n
    · have c3 := h3.cell j _ (jl_get _ _ (by rw [hy]; exact hlt))
      have f3 := h3.free j
      have HY := Lib.hid hy; clear hy
      have hi : (0 : Int) ≤ j := by omega
      have hi2 : (j : Int) < n := by omega
      go_wp2
      go_roundw
      case rel =>
        refine ⟨j + 1, ys.set j (m + (j : Int)), by omega, by rw [List.length_set]; exact HY.out, by go_num, by go_num, ?_, grownBy_setCell hb.out _ _⟩
        rw [← jl_set]; exact h3.set _ _
      case measure => simp [intOf]; omega
    · have e : j = n := by omega
      subst e
      clear h3 hy
      go_wp2
      go_ret
      exact ⟨rfl, hb.out⟩
end Go.Proofs.Ytpchebclhjgcmaa
namespace Go.Fl
open Go.RowKit
section
variable {P : Program} {w : World} {o : Oper} {a : Act} {K : Act → World → Prop} {Q : Exit → Act → World → Prop}
theorem wp_append_ownR (s x : Operand) (t : TypeId)
    (ho : o.op = .call { callee := .builtin .append, args := #[s, x], argTypes := #[t, t] }) (base : Nat) (e : TypeId) (z : Value) (size bytes : Nat) (ht : P.underlying t = some (.slice e)) (hinfo : (P.info? e).map (fun i => (i.zero, i.size, i.bytes)) = some (some z, size, bytes))
    (hzs : z.cells.size = size) (hsz : 0 < size)
    {A : Option Addr} {c n : Nat} {cs : List Value} (hs : a.eval s = .slice A n c) (hown : OwnR w base A c n cs e size) (news : List Value) (hnl : news.length = size) (h1 : ∀ u ∈ news, u.oneCell' = true) {g : Nat} (hx : a.eval x = .slice (some ⟨g, 0, none⟩) 1 1) (hnews : w.heap[g]? = some (.cells news.toArray e))
    (h63 : n ≤ 8388608) (hby : bytes ≤ 1048576) (hbase : base ≤ w.heap.size)
    (h : ∀ A' c' w', OwnR w' base A' c' (n + 1) (cs ++ news) e size → w.grownBy w' (ownBlk A) → A' ≠ none → K (a.put o.dst (.slice A' (n + 1) c')) w') : o.wp P a w K Q := by
  obtain ⟨i0, hi, hz0, hz1, hz2⟩ := info_parts hinfo
  refine wp_append_own w s x t ho base e i0 z size bytes ht hi hz0 hz1 hz2 hzs hsz _ n cs hs hown ⟨g, 0, none⟩ 1 1 news hx (by rw [hnl, Nat.one_mul]) ?_ h1 (by unfold maxLen; omega) ?_ hbase ?_
  · intro j u hu
    have e2 : (⟨g, 0, none⟩ : Addr).add j = ⟨g, j, none⟩ := by unfold Addr.add; split <;> simp_all
    rw [e2, Go.Joins.cell_of_block hnews]
    simpa using hu
  · have h2 : (n + 1) * bytes ≤ 8388609 * 1048576 := Nat.mul_le_mul (by omega) hby
    omega
  · intro v' w2 hr hg hnil
    obtain ⟨A', c', rfl, h4⟩ := OwnR.of_row hr
    rw [own_blockR] at hg
    refine h A' c' w2 h4 hg (fun e0 => ?_)
    subst e0
    rcases h4.2 with ⟨_, h6⟩ | ⟨g, cap, cur, h6, _⟩
    · omega
    · cases h6
theorem wp_store_partV (ty : TypeId) (x y : Operand) (ho : o.op = .store ty x y) (g off : Nat) (hx : a.eval x = .pointer (some ⟨g, off, none⟩)) (part : List Value) (v : Value) (hv : v.cells = part.toArray) (hy : a.eval y = v) {t : TypeId} {cs : List Value} (hg : w.heap[g]? = some (.cells cs.toArray t)) (hi : (P.info? ty).map (·.size) = some part.length)
    (hfit : Nat.ble (off + part.length) cs.length = true) (h1 : part.all (·.oneCell') = true) (new : List Value) (hnew : over cs off part = new) (h : ∀ w', w.grownBy w' (some g) → w'.heap[g]? = some (.cells new.toArray t) → K (a.put o.dst undef) w') : o.wp P a w K Q := by
  have hr := run_storeVar_partV (P := P) w g off t ty cs part v hv hg hi (Nat.le_of_ble_eq_true hfit) h1
  have h2 := h (w.setRow g (over cs off part).toArray) ⟨rfl, rfl, rfl, by simp, fun k _ hn => setRow_other w g k _ (fun e => hn (by rw [e]))⟩ (by rw [← hnew]; exact setRow_heap w g _ _ t _ hg)
  unfold Oper.wp execOp
  simp only [ho, hx, hy, Instr.storeAt, Instr.sureAddr, Sem.run_bind, Sem.run_pure, Result.andThen_ok, hr]
  exact h2
end
theorem wpRoad_heldE {P : Program} {ops : Array Oper} {Q : Exit → Act → World → Prop} {S : World → Prop} {i : Nat} {o : Oper} {v : Value} {l : Road} {a : Act} {w : World} (ho : ops[i]? = some o) {d : Tmp} (hd : o.dst = some d) (hy : YieldsIf P ops S o v a) (tm : Array Value) (ht : a.tmps.setIfInBounds d v = tm) (h : wpRoad P ops Q S l { tmps := tm, defers := a.defers } w) : wpRoad P ops Q S (.held i l) a w :=
  wpRoad_held ho hy (by unfold Act.put; rw [hd]; subst ht; exact h)
theorem fl2_snoc (rs : List RingV) (r : RingV) : fl2 (rs ++ [r]) = fl2 rs ++ rgC r := by simp [fl2]
theorem rgs_snoc (rs : List RingV) (r : RingV) (k : Nat) (h : k < rs.length + 1) : rgs (rs ++ [r]) k = if k = rs.length then r else rgs rs k := by
  unfold rgs
  rw [List.getD_eq_getElem?_getD, List.getD_eq_getElem?_getD]
  by_cases e : k = rs.length
  · subst e; simp
  · rw [if_neg e, List.getElem?_append_left (by omega)]
end Go.Fl
namespace Go.Proofs.Ytpchebclhjgcmaa
open Go.RowKit Go.Fl
/-- Rings of one's own, in a slice that one appends to. -/
structure RB (w : World) (base : Nat) (A : Option Addr) (c : Nat) (rs : List RingV) (b : Nat → Nat) : Prop where
  own : OwnR w base A c rs.length (fl2 rs) 34 2
  nil : rs = [] → A = none
  blk : ∀ k, k < rs.length → (rgs rs k).A = some ⟨b k, 0, none⟩ ∧ base ≤ b k ∧ Blk w (b k) (rgs rs k).xs 25
  inj : ∀ k j, k < rs.length → j < rs.length → b j = b k → j = k
section
variable {w w' : World} {base : Nat} {A A' : Option Addr} {c c' : Nat} {rs qs : List RingV} {b b' : Nat → Nat}
theorem RB.nils (w : World) (base : Nat) (b : Nat → Nat) : RB w base none 0 [] b := ⟨OwnR.nil _ _ _ _, fun _ => rfl, fun k hk => by simp at hk, fun k j hk => by simp at hk⟩
theorem RB.head (h : RB w base A c rs b) (h0 : 0 < rs.length) : ∃ G r, A = some ⟨G, 0, none⟩ ∧ base ≤ G ∧ w.heap[G]? = some (.cells (fl2 rs ++ r).toArray 34) := by
  obtain ⟨G, rfl, hG, _⟩ := h.own.head h0
  obtain ⟨r, hr⟩ := h.own.blk
  exact ⟨G, r, rfl, hG, hr⟩
theorem RB.some_pos (h : RB w base A c rs b) {k : Nat} (hk : ownBlk A = some k) : 0 < rs.length := by
  rcases Nat.eq_zero_or_pos rs.length with h0 | h0
  · rw [h.nil (List.eq_nil_of_length_eq_zero h0)] at hk
    simp [ownBlk] at hk
  · exact h0
/-- A block of samples is not the slice's own block. -/
theorem RB.blk_ne (h : RB w base A c rs b) {g : Nat} {xs : List Nat} (hb : Blk w g xs 25) : some g ≠ ownBlk A := by
  intro e
  obtain ⟨G, r, rfl, _, hG⟩ := h.head (h.some_pos e.symm)
  simp [ownBlk] at e
  subst e
  have := hG.symm.trans hb
  simp at this
theorem RB.grown (h : RB w base A c rs b) {row : Option Nat} (hg : w.grownBy w' row) (h1 : ∀ k, k < rs.length → some (b k) ≠ row) (h2 : ∀ k, ownBlk A = some k → some k ≠ row) : RB w' base A c rs b :=
  ⟨h.own.kept hg h2, h.nil, fun k hk => ⟨(h.blk k hk).1, (h.blk k hk).2.1, (h.blk k hk).2.2.grown hg (h1 k hk)⟩, h.inj⟩
theorem RB.below (h : RB w base A c rs b) (hb : Below w.heap.size w w') : RB w' base A c rs b := h.grown (row := none) ⟨hb.os, hb.tape, hb.output, hb.size, fun k hk _ => hb.block k hk⟩ (fun _ _ => by simp) (fun _ _ => by simp)
theorem RB.low (h : RB w base A c rs b) {G : Nat} (hg : w.grownBy w' (some G)) (hG : G < base) : RB w' base A c rs b :=
  h.grown hg (fun k hk e => by have := (h.blk k hk).2.1; have := Option.some.inj e; omega) (fun k hk e => by have := h.own.ge k hk; have := Option.some.inj e; omega)
/-- Two rows of rings lie apart. -/
theorem RB.cross (h : RB w base A c rs b) (h' : RB w base A' c' qs b') (hx : ∀ i j, i < rs.length → j < qs.length → b i ≠ b' j) : ∀ k, ownBlk A' = some k → some k ≠ ownBlk A := by
  intro k hk e
  have h1 := h.some_pos e.symm
  have h2 := h'.some_pos hk
  obtain ⟨G, r, rfl, _, hG⟩ := h.head h1
  obtain ⟨G', r', rfl, _, hG'⟩ := h'.head h2
  simp [ownBlk] at hk e
  subst hk; subst e
  have e := hG.symm.trans hG'
  have e3 : (fl2 rs ++ r) = (fl2 qs ++ r') := by simpa using e
  have e1 := (fl2_at rs 0 h1).1
  have e2 := (fl2_at qs 0 h2).1
  have l1 := fl2_length rs; have l2 := fl2_length qs
  have e4 : (fl2 rs ++ r)[0 * 2]? = (fl2 qs ++ r')[0 * 2]? := by rw [e3]
  rw [List.getElem?_append_left (by omega), List.getElem?_append_left (by omega), e1, e2] at e4
  rw [(h.blk 0 h1).1, (h'.blk 0 h2).1] at e4
  injection e4 with e4
  injection e4 with e4
  injection e4 with e4
  injection e4 with e4
  exact hx 0 0 h1 h2 e4
theorem RB.other (h : RB w base A c rs b) (h' : RB w base A' c' qs b') (hx : ∀ i j, i < rs.length → j < qs.length → b i ≠ b' j) (hg : w.grownBy w' (ownBlk A)) : RB w' base A' c' qs b' :=
  h'.grown hg (fun k hk => h.blk_ne (h'.blk k hk).2.2) (h.cross h' hx)
/-- One ring more. -/
theorem RB.snoc (h : RB w base A c rs b) {r : RingV} (hn : OwnR w' base A' c' (rs.length + 1) (fl2 rs ++ rgC r) 34 2) (hg : w.grownBy w' (ownBlk A)) {g : Nat} (hA : r.A = some ⟨g, 0, none⟩) (hgb : base ≤ g) (hb : Blk w g r.xs 25) (hf : ∀ k, k < rs.length → b k ≠ g) : RB w' base A' c' (rs ++ [r]) (fun k => if k = rs.length then g else b k) := by
  have hl : (rs ++ [r]).length = rs.length + 1 := by simp
  refine ⟨by rw [hl, fl2_snoc]; exact hn, fun e => by simp at e, fun k hk => ?_, fun k j hk hj e => ?_⟩
  · rw [hl] at hk
    rw [rgs_snoc _ _ _ hk]
    by_cases e : k = rs.length
    · simp only [if_pos e]
      exact ⟨hA, hgb, hb.grown hg (h.blk_ne hb)⟩
    · simp only [if_neg e]
      have h3 := h.blk k (by omega)
      exact ⟨h3.1, h3.2.1, h3.2.2.grown hg (h.blk_ne h3.2.2)⟩
  · rw [hl] at hk hj
    by_cases e1 : j = rs.length
    · by_cases e2 : k = rs.length
      · omega
      · rw [if_pos e1, if_neg e2] at e
        exact absurd e.symm (hf k (by omega))
    · by_cases e2 : k = rs.length
      · rw [if_neg e1, if_pos e2] at e
        exact absurd e (hf j (by omega))
      · rw [if_neg e1, if_neg e2] at e
        exact h.inj k j (by omega) (by omega) e
theorem RB.ro (h : RB w base A c rs b) : ∃ G, RO w base A rs G b := by
  rcases Nat.eq_zero_or_pos rs.length with h0 | h0
  · exact ⟨0, fun h1 => by omega, fun h1 => by omega, fun k hk => by omega, fun k j hk => by omega⟩
  · obtain ⟨G, r, rfl, hG, hr⟩ := h.head h0
    refine ⟨G, fun _ => ⟨rfl, hG⟩, fun _ => ⟨r, hr⟩, fun k hk => ?_, h.inj⟩
    obtain ⟨h1, h2, h3⟩ := h.blk k hk
    exact ⟨h1, h2, fun e => h.blk_ne h3 (by rw [e]; rfl), h3⟩
end
end Go.Proofs.Ytpchebclhjgcmaa
