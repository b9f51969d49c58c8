/- Slices of rings: toRingS. Slices of rings: eqRingS. Slices of rings told the same. slices.EqualFunc of rings. No condition. -/
import Derived.Test.YtpchebclhjgcmaaLa
import Derived.Test.YtpchebclhjgcmaaGb
namespace Go.Proofs.Ytpchebclhjgcmaa
open Go.RowKit Go.Fl
theorem info_ringe : (Try.prog.info? 34).map (fun i => (i.zero, i.size, i.bytes)) = some (some (.agg #[.slice none 0 0, .int .i64 0]), 2, 32) := by kernel_rfl
theorem info_lringS : (Try.prog.info? 24).map (·.size) = some 2 := by kernel_rfl
set_option maxRecDepth 20000 in
set_option maxHeartbeats 1000000 in
theorem c_toRingS (A : Option Addr) (c n : Nat) (rs : List RingV) (w : World) (hs : Rs w A rs) (hx : rs.length = n) (hl : n ≤ 1048576) (hq : ∀ k, k < n → (rgs rs k).xs.length ≤ 4294967296) :
    Calls Try.prog 81 #[.slice A n c] w fun e w' => ∃ g qs, e = .returned (.slice (some ⟨g, 0, none⟩) n n) ∧ RsF w' w.heap.size (some ⟨g, 0, none⟩) qs ∧ RsTo w' rs qs n ∧ Below w.heap.size w w' := by
  have hmk := fun W => run_make_rings (P := Try.prog) 52 34 32 Try.underlying52 info_ringe n (by omega) (by omega) W
  have HS := Lib.hid hs; have HX := Lib.hid hx; have HQ := Lib.hid hq; clear hs hx hq
  go_enter Try.func81, Try.ntmps81
  go_wp2
  go_loopw [4] (fun i wr => ∃ (k : Nat) (qs : List RingV), k ≤ n ∧ i = .int .i64 k ∧ Below w.heap.size w wr ∧ Rg wr w.heap.size qs 34 ∧ RsTo wr rs qs k ∧ ∀ j, j < qs.length → ∀ ad, (rgs qs j).A = some ad → (rgs qs j).xs ≠ [] → w.heap.size < ad.block) (fun i _ => n - (intOf i).toNat)
  case atStart =>
    refine ⟨0, List.replicate n rgZ, by omega, rfl, Go.Joins.below_alloc1 _ _, Row.new _ _ _ _ rfl, by rw [← HX.out]; exact RsTo.zero _ _, fun j _ ad _ hne => ?_⟩
    exfalso
    apply hne
    unfold rgs
    rw [List.getD_eq_getElem?_getD, List.getElem?_replicate]
    split <;> rfl
  case round =>
    clear hmk
    obtain ⟨k, qs, hk, rfl, hb, h3, hr, hne⟩ := hrel
    have hsz := hb.size
    by_cases hlt : k < n
    · obtain ⟨ad, rfl, hbl, hc, hsl⟩ := (HS.out.below hb).at_ (k := k) (by rw [HX.out]; exact hlt)
      have hi : (0 : Int) ≤ k := by omega
      have hi2 : (k : Int) < n := by omega
      have hi3 : (n : Int) ≤ 1048576 := by omega
      have HLT := Lib.hid h3.lt
      have HC := Lib.hid hc; have HSL := Lib.hid hsl; have HR := Lib.hid hr; have HNE := Lib.hid hne; clear hc hsl hr hne
      go_wp2_with (refine wpList_load_many rfl 24 _ rfl (ad.add (k * 2)) rfl (rgC (rgs rs k)) HC.out Try.underlying24 rfl info_lringS ?_)
      refine (c_toRing _ _ _ _ _ HSL.out (HQ.out k hlt)).mono ?_; rintro e w1 ⟨g, rfl, hY, hgY, b⟩
      have HG := Lib.hid hgY; clear hgY
      replace h3 := h3.below b h3.lt; replace hb := seq_below hb b; replace HR := Lib.hid (HR.out.below b); clear b
      go_wp2_with (refine wpList_store_part (cs := fl2 qs) rfl 34 _ _ rfl w.heap.size (k * 2) rfl (rgC ⟨some ⟨g, 0, none⟩, (rgs rs k).xs.length, (rgs rs k).xs, (rgs rs k).at0⟩) rfl h3 info_ring (by rw [fl2_length, HR.out.1, HX.out, rgC_length]; omega) rfl ?_; rw [over_fl2 _ _ _ (by rw [HR.out.1, HX.out]; exact hlt)])
      go_roundw
      case rel =>
        have hlen : k < qs.length := by rw [HR.out.1, HX.out]; exact hlt
        have hgne : w.heap.size < g := by
          have h1 := HG.out; have h2 := HLT.out
          omega
        have hne2 : ∀ j, j < (qs.set k ⟨some ⟨g, 0, none⟩, (rgs rs k).xs.length, (rgs rs k).xs, (rgs rs k).at0⟩).length → ∀ ad, (rgs (qs.set k ⟨some ⟨g, 0, none⟩, (rgs rs k).xs.length, (rgs rs k).xs, (rgs rs k).at0⟩) j).A = some ad → (rgs (qs.set k ⟨some ⟨g, 0, none⟩, (rgs rs k).xs.length, (rgs rs k).xs, (rgs rs k).at0⟩) j).xs ≠ [] → w.heap.size < ad.block := by
          intro j hj ad hA hx
          rw [rgs_set _ _ _ _ hlen] at hA hx
          by_cases e : j = k
          · rw [if_pos e] at hA; cases hA; exact hgne
          · rw [if_neg e] at hA hx; exact HNE.out j (by rwa [List.length_set] at hj) ad hA hx
        refine ⟨k + 1, _, by omega, by go_num, below_setRow hb (Nat.le_refl _) _, h3.row _, ?_, hne2⟩
        exact RsTo.row (RsTo.step HR.out (by rw [HX.out]; exact hlt) ⟨some ⟨g, 0, none⟩, (rgs rs k).xs.length, (rgs rs k).xs, (rgs rs k).at0⟩ rfl rfl (Sl.of_blk hY)) _ (fun j hj ad hA hx => Nat.ne_of_gt (hne2 j hj ad hA hx))
      case measure => simp [intOf]; omega
    · have e : k = n := by omega
      subst e
      have HF : Hid (RsF wr w.heap.size (some ⟨w.heap.size, 0, none⟩) qs) := by
        refine ⟨h3.rs hr.2.2, .inr fun ad e => by cases e; exact Nat.le_refl _, fun k hk => ?_⟩
        by_cases hx : (rgs qs k).xs = []
        · exact .inl hx
        · exact .inr fun ad hA => Nat.le_of_lt (hne k hk ad hA hx)
      have HR := Lib.hid hr; clear hr hne
      go_wp2
      go_ret
      exact ⟨_, qs, rfl, HF.out, HR.out, hb⟩
end Go.Proofs.Ytpchebclhjgcmaa
namespace Go.Fl
open Go.RowKit
theorem Rs.cells {w : World} {ad : Addr} {rs : List RingV} (h : Rs w (some ad) rs) {k : Nat} (hk : k < rs.length) : ∀ j v, (rgC (rgs rs k))[j]? = some v → w.cell? ((ad.add (k * 2)).add j) = some v := by
  obtain ⟨ad', e, _, hc, _⟩ := h.at_ hk
  cases e; exact hc
/-- The same rings, but for where they lie. -/
def RsEq (rs qs : List RingV) (n : Nat) : Prop := ∀ k, k < n → (rgs qs k).xs = (rgs rs k).xs ∧ (rgs qs k).at0 = (rgs rs k).at0
theorem RsEq.refl (rs : List RingV) (n : Nat) : RsEq rs rs n := fun _ _ => ⟨rfl, rfl⟩
theorem RsEq.trans {rs qs ps : List RingV} {n : Nat} (h : RsEq rs qs n) (g : RsEq qs ps n) : RsEq rs ps n := fun k hk => ⟨(g k hk).1.trans (h k hk).1, (g k hk).2.trans (h k hk).2⟩
theorem RsEq.symm {rs qs : List RingV} {n : Nat} (h : RsEq rs qs n) : RsEq qs rs n := fun k hk => ⟨(h k hk).1.symm, (h k hk).2.symm⟩
theorem RsEq.of (rs qs : List RingV) {n k : Nat} (h : RsEq rs qs n) (hk : k < n) : ∃ B d, rgs qs k = ⟨B, d, (rgs rs k).xs, (rgs rs k).at0⟩ := by
  obtain ⟨h1, h2⟩ := h k hk
  exact ⟨(rgs qs k).A, (rgs qs k).c, by rw [← h1, ← h2]⟩
theorem RsTo.eq {w : World} {rs qs : List RingV} {n : Nat} (h : RsTo w rs qs n) : RsEq rs qs n := h.2.1
end Go.Fl
namespace Go.Proofs.Ytpchebclhjgcmaa
open Go.RowKit Go.Fl
set_option maxRecDepth 20000 in
set_option maxHeartbeats 4000000 in
theorem c_eqRingS (A B : Option Addr) (c d n : Nat) (rs qs : List RingV) (w : World) (hs : Rs w A rs) (ht : Rs w B qs) (hx : rs.length = n) (hy : qs.length = n) (hl2 : n ≤ 1048576) (hq : ∀ k, k < n → (rgs rs k).xs.length ≤ 4294967296) (h : RsEq rs qs n) :
    Calls Try.prog 74 #[.slice A n c, .slice B n d] w fun e w' => e = .returned (.bool true) ∧ Below w.heap.size w w' := by
  have HS := Lib.hid hs; have HT := Lib.hid ht; have H := Lib.hid h; have HX := Lib.hid hx; have HY := Lib.hid hy; have HQ := Lib.hid hq; clear hs ht h hx hy hq
  go_enter Try.func74, Try.ntmps74
  go_wp2
  go_loopw [5] (fun i wr => ∃ k : Nat, k ≤ n ∧ i = .int .i64 k ∧ Below w.heap.size w wr) (fun i _ => n - (intOf i).toNat)
  case atStart => exact ⟨0, by omega, rfl, Below.refl _ _⟩
  case round =>
    obtain ⟨k, hk, rfl, hb⟩ := hrel
    by_cases hlt : k < n
    · obtain ⟨ad, rfl, hbl, _, hsl⟩ := (HS.out.below hb).at_ (k := k) (by rw [HX.out]; omega)
      obtain ⟨bd, rfl, hbl2, _, htl⟩ := (HT.out.below hb).at_ (k := k) (by rw [HY.out]; omega)
      obtain ⟨B', d', he⟩ := RsEq.of rs qs H.out hlt
      have HC1 := Lib.hid (show ∀ w', Below wr.heap.size wr w' → ∀ j v, (rgC (rgs rs k))[j]? = some v → w'.cell? ((ad.add (k * 2)).add j) = some v from fun w' hw => ((HS.out.below hb).below hw).cells (by rw [HX.out]; omega))
      have HC2 := Lib.hid (show ∀ w', Below wr.heap.size wr w' → ∀ j v, (rgC ⟨B', d', (rgs rs k).xs, (rgs rs k).at0⟩)[j]? = some v → w'.cell? ((bd.add (k * 2)).add j) = some v from fun w' hw => by
        have := ((HT.out.below hb).below hw).cells (k := k) (by rw [HY.out]; omega)
        rw [he] at this; exact this)
      rw [he] at htl
      have HSL := Lib.hid hsl; have HTL := Lib.hid htl; clear hsl htl he
      have HL := Lib.hid (HQ.out k hlt)
      have hi : (0 : Int) ≤ k := by omega
      have hi2 : (k : Int) < n := by omega
      have hi3 : (n : Int) ≤ 1048576 := by omega
      go_wp2_with fail
      have s0 := (Below.refl wr.heap.size wr).drew
      refine wp_region_seq (S := fun w' => Below wr.heap.size wr w') [(true, 0), (true, 1), (true, 2), (true, 3), (true, 4), (true, 5), (true, 6), (true, 7), (false, 8), (false, 9)] (by kernel_rfl) (by kernel_rfl) (by kernel_rfl) (fun _ _ d _ _ h => by cases d <;> exact h) s0 ?_
      refine wpSeq_heldE (v := .slice (some ad) n c) rfl rfl (.inl ⟨rfl, fun w' hw => by go_simp⟩) _ (by simp only [List.setIfInBounds_toArray, List.set_cons_zero, List.set_cons_succ]; rfl) ?_
      refine wpSeq_heldE (v := .int .i64 (k : Int)) rfl rfl (.inl ⟨rfl, fun w' hw => by go_simp⟩) _ (by simp only [List.setIfInBounds_toArray, List.set_cons_zero, List.set_cons_succ]; rfl) ?_
      refine wpSeq_heldE (v := .pointer (some (ad.add (k * 2)))) rfl rfl (.inl ⟨rfl, fun w' hw => by go_simp⟩) _ (by simp only [List.setIfInBounds_toArray, List.set_cons_zero, List.set_cons_succ]; rfl) ?_
      refine wpSeq_heldE rfl rfl (yields_load_many rfl _ _ rfl (ad.add (k * 2)) rfl (rgC (rgs rs k)) HC1.out Try.underlying34 rfl info_ring) _ (by simp only [List.setIfInBounds_toArray, List.set_cons_zero, List.set_cons_succ]; rfl) ?_
      refine wpSeq_heldE (v := .slice (some bd) n d) rfl rfl (.inl ⟨rfl, fun w' hw => by go_simp⟩) _ (by simp only [List.setIfInBounds_toArray, List.set_cons_zero, List.set_cons_succ]; rfl) ?_
      refine wpSeq_heldE (v := .int .i64 (k : Int)) rfl rfl (.inl ⟨rfl, fun w' hw => by go_simp⟩) _ (by simp only [List.setIfInBounds_toArray, List.set_cons_zero, List.set_cons_succ]; rfl) ?_
      refine wpSeq_heldE (v := .pointer (some (bd.add (k * 2)))) rfl rfl (.inl ⟨rfl, fun w' hw => by go_simp⟩) _ (by simp only [List.setIfInBounds_toArray, List.set_cons_zero, List.set_cons_succ]; rfl) ?_
      refine wpSeq_heldE rfl rfl (yields_load_many rfl _ _ rfl (bd.add (k * 2)) rfl (rgC ⟨B', d', (rgs rs k).xs, (rgs rs k).at0⟩) HC2.out Try.underlying34 rfl info_ring) _ (by simp only [List.setIfInBounds_toArray, List.set_cons_zero, List.set_cons_succ]; rfl) ?_
      refine wpSeq_step rfl rfl (fun K hK => ?_)
      go_wp2_with fail
      refine (c_eqRing _ _ _ _ _ _ _ _ (HSL.out.below s0) (HTL.out.below s0) rfl HL.out (fun _ _ => rfl)).mono ?_; rintro e w1 ⟨rfl, b⟩
      have s1 := seq_below s0 b
      refine hK _ _ ⟨s1, ?_⟩; clear hK
      refine wpSeq_step rfl rfl (fun K hK => ?_)
      go_wp2_with fail
      refine ⟨s1, ?_⟩
      refine wpSeq_nil ?_
      go_wp2_with fail
      go_roundw
      case rel => exact ⟨k + 1, by omega, by go_num, seq_below hb s1⟩
      case measure => simp [intOf]; omega
    · have e : k = n := by omega
      subst e
      go_wp2
      go_ret
      exact ⟨rfl, hb⟩
end Go.Proofs.Ytpchebclhjgcmaa
namespace Go.Proofs.Ytpchebclhjgcmaa
open Go.RowKit Go.Fl
theorem sameL_ne' {xs ys : List Nat} {v : Bool} (h : xs.length ≠ ys.length) (hv : sameL xs ys = v) : false = v := (sameL_ne h).trans hv
set_option maxHeartbeats 1000000 in
theorem c_sSameListQ (A B : Option Addr) (c d n m : Nat) (xs ys : List Nat) (v : Bool) (w : World) (hs : Sl w A xs) (ht : Sl w B ys) (hn : xs.length = n) (hm : ys.length = m) (hl : (n : Int) ≤ 4294967296) (hv : sameL xs ys = v) :
    Calls Try.prog 84 #[.slice A n c, .slice B m d] w fun e w' => e = .returned (.bool v) ∧ ∃ q, w' = w.drewN q := by
  by_cases he : n = m
  case neg =>
    have HR := Lib.hid (sameL_ne' (by rw [hn, hm]; exact he) hv)
    have hne : ((n : Int) == (m : Int)) = false := by simp; omega
    clear hs ht hl hn hm hv
    go_enter Try.func84, Try.ntmps84
    go_wp2
    go_ret
    exact ⟨ret_boolx HR.out, 0, rfl⟩
  case pos =>
    subst he
    have HR := Lib.hid ((sameL_eq (hn.trans hm.symm)).trans hv)
    rw [hn] at HR
    clear hv
    have HL := Lib.hid hl; clear hl
    have HS := Lib.hid hs; have HT := Lib.hid ht; clear hs ht
    have HN := Lib.hid hn; have HE := Lib.hid hm; clear hn hm
    go_enter Try.func84, Try.ntmps84
    go_wp2
    go_loopw [5] (fun i wr => ∃ k : Nat, k ≤ n ∧ i = .int .i64 k ∧ Hid (∃ q, wr = w.drewN q) ∧ Hid (∀ j, j < k → sameB (nth xs j) (nth ys j) = true)) (fun i _ => n - (intOf i).toNat)
    case atStart => exact ⟨0, by omega, rfl, ⟨0, rfl⟩, fun j hj => by omega⟩
    case round =>
      obtain ⟨k, hk, rfl, HD, HK⟩ := hrel
      by_cases hlt : k < n
      · have hsr : Sl wr A xs := by obtain ⟨q, rfl⟩ := HD.out; exact HS.out
        have htr : Sl wr B ys := by obtain ⟨q, rfl⟩ := HD.out; exact HT.out
        obtain ⟨ad, rfl, hbl, c1⟩ := hsr.at_ (k := k) (by rw [HN.out]; exact hlt)
        obtain ⟨bd, rfl, hbl2, c2⟩ := htr.at_ (k := k) (by rw [HE.out]; exact hlt)
        clear hsr htr
        have hi : (0 : Int) ≤ k := by omega
        have hi2 : (k : Int) < n := by omega
        have hi3 : (n : Int) ≤ 4294967296 := HL.out
        cases hsm : sameB (nth xs k) (nth ys k)
        · have HQ := Lib.hid (sameN_no xs ys n k hlt hsm)
          have HZ := Lib.hid hsm; clear hsm
          go_wp2
          go_quiet (((go_at_call 44; exact Calls.quiet_of_same (c_l01Same_v _ _ _ _ HZ.out))))
          go_wp2
          go_ret
          exact ⟨ret_boolx (HQ.out.symm.trans HR.out), by obtain ⟨q, rfl⟩ := HD.out; first | exact ⟨_, rfl⟩ | exact ⟨_, World.drewN_drewN ..⟩⟩
        · have HZ := Lib.hid hsm; clear hsm
          go_wp2
          go_quiet (((go_at_call 44; exact Calls.quiet_of_same (c_l01Same_v _ _ _ _ HZ.out))))
          go_wp2
          go_roundw
          case rel => exact ⟨k + 1, by omega, by go_num, by obtain ⟨q, rfl⟩ := HD.out; first | exact ⟨_, rfl⟩ | exact ⟨_, World.drewN_drewN ..⟩, fun j hj => by
            by_cases e : j = k
            · subst e; exact HZ.out
            · exact HK.out j (by omega)⟩
          case measure => simp [intOf]; omega
      · have e : k = n := by omega
        subst e
        have HQ := Lib.hid (sameN_yes xs ys k HK.out)
        clear HK
        go_wp2
        go_ret
        exact ⟨ret_boolx (HQ.out.symm.trans HR.out), HD.out⟩
def srK (rs qs : List RingV) (k : Nat) : Bool := srB (rgs rs k).xs (rgs qs k).xs (rgs rs k).at0 (rgs qs k).at0
def srN (rs qs : List RingV) (n : Nat) : Bool := (List.range n).all (srK rs qs)
theorem srN_no (rs qs : List RingV) (n k : Nat) (hk : k < n) (h : srK rs qs k = false) : srN rs qs n = false := by
  unfold srN; rw [List.all_eq_false]; exact ⟨k, by simpa using hk, by rw [h]; exact Bool.false_ne_true⟩
theorem srN_yes (rs qs : List RingV) (n : Nat) (h : ∀ j, j < n → srK rs qs j = true) : srN rs qs n = true := by
  unfold srN; rw [List.all_eq_true]; intro k hk; exact h k (by simpa using hk)
/-- Two lists of rings are the same. -/
def srsB (rs qs : List RingV) : Bool := decide (rs.length = qs.length) && srN rs qs rs.length
theorem srsB_ne {rs qs : List RingV} (h : rs.length ≠ qs.length) : false = srsB rs qs := by unfold srsB; rw [decide_eq_false h]; rfl
theorem srsB_eq {rs qs : List RingV} (h : rs.length = qs.length) : srN rs qs rs.length = srsB rs qs := by unfold srsB; rw [decide_eq_true h, Bool.true_and]
set_option maxRecDepth 20000 in
set_option maxHeartbeats 2000000 in
theorem c_sSameRings (A B : Option Addr) (c d n m : Nat) (rs qs : List RingV) (w : World) (hs : Rs w A rs) (ht : Rs w B qs) (hn : rs.length = n) (hm : qs.length = m) (hl : (n : Int) ≤ 1048576) (hf : ∀ k, k < n → ((rgs rs k).xs.length : Int) ≤ 4294967296) :
    Calls Try.prog 100 #[.slice A n c, .slice B m d] w fun e w' => e = .returned (.bool (srsB rs qs)) ∧ ∃ q, w' = w.drewN q := by
  by_cases he : n = m
  case neg =>
    have HR := Lib.hid (srsB_ne (rs := rs) (qs := qs) (by rw [hn, hm]; exact he))
    have hne : ((n : Int) == (m : Int)) = false := by simp; omega
    clear hs ht hl hn hm hf
    go_enter Try.func100, Try.ntmps100
    go_wp2
    go_ret
    exact ⟨ret_boolx HR.out, 0, rfl⟩
  case pos =>
    subst he
    have HR := Lib.hid (srsB_eq (hn.trans hm.symm))
    rw [hn] at HR
    have HL := Lib.hid hl; have HF := Lib.hid hf; clear hl hf
    have HS := Lib.hid hs; have HT := Lib.hid ht; clear hs ht
    have HN := Lib.hid hn; have HE := Lib.hid hm; clear hn hm
    go_enter Try.func100, Try.ntmps100
    go_wp2
    go_loopw [5] (fun i wr => ∃ k : Nat, k ≤ n ∧ i = .int .i64 k ∧ Hid (∃ q, wr = w.drewN q) ∧ Hid (∀ j, j < k → srK rs qs j = true)) (fun i _ => n - (intOf i).toNat)
    case atStart => exact ⟨0, by omega, rfl, ⟨0, rfl⟩, fun j hj => by omega⟩
    case round =>
      obtain ⟨k, hk, rfl, HD, HK⟩ := hrel
      by_cases hlt : k < n
      · have hsr : Rs wr A rs := by obtain ⟨q, rfl⟩ := HD.out; exact HS.out
        have htr : Rs wr B qs := by obtain ⟨q, rfl⟩ := HD.out; exact HT.out
        obtain ⟨ad, rfl, hbl, c1, hsl⟩ := hsr.at_ (k := k) (by rw [HN.out]; exact hlt)
        obtain ⟨bd, rfl, hbl2, c2, htl⟩ := htr.at_ (k := k) (by rw [HE.out]; exact hlt)
        clear hsr htr
        have a0 : wr.cell? (ad.add (k * 2)) = some (.slice (rgs rs k).A (rgs rs k).xs.length (rgs rs k).c) := c1 0 _ rfl
        have a1 : wr.cell? ⟨(ad.add (k * 2)).block, (ad.add (k * 2)).off + 1, none⟩ = some (.int .i64 (rgs rs k).at0) := c1 1 _ rfl
        have b0 : wr.cell? (bd.add (k * 2)) = some (.slice (rgs qs k).A (rgs qs k).xs.length (rgs qs k).c) := c2 0 _ rfl
        have b1 : wr.cell? ⟨(bd.add (k * 2)).block, (bd.add (k * 2)).off + 1, none⟩ = some (.int .i64 (rgs qs k).at0) := c2 1 _ rfl
        clear c1 c2
        have HSL := Lib.hid hsl; have HTL := Lib.hid htl; clear hsl htl
        have hi : (0 : Int) ≤ k := by omega
        have hi2 : (k : Int) < n := by omega
        have hi3 : (n : Int) ≤ 1048576 := HL.out
        by_cases hat : (rgs rs k).at0 = (rgs qs k).at0
        case neg =>
          have HQ := Lib.hid (srN_no rs qs n k hlt (srB_ne hat).symm)
          have hne : ((rgs rs k).at0 == (rgs qs k).at0) = false := by simpa using hat
          have hne2 : ((rgs rs k).at0 != (rgs qs k).at0) = true := by simpa using hat
          clear hat
          go_wp2
          go_quiet (fail)
          go_wp2
          go_ret
          exact ⟨ret_boolx (HQ.out.symm.trans HR.out), by obtain ⟨q, rfl⟩ := HD.out; first | exact ⟨_, rfl⟩ | exact ⟨_, World.drewN_drewN ..⟩⟩
        case pos =>
          have hk2 : srK rs qs k = sameL (rgs rs k).xs (rgs qs k).xs := by unfold srK; rw [hat]; exact (srB_eq _ _ _).symm
          rw [← hat] at b1
          clear hat
          cases hsm : sameL (rgs rs k).xs (rgs qs k).xs
          · have HQ := Lib.hid (srN_no rs qs n k hlt (hk2.trans hsm))
            have HZ := Lib.hid hsm; clear hsm hk2
            go_wp2
            go_quiet (((go_at_call 84; exact Calls.quiet_of (c_sSameListQ _ _ _ _ _ _ _ _ _ _ (Sl.drewN HSL.out _) (Sl.drewN HTL.out _) rfl rfl (HF.out k hlt) HZ.out))))
            go_wp2
            go_ret
            exact ⟨ret_boolx (HQ.out.symm.trans HR.out), by obtain ⟨q, rfl⟩ := HD.out; first | exact ⟨_, rfl⟩ | exact ⟨_, World.drewN_drewN ..⟩⟩
          · have HZ := Lib.hid hsm; have HZ2 := Lib.hid (hk2.trans hsm); clear hsm hk2
            go_wp2
            go_quiet (((go_at_call 84; exact Calls.quiet_of (c_sSameListQ _ _ _ _ _ _ _ _ _ _ (Sl.drewN HSL.out _) (Sl.drewN HTL.out _) rfl rfl (HF.out k hlt) HZ.out))))
            go_wp2
            go_roundw
            case rel => exact ⟨k + 1, by omega, by go_num, by obtain ⟨q, rfl⟩ := HD.out; first | exact ⟨_, rfl⟩ | exact ⟨_, World.drewN_drewN ..⟩, fun j hj => by
              by_cases e : j = k
              · subst e; exact HZ2.out
              · exact HK.out j (by omega)⟩
            case measure => simp [intOf]; omega
      · have e : k = n := by omega
        subst e
        have HQ := Lib.hid (srN_yes rs qs k HK.out)
        clear HK
        go_wp2
        go_ret
        exact ⟨ret_boolx (HQ.out.symm.trans HR.out), HD.out⟩
end Go.Proofs.Ytpchebclhjgcmaa
namespace Go.Proofs.Ytpchebclhjgcmaa
open Go.RowKit Go.Fl
set_option maxRecDepth 20000 in
set_option maxHeartbeats 2000000 in
theorem c_EqRings (A B : Option Addr) (c d n m : Nat) (rs qs : List RingV) (w : World) (hs : Rs w A rs) (ht : Rs w B qs) (hn : rs.length = n) (hm : qs.length = m) (hl : (n : Int) ≤ 1048576) (hf : ∀ k, k < n → ((rgs rs k).xs.length : Int) ≤ 4294967296) :
    Calls Try.prog 82 #[.slice A n c, .slice B m d, .func (.func 47) #[] #[]] w fun e w' => e = .returned (.bool (srsB rs qs)) ∧ Below w.heap.size w w' := by
  by_cases he : n = m
  case neg =>
    have HR := Lib.hid (srsB_ne (rs := rs) (qs := qs) (by rw [hn, hm]; exact he))
    have hne : ((n : Int) == (m : Int)) = false := by simp; omega
    have hne2 : ((n : Int) != (m : Int)) = true := by simp; omega
    clear hs ht hl hn hm hf
    go_enter Try.func82, Try.ntmps82
    go_wp2
    go_ret
    exact ⟨ret_boolx HR.out, Below.refl _ _⟩
  case pos =>
    subst he
    have HR := Lib.hid (srsB_eq (hn.trans hm.symm))
    rw [hn] at HR
    have HL := Lib.hid hl; have HF := Lib.hid hf; clear hl hf
    have HS := Lib.hid hs; have HT := Lib.hid ht; clear hs ht
    have HN := Lib.hid hn; have HE := Lib.hid hm; clear hn hm
    go_enter Try.func82, Try.ntmps82
    go_wp2
    go_loopw [17] (fun i wr => ∃ k : Nat, k ≤ n ∧ i = .int .i64 k ∧ Below w.heap.size w wr ∧ Hid (∀ j, j < k → srK rs qs j = true)) (fun i _ => n - (intOf i).toNat)
    case atStart => exact ⟨0, by omega, rfl, Below.refl _ _, fun j hj => by omega⟩
    case round =>
      obtain ⟨k, hk, rfl, hb, HK⟩ := hrel
      by_cases hlt : k < n
      · obtain ⟨ad, rfl, hbl, _, hsl⟩ := (HS.out.below hb).at_ (k := k) (by rw [HN.out]; exact hlt)
        obtain ⟨bd, rfl, hbl2, _, htl⟩ := (HT.out.below hb).at_ (k := k) (by rw [HE.out]; exact hlt)
        have HC1 := Lib.hid (show ∀ w', Below wr.heap.size wr w' → ∀ j v, (rgC (rgs rs k))[j]? = some v → w'.cell? ((ad.add (k * 2)).add j) = some v from fun w' hw => ((HS.out.below hb).below hw).cells (by rw [HN.out]; omega))
        have HC2 := Lib.hid (show ∀ w', Below wr.heap.size wr w' → ∀ j v, (rgC (rgs qs k))[j]? = some v → w'.cell? ((bd.add (k * 2)).add j) = some v from fun w' hw => ((HT.out.below hb).below hw).cells (by rw [HE.out]; omega))
        have HSL := Lib.hid hsl; have HTL := Lib.hid htl; clear hsl htl
        have hi : (0 : Int) ≤ k := by omega
        have hi2 : (k : Int) < n := by omega
        have hi3 : (n : Int) ≤ 1048576 := HL.out
        have HFK := Lib.hid (HF.out k hlt)
        cases hsm : srK rs qs k
        all_goals
          have HZ := Lib.hid hsm; clear hsm
          go_wp2_with (first
            | (refine wpList_load_cells rfl 34 _ rfl _ rfl hr1 Try.underlying34 rfl info_ring ?_)
            | (refine wpList_load_cells rfl 34 _ rfl _ rfl hr2 Try.underlying34 rfl info_ring ?_)
            | (have _ := B1; refine wpList_load_many rfl 34 _ rfl (bd.add (k * 2)) rfl (rgC (rgs qs k)) (HC2.out _ B1.out) Try.underlying34 rfl info_ring ?_)
            | (refine wpList_load_many rfl 34 _ rfl (ad.add (k * 2)) rfl (rgC (rgs rs k)) (HC1.out _ (Below.refl _ _)) Try.underlying34 rfl info_ring ?_)
            | (have _ := B1; refine wpList_store_newest (cells := (rgC (rgs qs k)).toArray) rfl 34 _ _ rfl rfl rfl info_ring rfl rfl (fun w2 b5 hr2 => ?_); replace hr1 := hr1.below b5 hr1.lt; have B2 := Lib.hid (seq_below B1.out b5); clear b5)
            | (refine wpList_store_newest (cells := (rgC (rgs rs k)).toArray) rfl 34 _ _ rfl rfl rfl info_ring rfl rfl (fun w1 b4 hr1 => ?_); have B1 := Lib.hid b4; clear b4))
          refine (c_iSameRing _ _ _ _ _ _ _ _ _ (HSL.out.below B2.out) (HTL.out.below B2.out) HFK.out).mono ?_; rintro e w3 ⟨rfl, b⟩
          rw [show srB (rgs rs k).xs (rgs qs k).xs (rgs rs k).at0 (rgs qs k).at0 = _ from HZ.out]
          replace hb := Lib.hid (seq_below (seq_below hb B2.out) b); clear b
          go_wp2_with fail
        · go_ret
          exact ⟨ret_boolx ((srN_no rs qs n k hlt HZ.out).symm.trans HR.out), hb.out⟩
        · go_roundw
          case rel => exact ⟨k + 1, by omega, by go_num, hb.out, fun j hj => by
            by_cases e : j = k
            · subst e; exact HZ.out
            · exact HK.out j (by omega)⟩
          case measure => simp [intOf]; omega
      · have e : k = n := by omega
        subst e
        have HQ := Lib.hid (srN_yes rs qs k HK.out)
        clear HK
        go_wp2
        go_ret
        exact ⟨ret_boolx (HQ.out.symm.trans HR.out), hb⟩
end Go.Proofs.Ytpchebclhjgcmaa
