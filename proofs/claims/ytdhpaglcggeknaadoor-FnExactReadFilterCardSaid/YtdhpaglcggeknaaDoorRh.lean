/- Small numbers in decimal, as the reference reads them. A filter's text: what reads it, plain; ParseInt. No condition. -/
import Derived.Test.YtdhpaglcggeknaaDoorRf
import Derived.Test.YtdhpaglcggeknaaDoorPf
import Derived.Test.YtdhpaglcggeknaaDoorPg
namespace Go.Fl
open Go.RowKit
/-- The number of decimal digits. -/
def numD : Nat → List UInt8 → Option Nat
  | acc, [] => some acc
  | acc, c :: r => if 48 ≤ c.toNat ∧ c.toNat ≤ 57 then numD (acc * 10 + (c.toNat - 48)) r else none
/-- A number as the reference takes it. -/
def numS (p : List UInt8) : Option Nat := if (1 ≤ p.length ∧ p.length ≤ 9) ∧ ¬ (p.head? = some 48 ∧ 1 < p.length) then numD 0 p else none
theorem numD_snoc : ∀ (p : List UInt8) (acc : Nat) (c : UInt8), numD acc (p ++ [c]) = (numD acc p).bind fun n => if 48 ≤ c.toNat ∧ c.toNat ≤ 57 then some (n * 10 + (c.toNat - 48)) else none
  | [], acc, c => by
    show numD acc [c] = _
    unfold numD
    split <;> rfl
  | b :: p, acc, c => by
    show numD acc (b :: (p ++ [c])) = _
    unfold numD
    split
    · exact numD_snoc p _ c
    · rfl
theorem numD_ge : ∀ (p : List UInt8) (acc n : Nat), numD acc p = some n → acc ≤ n
  | [], acc, n, h => by cases h; exact Nat.le_refl _
  | c :: p, acc, n, h => by
    unfold numD at h
    split at h
    · have := numD_ge p _ n h; omega
    · cases h
theorem numD_dec (p : List UInt8) : ∀ (m : Nat), p.length = m → 1 ≤ m → p.head? ≠ some 48 ∨ m = 1 → ∀ n, numD 0 p = some n → p = Lib.decDigits n := by
  intro m
  induction m generalizing p with
  | zero => intro _ h1; omega
  | succ m ih =>
    intro hl h1 h0 n hn
    have hne : p ≠ [] := by intro e; subst e; simp at hl
    obtain ⟨q, c, rfl⟩ : ∃ q c, p = q ++ [c] := ⟨p.dropLast, p.getLast hne, (List.dropLast_concat_getLast hne).symm⟩
    have hq : q.length = m := by simpa using hl
    rw [numD_snoc] at hn
    cases hd : numD 0 q with
    | none => rw [hd] at hn; cases hn
    | some v =>
      rw [hd] at hn
      simp only [Option.bind_some] at hn
      split at hn
      · rename_i hc
        have e : v * 10 + (c.toNat - 48) = n := Option.some.inj hn
        have hdg : ∀ x : Nat, x = c.toNat - 48 → UInt8.ofNat (48 + x) = c := fun x hx => by
          rw [hx, show 48 + (c.toNat - 48) = c.toNat from by omega]; simp
        by_cases hm : m = 0
        · have hq0 : q = [] := List.length_eq_zero_iff.1 (by omega)
          subst hq0
          have hv : v = 0 := by simp [numD] at hd; exact hd.symm
          subst hv
          rw [Lib.decDigits, dif_pos (by omega)]
          rw [hdg n (by omega)]; rfl
        · have hq1 : q.head? ≠ some 48 := by
            rcases h0 with h0 | h0
            · intro e2; apply h0
              match q, e2 with
              | b :: q, e2 => simpa using e2
            · omega
          have hr := ih q hq (by omega) (.inl hq1) v hd
          have hv1 : 1 ≤ v := by
            match q, hq1, hd with
            | [], _, _ => simp at hq; omega
            | b :: q, hq1, hd =>
              unfold numD at hd
              split at hd
              · rename_i hb
                have := numD_ge q _ v hd
                have hb2 : b.toNat ≠ 48 := fun e3 => hq1 (by
                  have : b = 48 := UInt8.toNat_inj.1 e3
                  subst this; rfl)
                omega
              · cases hd
          rw [Lib.decDigits, dif_neg (by omega)]
          rw [show n / 10 = v from by omega, show n % 10 = c.toNat - 48 from by omega, hdg _ rfl, ← hr]
      · cases hn
theorem numS_dec {p : List UInt8} {n : Nat} (h : numS p = some n) : p = Lib.decDigits n := by
  unfold numS at h
  split at h
  · rename_i hc
    refine numD_dec p p.length rfl hc.1.1 ?_ n h
    by_cases e : p.head? = some 48
    · have := hc.2; right
      have h2 : ¬ 1 < p.length := fun h3 => this ⟨e, h3⟩
      have := hc.1.1; omega
    · exact .inl e
  · cases h
end Go.Fl
namespace Go.Proofs.YtdhpaglcggeknaaDoor
open Go.RowKit Go.Fl
def NuR (p : List UInt8) (e : Ending) : Prop := (∃ n : Nat, numS p = some n ∧ e = .returned (.tuple #[.int .i64 n, .bool true])) ∨ (numS p = none ∧ e = .returned (.tuple #[.int .i64 0, .bool false]))
theorem c_l01Number_no (p : List UInt8) (h : ¬ (1 ≤ p.length ∧ p.length ≤ 9)) (w : World) :
    Calls Tryd.prog 47 #[.string (bs p)] w fun e w' => NuR p e ∧ Below w.heap.size w w' := by
  have HR := Lib.hid (show numS p = none from if_neg (fun h2 => h h2.1))
  have hsz : (bs p).size = p.length := bs_size p
  obtain ⟨t, ht⟩ : ∃ t, t = bs p := ⟨_, rfl⟩
  rw [← ht] at hsz ⊢
  clear ht
  by_cases h1 : p.length < 1
  · have i1 : (t.size : Int) < 1 := by omega
    clear h hsz h1
    go_enter Tryd.func47, Tryd.ntmps47
    go_wp2
    go_ret2
    exact ⟨.inr ⟨HR.out, rfl⟩, Below.refl _ _⟩
  · have i1 : (9 : Int) < (t.size : Int) := by omega
    clear h hsz h1
    go_enter Tryd.func47, Tryd.ntmps47
    go_wp2
    go_ret2
    exact ⟨.inr ⟨HR.out, rfl⟩, Below.refl _ _⟩
set_option maxHeartbeats 4000000 in
set_option maxRecDepth 100000 in
theorem c_l01Number_in (p : List UInt8) (h1 : 1 ≤ p.length) (h9 : p.length ≤ 9) (w : World) :
    Calls Tryd.prog 47 #[.string (bs p)] w fun e w' => NuR p e ∧ Below w.heap.size w w' := by
  have hsz : (bs p).size = p.length := bs_size p
  have hR : numS p = if ¬ (p.head? = some 48 ∧ 1 < p.length) then numD 0 p else none := by
    unfold numS
    by_cases h : p.head? = some 48 ∧ 1 < p.length
    · rw [if_neg (fun h2 => h2.2 h), if_neg (fun h2 => h2 h)]
    · rw [if_pos ⟨⟨h1, h9⟩, h⟩, if_pos h]
  obtain ⟨t, ht⟩ : ∃ t, t = bs p := ⟨_, rfl⟩
  have hget : ∀ k (h : k < t.size) (hj : k < p.length), t[k]'h = p[k]'hj := by
    subst ht
    intro k h hj
    show (bs p).data[k]'h = _
    simp [bs]
  rw [← ht] at hsz ⊢
  have h0t : 0 < t.size := by omega
  have hz0 := hget 0 h0t (by omega)
  have hhd : p.head? = some p[0] := by rw [List.head?_eq_getElem?]; exact List.getElem?_eq_getElem (by omega)
  have i0 : ¬ ((t.size : Int) < 1) := by omega
  have i9 : (t.size : Int) ≤ 9 := by omega
  have HSZ := Lib.hid hsz; have HG := Lib.hid hget
  by_cases hbad : p.head? = some 48 ∧ 1 < p.length
  · have HN := Lib.hid (hR.trans (if_neg (fun h2 => h2 hbad)))
    have hz : ((t[0]'h0t).toNat : Int) = 48 := by
      rw [hz0]
      have := hbad.1; rw [hhd] at this
      rw [Option.some.inj this]; rfl
    have i1 : (1 : Int) < (t.size : Int) := by have := hbad.2; omega
    clear hR hget hz0 hhd hbad ht hsz
    go_enter Tryd.func47, Tryd.ntmps47
    go_wp2
    go_ret2
    exact ⟨.inr ⟨HN.out, rfl⟩, Below.refl _ _⟩
  · have HN := Lib.hid (hR.trans (if_pos hbad))
    have hz : ¬ ((t[0]'h0t).toNat : Int) = 48 ∨ (((t[0]'h0t).toNat : Int) = 48 ∧ ¬ (1 : Int) < (t.size : Int)) := by
      by_cases e2 : ((t[0]'h0t).toNat : Int) = 48
      · refine .inr ⟨e2, fun e => ?_⟩
        rw [hz0] at e2
        exact hbad ⟨by rw [hhd]; congr 1; exact UInt8.toNat_inj.1 (by show p[0].toNat = 48; omega), by omega⟩
      · exact .inl e2
    clear hR hget hz0 hhd hbad ht hsz
    have LOOP : True := trivial
    rcases hz with hz | ⟨hz, hz2⟩
    all_goals
      go_enter Tryd.func47, Tryd.ntmps47
      go_wp2
      go_loop [4, 5] (fun vn vi => ∃ (k acc : Nat) (a : Int), vn = .int .i64 a ∧ vi = .int .i64 k ∧ k ≤ t.size ∧ Hid (a = (acc : Int) ∧ acc < 10 ^ k ∧ numD 0 p = numD acc (p.drop k)))
        (fun _ vi => t.size - (intOf vi).toNat)
      case atStart => exact ⟨0, 0, 0, rfl, rfl, by omega, rfl, by decide, rfl⟩
      case round =>
        obtain ⟨k, acc, a, rfl, rfl, hk, hh⟩ := hrel
        obtain ⟨ha, hacc, hdec⟩ := hh.out
        clear hh hz
        try clear hz2
        have hk0 : (0 : Int) ≤ k := by omega
        by_cases hkn : k < t.size
        · have h7 : acc < 100000000 := Nat.lt_of_lt_of_le hacc (by
            have : (10 : Nat) ^ k ≤ 10 ^ 8 := Nat.pow_le_pow_right (by decide) (by omega)
            exact this)
          have hacc0 : 0 ≤ a := by omega
          have hacc1 : a ≤ 99999999 := by omega
          have hkp : k < p.length := by have := HSZ.out; omega
          have hdrop : p.drop k = p[k] :: p.drop (k + 1) := List.drop_eq_getElem_cons hkp
          have hc := HG.out k hkn hkp
          rw [hdrop] at hdec
          generalize p[k] = c at hc hdec
          have hkn2 : (k : Int) < t.size := by omega
          have hstep : ∀ d, d < 10 → acc * 10 + d < 10 ^ (k + 1) := fun d hd => by rw [Nat.pow_succ]; omega
          have hu : numD acc (c :: p.drop (k + 1)) = if 48 ≤ c.toNat ∧ c.toNat ≤ 57 then numD (acc * 10 + (c.toNat - 48)) (p.drop (k + 1)) else none := rfl
          rw [hu] at hdec
          clear hdrop hu
          have hcz : (t[k]'hkn).toNat = c.toNat := by rw [hc]
          have hzz : c.toNat < 256 := c.toNat_lt
          clear hc
          generalize c.toNat = z at *
          by_cases hdig : 48 ≤ z ∧ z ≤ 57
          · rw [if_pos hdig] at hdec
            obtain ⟨hd0, hd1⟩ := hdig
            have j0 : ¬ ((z : Int) < 48) := by omega
            have j1 : (z : Int) ≤ 57 := by omega
            have HR := Lib.hid (show a * 10 + ((z : Int) - 48) = ((acc * 10 + (z - 48) : Nat) : Int) ∧ acc * 10 + (z - 48) < 10 ^ (k + 1) ∧ numD 0 p = numD (acc * 10 + (z - 48)) (p.drop (k + 1)) from ⟨by omega, hstep _ (by omega), hdec⟩)
            clear hdec hzz hacc ha hstep h7
            go_wp2
            refine ⟨⟨k + 1, acc * 10 + (z - 48), a * 10 + ((z : Int) - 48), (by first | rfl | (congr 1; omega)), (by first | rfl | (congr 1; omega)), by omega, HR⟩, by simp [intOf]; omega⟩
          · rw [if_neg hdig] at hdec
            have HE := Lib.hid (HN.out.trans hdec)
            clear hdec hzz hacc ha hstep h7
            go_wp2
            all_goals go_ret2
            all_goals exact ⟨.inr ⟨HE.out, rfl⟩, Below.refl _ _⟩
        · have hkk : k = t.size := by omega
          have HE := Lib.hid (show numS p = some acc from by
            rw [HN.out, hdec, List.drop_eq_nil_of_le (by have := HSZ.out; omega)]; rfl)
          subst ha
          clear hdec hacc
          subst hkk
          go_wp2
          go_ret2
          exact ⟨.inl ⟨acc, HE.out, rfl⟩, Below.refl _ _⟩
theorem c_l01Number (p : List UInt8) (w : World) :
    Calls Tryd.prog 47 #[.string (bs p)] w fun e w' => NuR p e ∧ Below w.heap.size w w' := by
  by_cases h : 1 ≤ p.length ∧ p.length ≤ 9
  · exact c_l01Number_in p h.1 h.2 w
  · exact c_l01Number_no p h w
end Go.Proofs.YtdhpaglcggeknaaDoor
namespace Go.Fl
open Go.RowKit
theorem join_spl (c : UInt8) : ∀ s : List UInt8, Lib.join (spl c s) [c] = s
  | [] => by simp [spl, Lib.join_one]
  | b :: s => by
    have ih := join_spl c s
    unfold spl
    by_cases hb : b = c
    · rw [if_pos hb]
      subst hb
      rw [Lib.join_cons]
      cases hs : spl b s with
      | nil =>
        exfalso
        have h1 : 1 ≤ (spl b s).length := by
          cases s with
          | nil => simp [spl]
          | cons x s =>
            unfold spl
            split
            · simp
            · split <;> simp
        rw [hs] at h1; simp at h1
      | cons p ps =>
        rw [hs, Lib.join_cons] at ih
        simp [Lib.joinTail] at ih ⊢
        exact ih
    · rw [if_neg hb]
      cases hs : spl c s with
      | nil =>
        rw [hs] at ih
        simp [Lib.join_nil] at ih
        subst ih
        simp [Lib.join_one]
      | cons p ps =>
        rw [hs, Lib.join_cons] at ih
        simp only [Lib.join_cons, List.cons_append]
        rw [ih]
theorem spl_join (c : UInt8) : ∀ (p : List UInt8) (ps : List (List UInt8)), c ∉ p → (∀ q ∈ ps, c ∉ q) → spl c (Lib.join (p :: ps) [c]) = p :: ps
  | p, [], h, _ => by rw [Lib.join_one, spl_miss c p h]
  | p, q :: ps, h, hq => by
    have ih := spl_join c q ps (hq q (by simp)) (fun r hr => hq r (by simp [hr]))
    rw [Lib.join_cons] at ih ⊢
    have e : Lib.joinTail [c] (q :: ps) = c :: (q ++ Lib.joinTail [c] ps) := by simp [Lib.joinTail]
    rw [e, spl_hit c p _ h, ih]
theorem hexC_ne (d : Nat) (h : d < 16) : hexC d ≠ 32 := by
  have : ∀ d : Fin 16, hexC d.val ≠ 32 := by decide
  exact this ⟨d, h⟩
theorem hexL_ne : ∀ (k n : Nat), (32 : UInt8) ∉ hexL k n
  | 0, _ => by simp [hexL]
  | k + 1, n => by
    unfold hexL
    intro h
    rcases List.mem_append.1 h with h | h
    · exact hexL_ne k _ h
    · exact hexC_ne _ (Nat.mod_lt _ (by decide)) (List.mem_singleton.1 h).symm
end Go.Fl
namespace Go.Proofs.YtdhpaglcggeknaaDoor
open Go.RowKit Go.Fl
def fltN : List UInt8 := [102, 105, 108, 116, 101, 114]
theorem filX_join (n c0 c1 c2 s0 s1 : Nat) : filX n c0 c1 c2 s0 s1 = Lib.join [fltN, Lib.decDigits n, hexT8 c0, hexT8 c1, hexT8 c2, hexT8 s0, hexT8 s1] [32] := by
  unfold filX smT
  simp [Lib.join_cons, Lib.joinTail, fltW, fltN]
theorem dec_five {n : Nat} (h : n ≤ 5) : (32 : UInt8) ∉ Lib.decDigits n ∧ numS (Lib.decDigits n) = some n ∧ Lib.parseIntB 64 (Lib.decDigits n) = .ok (n : Int) := by
  rcases (by omega : n = 0 ∨ n = 1 ∨ n = 2 ∨ n = 3 ∨ n = 4 ∨ n = 5) with rfl | rfl | rfl | rfl | rfl | rfl <;>
    · rw [decDigits_small (by decide)]
      refine ⟨by decide, by decide, by decide⟩
/-- A filter, read. -/
def rfP (s : List UInt8) : Option Fil := match spl 32 s with
  | [p0, p1, p2, p3, p4, p5, p6] => if p0 = fltN then (match numS p1, rdAll [p2, p3, p4, p5, p6] with
      | some k, some [a, b, c, d, e] => if okF k [a, b, c] [d, e] = true then some ⟨k, a, b, c, d, e⟩ else none
      | _, _ => none) else none
  | _ => none
theorem rdAll_five {p2 p3 p4 p5 p6 : List UInt8} {a b c d e : Nat} (h : rdAll [p2, p3, p4, p5, p6] = some [a, b, c, d, e]) : rd p2 = some a ∧ rd p3 = some b ∧ rd p4 = some c ∧ rd p5 = some d ∧ rd p6 = some e := by
  unfold rdAll at h
  cases h2 : rd p2 with
  | none => rw [h2] at h; cases h
  | some x2 =>
  rw [h2] at h
  unfold rdAll at h
  cases h3 : rd p3 with
  | none => rw [h3] at h; cases h
  | some x3 =>
  rw [h3] at h
  unfold rdAll at h
  cases h4 : rd p4 with
  | none => rw [h4] at h; cases h
  | some x4 =>
  rw [h4] at h
  unfold rdAll at h
  cases h5 : rd p5 with
  | none => rw [h5] at h; cases h
  | some x5 =>
  rw [h5] at h
  unfold rdAll at h
  cases h6 : rd p6 with
  | none => rw [h6] at h; cases h
  | some x6 =>
  rw [h6] at h
  cases h
  exact ⟨rfl, rfl, rfl, rfl, rfl⟩
theorem rfP_yes {s : List UInt8} {F : Fil} (h : rfP s = some F) : ∃ p1 p2 p3 p4 p5 p6, spl 32 s = [fltN, p1, p2, p3, p4, p5, p6] ∧ (∃ n : Nat, F.k = n ∧ numS p1 = some n) ∧ Lib.parseIntB 64 p1 = .ok F.k ∧ rdAll [p2, p3, p4, p5, p6] = some [F.c0, F.c1, F.c2, F.s0, F.s1] ∧ okF F.k [F.c0, F.c1, F.c2] [F.s0, F.s1] = true ∧ filTV F.k F.c0 F.c1 F.c2 F.s0 F.s1 = s := by
  unfold rfP at h
  split at h
  · rename_i p0 p1 p2 p3 p4 p5 p6 hs
    split at h
    · rename_i h0
      split at h
      · rename_i k a b c d e hk hr
        split at h
        · rename_i hok
          cases h
          obtain ⟨n, hn, hkn⟩ := okF_five hok
          have hkn : k = n := by omega
          subst hkn
          have hd := numS_dec hk
          obtain ⟨h2, h3, h4, h5, h6⟩ := rdAll_five hr
          subst h0
          refine ⟨p1, p2, p3, p4, p5, p6, hs, ⟨k, rfl, hk⟩, by rw [hd]; exact (dec_five hn).2.2, hr, hok, ?_⟩
          rw [filTV_yes hok]
          have e1 : ((k : Int)).toNat = k := rfl
          show filX ((k : Int)).toNat a b c d e = s
          rw [e1, filX_join, ← hd, rd_text h2, rd_text h3, rd_text h4, rd_text h5, rd_text h6, ← hs]
          exact join_spl 32 s
        · cases h
      · cases h
    · cases h
  · cases h
theorem rfP_of {s p0 p1 p2 p3 p4 p5 p6 : List UInt8} {v : Int} {a b c d e : Nat} (hs : spl 32 s = [p0, p1, p2, p3, p4, p5, p6]) (hp : Lib.parseIntB 64 p1 = .ok v) (hr : rdAll [p2, p3, p4, p5, p6] = some [a, b, c, d, e]) (ht : filTV v a b c d e = s) : rfP s = some ⟨v, a, b, c, d, e⟩ := by
  cases hok : okF v [a, b, c] [d, e]
  · rw [filTV_no hok] at ht
    subst ht
    simp [spl] at hs
  · rw [filTV_yes hok] at ht
    obtain ⟨n, hn, rfl⟩ := okF_five hok
    have e1 : ((n : Int)).toNat = n := rfl
    rw [e1, filX_join] at ht
    have h5 := dec_five hn
    have hsp := spl_join 32 fltN [Lib.decDigits n, hexT8 a, hexT8 b, hexT8 c, hexT8 d, hexT8 e] (by decide) (by
      intro q hq
      simp only [List.mem_cons, List.mem_nil_iff, or_false] at hq
      rcases hq with rfl | rfl | rfl | rfl | rfl | rfl
      · exact h5.1
      all_goals exact hexL_ne _ _)
    rw [ht, hs] at hsp
    simp only [List.cons.injEq, and_true] at hsp
    obtain ⟨g0, g1, _⟩ := hsp
    unfold rfP
    rw [hs]
    show (if p0 = fltN then _ else none) = _
    rw [if_pos g0, g1, h5.2.1, hr]
    show (if okF (n : Int) [a, b, c] [d, e] = true then _ else none) = _
    rw [if_pos hok]
theorem rfP_len {s : List UInt8} (h : (spl 32 s).length ≠ 7) : rfP s = none := by
  cases hr : rfP s with
  | none => rfl
  | some F =>
    obtain ⟨p1, p2, p3, p4, p5, p6, hs, _⟩ := rfP_yes hr
    rw [hs] at h; exact absurd rfl h
/-- What ParseInt hands back. -/
def PiR (p : List UInt8) (e : Ending) : Prop := (∃ v, Lib.parseIntB 64 p = .ok v ∧ e = .returned (.tuple #[.int .i64 v, .nilIface])) ∨ ((∀ v, Lib.parseIntB 64 p ≠ .ok v) ∧ ∃ (v : Int) (N : Nat), e = .returned (.tuple #[.int .i64 v, .iface 137 (.pointer (some ⟨N, 0, none⟩))]))
theorem c_parseInt (p : List UInt8) (hmax : p.length ≤ 1073741824) (w : World) (hE : Ev w) :
    Calls Tryd.prog 49 #[.string (bs p), .int .i64 10, .int .i64 64] w fun e w' => PiR p e ∧ Below w.heap.size w w' := by
  have hd := bs_data p
  have hsz : (bs p).size ≤ 281474976710656 := by rw [bs_size]; omega
  cases hr : Lib.parseIntB 64 p with
  | ok v =>
    refine (Tryd.strconv_ParseInt_10_at64_ok (bs p) (by omega) v (by rw [hd]; exact hr) w).mono fun e w' ⟨he, hw⟩ => ⟨.inl ⟨v, hr, he⟩, ?_⟩
    rcases hw with rfl | ⟨t, rfl⟩
    · exact Below.refl _ _
    · exact Go.Joins.below_bytesWorld _ _ _ _ (Nat.le_refl _)
  | «syntax» =>
    obtain ⟨ev, h1, h2⟩ := hE.syn
    refine (Tryd.strconv_ParseInt_10_at64_syntax (bs p) hsz (by rw [hd]; exact hr) ev w h1 h2).mono fun e w' ⟨N, he, _, _, hw⟩ => ⟨.inr ⟨(fun v hv => by rw [hr] at hv; cases hv), _, N, he⟩, hw⟩
  | range =>
    obtain ⟨ev, h1, h2⟩ := hE.rng
    refine (Tryd.strconv_ParseInt_10_at64_range (bs p) hsz (by rw [hd]; exact hr) ev w h1 h2).mono fun e w' ⟨N, he, _, _, hw⟩ => ⟨.inr ⟨(fun v hv => by rw [hr] at hv; cases hv), _, N, he⟩, hw⟩
end Go.Proofs.YtdhpaglcggeknaaDoor
