/- A string's text: what reads it, plain. Lines and numbers, as the readers of strings take them. The first half printed by gensplit.py. ReadString, in the program. Written by genrs.py. ReadString, in the reference. Written by genrs2.py. No condition. -/
import Derived.Test.YtdhpaglcggeknaaGreatDoorRj
import Derived.Test.YtdhpaglcggeknaaGreatDoorPi
import Derived.Test.YtdhpaglcggeknaaGreatDoorHc
import Derived.Lib.ParseIntBCases
import Derived.Lib.ParseIntBTie
namespace Go.Fl
open Go.RowKit
end Go.Fl
namespace Go.Proofs.YtdhpaglcggeknaaGreatDoor
open Go.RowKit Go.Fl
theorem dgt_toNat {n : Nat} (h : n < 10) : (dgt n).toNat = 48 + n := by
  unfold dgt
  rw [UInt8.toNat_ofNat']
  omega
theorem decDigits_ne (n : Nat) : 1 ≤ (Lib.decDigits n).length := by
  by_cases h : n < 10
  · rw [decDigits_small h]; simp
  · rw [decDigits_big h]; simp
theorem decDigits_short : ∀ (k n : Nat), 1 ≤ k → n < 10 ^ k → (Lib.decDigits n).length ≤ k
  | 0, n, h, _ => by omega
  | k + 1, n, _, hn => by
    by_cases h : n < 10
    · rw [decDigits_small h]; simp
    · rw [decDigits_big h, List.length_append, List.length_singleton]
      have hk : 1 ≤ k := by
        rcases k with _ | k
        · simp at hn; omega
        · omega
      have := decDigits_short k (n / 10) hk (by rw [Nat.pow_succ] at hn; omega)
      omega
theorem decDigits_head (n : Nat) (h1 : 1 ≤ n) : (Lib.decDigits n).head? ≠ some 48 := by
  induction n using Nat.strongRecOn with
  | _ n ih =>
    by_cases h : n < 10
    · rw [decDigits_small h]
      intro e
      have e2 : dgt n = 48 := by simpa using e
      have := dgt_toNat h
      rw [e2] at this
      have h48 : (48 : UInt8).toNat = 48 := rfl
      omega
    · rw [decDigits_big h]
      have := ih (n / 10) (by omega) (by omega)
      intro e
      apply this
      have hne := decDigits_ne (n / 10)
      cases hd : Lib.decDigits (n / 10) with
      | nil => rw [hd] at hne; simp at hne
      | cons b r => rw [hd] at e; simpa using e
theorem numD_decs (n : Nat) : numD 0 (Lib.decDigits n) = some n := by
  induction n using Nat.strongRecOn with
  | _ n ih =>
    by_cases h : n < 10
    · rw [decDigits_small h]
      have e := dgt_toNat h
      unfold numD
      rw [if_pos (by omega), e]
      unfold numD
      simp
    · rw [decDigits_big h, numD_snoc, ih (n / 10) (by omega)]
      have e := dgt_toNat (n := n % 10) (by omega)
      simp only [Option.bind_some]
      rw [if_pos (by omega), e]
      congr 1
      omega
theorem numD_mem : ∀ (p : List UInt8) (acc n : Nat), numD acc p = some n → ∀ c ∈ p, 48 ≤ c.toNat ∧ c.toNat ≤ 57
  | [], _, _, _, c, hc => by cases hc
  | b :: p, acc, n, h, c, hc => by
    unfold numD at h
    split at h
    · rename_i hb
      rcases List.mem_cons.1 hc with rfl | hc
      · exact hb
      · exact numD_mem p _ n h c hc
    · cases h
theorem numD_parse (M : Nat) : ∀ (p : List UInt8) (acc n : Nat), numD acc p = some n → n ≤ 100000 → 100000 ≤ M → Lib.parseUintM M acc p = .ok n
  | [], acc, n, h, _, _ => by cases h; rfl
  | c :: p, acc, n, h, hn, hM => by
    unfold numD at h
    split at h
    · rename_i hc
      have hge := numD_ge p _ n h
      unfold Lib.parseUintM
      rw [if_pos hc, if_neg (by omega), if_neg (by omega)]
      exact numD_parse M p _ n h hn hM
    · cases h
theorem dec_good {n : Nat} (h : n ≤ 1024) : (∀ c ∈ Lib.decDigits n, 48 ≤ c.toNat) ∧ numS (Lib.decDigits n) = some n ∧ Lib.parseIntB 64 (Lib.decDigits n) = .ok (n : Int) := by
  have hd := numD_decs n
  have hm := numD_mem _ _ _ hd
  have hl := decDigits_ne n
  refine ⟨fun c hc => (hm c hc).1, ?_, ?_⟩
  · have hn : ¬ ((Lib.decDigits n).head? = some 48 ∧ 1 < (Lib.decDigits n).length) := by
      rintro ⟨h1, h2⟩
      by_cases h0 : n < 10
      · rw [decDigits_small h0] at h2; simp at h2
      · exact decDigits_head n (by omega) h1
    unfold numS
    rw [if_pos ⟨⟨hl, decDigits_short 9 n (by decide) (by omega)⟩, hn⟩]
    exact hd
  · have hu : Lib.parseUintB 64 (Lib.decDigits n) = .ok n := by
      unfold Lib.parseUintB
      rw [if_neg (by intro e; rw [e] at hl; simp at hl)]
      exact numD_parse _ _ _ _ hd (by omega) (by decide)
    cases hp : Lib.decDigits n with
    | nil => rw [hp] at hl; simp at hl
    | cons c r =>
      rw [hp] at hm hu
      have hc := hm c (by simp)
      rw [Lib.parseIntB_plain 64 c r (by omega) (by omega), hu]
      show (if 2 ^ (64 - 1) ≤ n then Lib.NumEnd.range else Lib.NumEnd.ok (n : Int)) = _
      rw [if_neg (by omega)]
theorem hexC_ne10 (d : Nat) (h : d < 16) : hexC d ≠ 10 := by
  have : ∀ d : Fin 16, hexC d.val ≠ 10 := by decide
  exact this ⟨d, h⟩
theorem hexL_ne10 : ∀ (k n : Nat), (10 : UInt8) ∉ hexL k n
  | 0, _ => by simp [hexL]
  | k + 1, n => by
    unfold hexL
    intro h
    rcases List.mem_append.1 h with h | h
    · exact hexL_ne10 k _ h
    · exact hexC_ne10 _ (Nat.mod_lt _ (by decide)) (List.mem_singleton.1 h).symm
theorem join_mem (c : UInt8) (sep : List UInt8) (hs : c ∉ sep) : ∀ ps : List (List UInt8), (∀ p ∈ ps, c ∉ p) → c ∉ Lib.join ps sep
  | [], _ => by rw [Lib.join_nil]; simp
  | p :: ps, h => by
    rw [Lib.join_cons]
    have : ∀ qs : List (List UInt8), (∀ p ∈ qs, c ∉ p) → c ∉ Lib.joinTail sep qs := by
      intro qs
      induction qs with
      | nil => intro _; simp [Lib.joinTail]
      | cons q qs ih =>
        intro hq hc
        have e : Lib.joinTail sep (q :: qs) = sep ++ (q ++ Lib.joinTail sep qs) := by simp [Lib.joinTail]
        rw [e] at hc
        rcases List.mem_append.1 hc with hc | hc
        · exact hs hc
        rcases List.mem_append.1 hc with hc | hc
        · exact hq q (by simp) hc
        · exact ih (fun p hp => hq p (by simp [hp])) hc
    intro hc
    rcases List.mem_append.1 hc with hc | hc
    · exact h p (by simp) hc
    · exact this ps (fun p hp => h p (by simp [hp])) hc
theorem rdAll_texts : ∀ (ps : List (List UInt8)) (xs : List Nat), rdAll ps = some xs → ps = xs.map hexT8
  | [], xs, h => by cases h; rfl
  | p :: ps, xs, h => by
    unfold rdAll at h
    cases hp : rd p with
    | none => rw [hp] at h; cases h
    | some n =>
      rw [hp] at h
      cases hl : rdAll ps with
      | none => rw [hl] at h; cases h
      | some ys =>
        rw [hl] at h
        cases h
        rw [List.map_cons, ← rdAll_texts ps ys hl, rd_text hp]
def strN : List UInt8 := [115, 116, 114, 105, 110, 103]
def strH (n a l : Nat) : List UInt8 := Lib.join [strN, hexT8 l, Lib.decDigits n, Lib.decDigits a] [32]
theorem strX_join (xs : List Nat) (n a : Nat) (F G : Fil) (l : Nat) : strX xs n a F G l = Lib.join [strH n a l, filTF F, filTF G, smT xs, []] [10] := by
  unfold strX strT10 strT6 strH
  simp [Lib.join_cons, Lib.joinTail, strW, strN]
/-- A text that the reader of strings takes: the samples, the place, the filters, the loss. -/
def RsOk (s : List UInt8) (xs : List Nat) (a : Nat) (F G : Fil) (l : Nat) : Prop :=
  ∃ l0 l1 l2 l3 q1 q2 q3, spl 10 s = [l0, l1, l2, l3, []] ∧ spl 32 l0 = [strN, q1, q2, q3] ∧ rd q1 = some l ∧ numS q2 = some xs.length ∧ numS q3 = some a ∧ rfP l1 = some F ∧ rfP l2 = some G ∧ rdAll (spl 32 l3) = some xs ∧ vsB xs.length a F G l = true
theorem RsOk.same {s : List UInt8} {xs ys : List Nat} {a b l m : Nat} {F G F' G' : Fil} (h : RsOk s xs a F G l) (k : RsOk s ys b F' G' m) : xs = ys ∧ a = b ∧ F = F' ∧ G = G' ∧ l = m := by
  obtain ⟨l0, l1, l2, l3, q1, q2, q3, h1, h2, h3, h4, h5, h6, h7, h8, h9⟩ := h
  obtain ⟨m0, m1, m2, m3, r1, r2, r3, k1, k2, k3, k4, k5, k6, k7, k8, k9⟩ := k
  rw [h1] at k1
  simp only [List.cons.injEq, and_true] at k1
  obtain ⟨rfl, rfl, rfl, rfl⟩ := k1
  rw [h2] at k2
  simp only [List.cons.injEq, and_true, true_and] at k2
  obtain ⟨rfl, rfl, rfl⟩ := k2
  rw [h3] at k3; rw [h5] at k5; rw [h6] at k6; rw [h7] at k7; rw [h8] at k8
  exact ⟨Option.some.inj k8, Option.some.inj k5, Option.some.inj k6, Option.some.inj k7, Option.some.inj k3⟩
theorem rfP_text {s : List UInt8} {F : Fil} (h : rfP s = some F) : filTF F = s ∧ okFil F = true := by
  obtain ⟨_, _, _, _, _, _, _, _, _, _, h4, h5⟩ := rfP_yes h
  exact ⟨h5, h4⟩
theorem RsOk.text {s : List UInt8} {xs : List Nat} {a : Nat} {F G : Fil} {l : Nat} (h : RsOk s xs a F G l) : strTV xs xs.length a F G l = s := by
  obtain ⟨l0, l1, l2, l3, q1, q2, q3, h1, h2, h3, h4, h5, h6, h7, h8, h9⟩ := h
  rw [strTV_yes h9]
  have ea : ((a : Int)).toNat = a := rfl
  rw [ea, strX_join]
  have e0 : strH xs.length a l = l0 := by
    unfold strH
    rw [← numS_dec h4, ← numS_dec h5, rd_text h3, ← h2]
    exact join_spl 32 l0
  have e3 : smT xs = l3 := by
    unfold smT
    rw [← rdAll_texts _ _ h8]
    exact join_spl 32 l3
  rw [e0, (rfP_text h6).1, (rfP_text h7).1, e3, ← h1]
  exact join_spl 10 s
theorem RsOk.place {s : List UInt8} {xs : List Nat} {a : Nat} {F G : Fil} {l : Nat} (h : RsOk s xs a F G l) : xs.length ≤ 1024 ∧ a ≤ 1024 := by
  obtain ⟨l0, l1, l2, l3, q1, q2, q3, h1, h2, h3, h4, h5, h6, h7, h8, h9⟩ := h
  obtain ⟨_, h, b, hb, e⟩ := vsB_ring h9
  exact ⟨h, by omega⟩
theorem filTF_ne10 {s : List UInt8} {F : Fil} (h : rfP s = some F) (hs : (10 : UInt8) ∉ s) : (10 : UInt8) ∉ filTF F := by
  rw [(rfP_text h).1]; exact hs
theorem spl_ne (c : UInt8) : ∀ (s : List UInt8), ∀ p ∈ spl c s, c ∉ p
  | [], p, h => by simp [spl] at h; subst h; simp
  | b :: s, p, h => by
    have ih := spl_ne c s
    unfold spl at h
    split at h
    · rcases List.mem_cons.1 h with rfl | h
      · simp
      · exact ih p h
    · rename_i hb
      have hb2 : ¬ c = b := fun e => hb e.symm
      split at h
      · simp at h; subst h; simpa using hb2
      · rename_i q qs heq
        rw [heq] at ih
        rcases List.mem_cons.1 h with rfl | h
        · have := ih q (by simp)
          simp [hb2, this]
        · exact ih p (by simp [h])
theorem smT_ne10 (xs : List Nat) : (10 : UInt8) ∉ smT xs := by
  unfold smT
  refine join_mem 10 [32] (by decide) _ (fun p hp => ?_)
  obtain ⟨x, _, rfl⟩ := List.mem_map.1 hp
  exact hexL_ne10 _ _
theorem digits_no {p : List UInt8} (h : ∀ c ∈ p, 48 ≤ c.toNat) (b : UInt8) (hb : b.toNat < 48) : b ∉ p := fun e => by have := h b e; omega
/-- What the program has read, and its text is the given one: the reader takes it. -/
theorem RsOk.of {s l0 l1 l2 l3 q0 q1 q2 q3 : List UInt8} {xs : List Nat} {v : Int} {F G : Fil} {l : Nat} (h1 : spl 10 s = [l0, l1, l2, l3, []]) (h2 : spl 32 l0 = [q0, q1, q2, q3]) (h3 : rd q1 = some l) (h6 : rfP l1 = some F) (h7 : rfP l2 = some G) (h8 : rdAll (spl 32 l3) = some xs)
    (ht : strTV xs xs.length v F G l = s) : ∃ a : Nat, v = a ∧ RsOk s xs a F G l := by
  cases hv : vsB xs.length v F G l
  · rw [strTV_no hv] at ht
    subst ht
    simp [spl] at h1
  · rw [strTV_yes hv] at ht
    obtain ⟨_, hn, a, ha, rfl⟩ := vsB_ring hv
    have ea : ((a : Int)).toNat = a := rfl
    rw [ea, strX_join] at ht
    have hmem := spl_ne 10 s
    rw [h1] at hmem
    have d1 := dec_good hn
    have d2 := dec_good ha
    have hsp := spl_join 10 (strH xs.length a l) [filTF F, filTF G, smT xs, []] (by
      unfold strH
      refine join_mem 10 [32] (by decide) _ (fun p hp => ?_)
      simp only [List.mem_cons, List.mem_nil_iff, or_false] at hp
      rcases hp with rfl | rfl | rfl | rfl
      · decide
      · exact hexL_ne10 _ _
      · exact digits_no d1.1 10 (by decide)
      · exact digits_no d2.1 10 (by decide)) (by
      intro p hp
      simp only [List.mem_cons, List.mem_nil_iff, or_false] at hp
      rcases hp with rfl | rfl | rfl | rfl
      · exact filTF_ne10 h6 (hmem l1 (by simp))
      · exact filTF_ne10 h7 (hmem l2 (by simp))
      · exact smT_ne10 xs
      · simp)
    rw [ht, h1] at hsp
    simp only [List.cons.injEq, and_true] at hsp
    obtain ⟨e0, _, _, _⟩ := hsp
    have hsq := spl_join 32 strN [hexT8 l, Lib.decDigits xs.length, Lib.decDigits a] (by decide) (by
      intro p hp
      simp only [List.mem_cons, List.mem_nil_iff, or_false] at hp
      rcases hp with rfl | rfl | rfl
      · exact hexL_ne _ _
      · exact digits_no d1.1 32 (by decide)
      · exact digits_no d2.1 32 (by decide))
    have e1 : Lib.join [strN, hexT8 l, Lib.decDigits xs.length, Lib.decDigits a] [32] = l0 := e0.symm
    rw [e1, h2] at hsq
    simp only [List.cons.injEq, and_true] at hsq
    obtain ⟨g0, g1, g2, g3⟩ := hsq
    subst g0; subst g2; subst g3
    exact ⟨a, rfl, l0, l1, l2, l3, q1, _, _, h1, h2, h3, d1.2.1, d2.2.1, h6, h7, h8, hv⟩
theorem RsOk.parts {s l0 l1 l2 l3 q0 q1 q2 q3 : List UInt8} {ys : List Nat} {b m : Nat} {F G : Fil} (h : RsOk s ys b F G m) (h4 : spl 10 s = [l0, l1, l2, l3, []]) (hq : spl 32 l0 = [q0, q1, q2, q3]) :
    q0 = strN ∧ rd q1 = some m ∧ numS q2 = some ys.length ∧ numS q3 = some b ∧ rfP l1 = some F ∧ rfP l2 = some G ∧ rdAll (spl 32 l3) = some ys ∧ vsB ys.length b F G m = true := by
  obtain ⟨m0, m1, m2, m3, r1, r2, r3, k1, k2, k3, k4, k5, k6, k7, k8, k9⟩ := h
  rw [h4] at k1
  simp only [List.cons.injEq, and_true] at k1
  obtain ⟨rfl, rfl, rfl, rfl⟩ := k1
  rw [hq] at k2
  simp only [List.cons.injEq, and_true] at k2
  obtain ⟨rfl, rfl, rfl, rfl⟩ := k2
  exact ⟨rfl, k3, k4, k5, k6, k7, k8, k9⟩
theorem RsOk.num {s l0 l1 l2 l3 q0 q1 q2 q3 : List UInt8} {ys : List Nat} {b m : Nat} {F G : Fil} (h : RsOk s ys b F G m) (h4 : spl 10 s = [l0, l1, l2, l3, []]) (hq : spl 32 l0 = [q0, q1, q2, q3]) :
    b ≤ 1024 ∧ q3 = Lib.decDigits b ∧ Lib.parseIntB 64 q3 = .ok (b : Int) := by
  have hb := h.place.2
  have e := numS_dec (h.parts h4 hq).2.2.2.1
  exact ⟨hb, e, by rw [e]; exact (dec_good hb).2.2⟩
theorem RsOk.lines {s l0 l1 l2 l3 : List UInt8} {ys : List Nat} {b m : Nat} {F G : Fil} (h : RsOk s ys b F G m) (h4 : spl 10 s = [l0, l1, l2, l3, []]) : ∃ q1 q2 q3, spl 32 l0 = [strN, q1, q2, q3] := by
  obtain ⟨m0, m1, m2, m3, r1, r2, r3, k1, k2, _⟩ := h
  rw [h4] at k1
  simp only [List.cons.injEq, and_true] at k1
  obtain ⟨rfl, rfl, rfl, rfl⟩ := k1
  exact ⟨r1, r2, r3, k2⟩
theorem rfP_fb {s : List UInt8} {F : Fil} (h : rfP s = some F) : FbF F := by
  obtain ⟨_, _, _, _, _, _, _, _, _, h4, _⟩ := rfP_yes h
  have hlt := rdAll_lt h4
  exact ⟨hlt _ (by simp), hlt _ (by simp), hlt _ (by simp), hlt _ (by simp), hlt _ (by simp)⟩
theorem line_len {s l0 l1 l2 l3 : List UInt8} (h4 : spl 10 s = [l0, l1, l2, l3, []]) : l0.length + (l1.length + (l2.length + (l3.length + 4))) = s.length := by
  have h := join_spl 10 s
  rw [h4] at h
  have e : Lib.join [l0, l1, l2, l3, []] [10] = l0 ++ (10 :: (l1 ++ (10 :: (l2 ++ (10 :: (l3 ++ [10])))))) := by simp [Lib.join_cons, Lib.joinTail]
  rw [← h, e]
  simp only [List.length_append, List.length_cons, List.length_nil]
  omega
/-- What both readers hand back: the string (or a zero string), the code. -/
def RsRel (s : List UInt8) (n : Nat) (xs : List Nat) (a : Nat) (F G : Fil) (l : Nat) (q : Int) : Prop :=
  xs.length = n ∧ ((q = 0 ∧ RsOk s xs a F G l) ∨ (q = 5 ∧ xs = [] ∧ a = 0 ∧ F = filZ ∧ G = filZ ∧ l = 0 ∧ ∀ ys b F' G' m, ¬ RsOk s ys b F' G' m))
theorem RsRel.same {s : List UInt8} {n m : Nat} {xs ys : List Nat} {a b l k : Nat} {F G F' G' : Fil} {q r : Int} (h : RsRel s n xs a F G l q) (g : RsRel s m ys b F' G' k r) : n = m ∧ xs = ys ∧ a = b ∧ F = F' ∧ G = G' ∧ l = k ∧ q = r := by
  obtain ⟨hn, h⟩ := h
  obtain ⟨gn, g⟩ := g
  rcases h with ⟨rfl, h⟩ | ⟨rfl, rfl, rfl, rfl, rfl, rfl, h⟩
  · rcases g with ⟨rfl, g⟩ | ⟨_, _, _, _, _, _, g⟩
    · obtain ⟨rfl, rfl, rfl, rfl, rfl⟩ := h.same g
      exact ⟨by omega, rfl, rfl, rfl, rfl, rfl, rfl⟩
    · exact absurd h (g _ _ _ _ _)
  · rcases g with ⟨rfl, g⟩ | ⟨rfl, rfl, rfl, rfl, rfl, rfl, g⟩
    · exact absurd g (h _ _ _ _ _)
    · exact ⟨by simp at hn gn; omega, rfl, rfl, rfl, rfl, rfl, rfl⟩
theorem RsRel.le {s : List UInt8} {n : Nat} {xs : List Nat} {a l : Nat} {F G : Fil} {q : Int} (h : RsRel s n xs a F G l q) : (n : Int) ≤ 1024 := by
  obtain ⟨hn, h⟩ := h
  rcases h with ⟨_, h⟩ | ⟨_, rfl, _⟩
  · have := h.place.1; omega
  · simp at hn; omega
def RsPost (s : List UInt8) (w : World) (e : Ending) (w' : World) : Prop := ∃ A c n xs a F G l q, e = .returned (.tuple #[.agg (strC A n c (a : Nat) F G l).toArray, .int .i64 q]) ∧ Own w' w.heap.size A c xs 25 ∧ RsRel s n xs a F G l q ∧ Below w.heap.size w w'
def szer : List Value := strC none 0 0 0 filZ filZ 0
theorem rs_bad {s : List UInt8} {w w' : World} (h : ∀ ys b F G m, ¬ RsOk s ys b F G m) (hb : Below w.heap.size w w') : RsPost s w (.returned (.tuple #[.agg szer.toArray, .int .i64 5])) (w'.setRow w.heap.size szer.toArray) :=
  ⟨none, 0, 0, [], 0, filZ, filZ, 0, 5, rfl, ⟨by simp [maxLen], .inl ⟨rfl, rfl, rfl⟩⟩, ⟨rfl, .inr ⟨rfl, rfl, rfl, rfl, rfl, rfl, h⟩⟩, below_setRow hb (Nat.le_refl _) _⟩
theorem four_l {α : Type} {l : List α} (h : l.length = 4) : ∃ a b c d, l = [a, b, c, d] := by
  match l, h with
  | [a, b, c, d], _ => exact ⟨a, b, c, d, rfl⟩
end Go.Proofs.YtdhpaglcggeknaaGreatDoor
namespace Go.Proofs.YtdhpaglcggeknaaGreatDoor
open Go.RowKit Go.Fl
theorem c_splitL (s : List UInt8) (hs : s.length ≤ 1073741824) (w : World) (hM : Mx w) :
    Calls Tryz.prog 15 #[.string (bs s), .string ⟨#[10]⟩] w fun e w' => ∃ g, e = .returned (.slice (some ⟨g, 0, none⟩) (spl 10 s).length (spl 10 s).length) ∧ Prt w' g 0 (spl 10 s) ∧ Below w.heap.size w w' := by
  obtain ⟨m, hm⟩ := hM
  refine (Tryz.strings_Split (bs s) (bs [10]) m w (by rw [bs_size]; omega) hm (by rw [bs_size]; decide)).mono fun e w' ⟨he, hw⟩ => ?_
  rw [countB_spl] at he
  rw [splitB_spl] at hw
  subst hw
  refine ⟨w.heap.size, he, ⟨by simp, fun j p hp => ?_⟩, Go.Joins.below_alloc1 _ _⟩
  rw [Nat.zero_add]
  rw [Go.Joins.cell_of_block (heap_alloc_new w _)]
  simp [hp]
set_option maxHeartbeats 4000000 in
set_option maxRecDepth 100000 in
theorem c_l01SplitL (s : List UInt8) (hs : s.length ≤ 1048576) (w : World) :
    Calls Tryz.prog 9 #[.string (bs s), .int .u8 10] w fun e w' => ∃ g c, e = .returned (.slice (some ⟨g, 0, none⟩) (spl 10 s).length c) ∧ Prt w' g 0 (spl 10 s) ∧ Below w.heap.size w w' := by
  have hsz : (bs s).size = s.length := bs_size s
  obtain ⟨t, ht⟩ : ∃ t, t = bs s := ⟨_, rfl⟩
  have hget : ∀ k (h : k < t.size) (hj : k < s.length), t[k]'h = s[k]'hj := by
    subst ht
    intro k h hj
    show (bs s).data[k]'h = _
    simp [bs]
  have hext : ∀ a b, Value.string (t.extract a b) = txP ((s.drop a).take (b - a)) := by
    subst ht
    intro a b
    rw [Lib.extract_eq, bs_data]; rfl
  rw [← ht] at hsz ⊢
  have HX := Lib.hid hext; have HG := Lib.hid hget; have HL := Lib.hid hs; have HZ := Lib.hid hsz
  have hts : (t.size : Int) ≤ 1048576 := by omega
  clear ht hget hext hs hsz
  go_enter Tryz.func9, Tryz.ntmps9
  go_wp2
  go_loopw [5, 6, 7] (fun v f i wr => ∃ (k b : Nat) (D : List (List UInt8)) (W : Option Addr) (d : Nat), k ≤ t.size ∧ b ≤ k ∧ D.length ≤ k ∧ f = .int .i64 b ∧ i = .int .i64 k ∧ v = .slice W D.length d ∧ Hid ((10 : UInt8) ∉ (s.drop b).take (k - b) ∧ spl 10 s = D ++ spl 10 (s.drop b)) ∧ OwnR wr w.heap.size W d D.length (D.map txP) 9 1 ∧ Below w.heap.size w wr) (fun _ _ i _ => t.size - (intOf i).toNat)
  case atStart => exact ⟨0, 0, [], some ⟨w.heap.size, 0, none⟩, 0, by omega, by omega, by simp, rfl, rfl, rfl, ⟨by simp, by simp⟩, OwnR.empty _ _ _, Go.Joins.below_alloc1 _ _⟩
  case round =>
    obtain ⟨k, b, D, W, d, hk, hbk, hD, rfl, rfl, rfl, HR, ho, hb⟩ := hrel
    have HO := Lib.hid ho; have HB := Lib.hid hb; clear ho hb
    have HSZ := Lib.hid HB.out.size
    have hk0 : (0 : Int) ≤ k := by omega
    have hb0 : (0 : Int) ≤ b := by omega
    have hbk2 : (b : Int) ≤ k := by omega
    by_cases hkn : k < t.size
    · have hc := HG.out k hkn (by have := HZ.out; omega)
      have hkn2 : (k : Int) < t.size := by omega
      have hdk : (s.drop b).take (k + 1 - b) = (s.drop b).take (k - b) ++ [s[k]'(by have := HZ.out; omega)] := by
        have h1 : k + 1 - b = (k - b) + 1 := by omega
        rw [h1, List.take_succ_eq_append_getElem (by rw [List.length_drop]; have := HZ.out; omega)]
        congr 2
        rw [List.getElem_drop]
        congr 1; omega
      have hdd : s.drop b = (s.drop b).take (k - b) ++ (s[k]'(by have := HZ.out; omega)) :: s.drop (k + 1) := by
        have h1 := (List.take_append_drop (k - b) (s.drop b)).symm
        rw [List.drop_drop, show b + (k - b) = k from by omega, List.drop_eq_getElem_cons (l := s) (i := k) (by have := HZ.out; omega)] at h1
        exact h1
      generalize s[k]'(by have := HZ.out; omega) = c at hc hdk hdd
      have hcz : (t[k]'hkn).toNat = c.toNat := by rw [hc]
      clear hc
      by_cases h32 : c = 10
      · subst h32
        have hcz2 : ((t[k]'hkn).toNat : Int) = 10 := by rw [hcz]; rfl
        have HR2 := Lib.hid (show (10 : UInt8) ∉ (s.drop (k + 1)).take (k + 1 - (k + 1)) ∧ spl 10 s = (D ++ [(s.drop b).take (k - b)]) ++ spl 10 (s.drop (k + 1)) from by
          refine ⟨by simp, ?_⟩
          rw [HR.out.2]
          conv => lhs; rw [hdd]
          rw [spl_hit 10 _ _ HR.out.1, List.append_assoc]; rfl)
        have HE := Lib.hid (HX.out b k)
        have HK1 : Hid (k ≤ 1048576) := Lib.hid (by omega)
        have HD1 := Lib.hid hD
        clear hdk hdd HR
        go_wp2_with (at_builtin; refine wpList_append_oneR rfl _ _ 37 rfl w.heap.size 9 (.string ⟨#[]⟩) 1 16 Tryz.underlying37 info_stre rfl (by decide) rfl HO.out [.string (t.extract b k)] rfl (by simp [Value.oneCell']) rfl (by have := HK1.out; have := HD1.out; omega) (by decide) HSZ.out ?_; intro A2 c2 w2 ho2 hg2 _; have HO2 := Lib.hid ho2; have HG2 := Lib.hid hg2; clear ho2 hg2)
        go_roundw
        case rel =>
          refine ⟨k + 1, k + 1, D ++ [(s.drop b).take (k - b)], A2, c2, by omega, by omega, by simp; omega, by go_num, by go_num, by simp, HR2.out, ?_, HB.out.grown HG2.out HSZ.out HO.out.ge⟩
          have := HO2.out
          rw [HE.out] at this
          simpa using this
        case measure => simp [intOf]; omega
      · have hne : (t[k]'hkn).toNat ≠ 10 := by
          rw [hcz]; intro e
          exact h32 (UInt8.toNat_inj.1 e)
        have hne2 : ¬ ((t[k]'hkn).toNat : Int) = 10 := by omega
        have HR2 := Lib.hid (show (10 : UInt8) ∉ (s.drop b).take (k + 1 - b) ∧ spl 10 s = D ++ spl 10 (s.drop b) from by
          refine ⟨?_, HR.out.2⟩
          rw [hdk]
          intro h
          rcases List.mem_append.1 h with h | h
          · exact HR.out.1 h
          · exact h32 (List.mem_singleton.1 h).symm)
        clear hdk hdd HR hcz h32
        go_wp2
        go_roundw
        case rel => exact ⟨k + 1, b, D, W, d, by omega, by omega, by omega, rfl, by go_num, rfl, HR2.out, HO.out, HB.out⟩
        case measure => simp [intOf]; omega
    · have hkk : k = t.size := by omega
      have HE := Lib.hid (HX.out b t.size)
      have HD1 := Lib.hid (show D.length ≤ 1048576 from by omega)
      have HS := Lib.hid (show spl 10 s = D ++ [(s.drop b).take (t.size - b)] from by
        have h1 := HR.out.1
        have h2 : (s.drop b).take (k - b) = s.drop b := List.take_of_length_le (by rw [List.length_drop]; have := HZ.out; omega)
        rw [h2] at h1
        rw [HR.out.2, spl_miss 10 _ h1, ← hkk, h2])
      have hb3 : (b : Int) ≤ t.size := by omega
      clear HR
      subst hkk
      go_wp2_with (at_builtin; refine wpList_append_oneR rfl _ _ 37 rfl w.heap.size 9 (.string ⟨#[]⟩) 1 16 Tryz.underlying37 info_stre rfl (by decide) rfl HO.out [.string (t.extract b t.size)] rfl (by simp [Value.oneCell']) rfl (by have := HD1.out; omega) (by decide) HSZ.out ?_; intro A2 c2 w2 ho2 hg2 _; have HO2 := Lib.hid ho2; have HG2 := Lib.hid hg2; clear ho2 hg2)
      go_ret
      have ho := HO2.out
      obtain ⟨g, rfl, hg1, hg2⟩ := ho.head (by omega)
      refine ⟨g, c2, ?_, ⟨hg2, fun j p hp => ?_⟩, HB.out.grown HG2.out HSZ.out HO.out.ge⟩
      · rw [HS.out]; simp
      · rw [Nat.zero_add]
        refine ho.cell j _ ?_
        rw [HE.out]
        rw [HS.out] at hp
        have : (D ++ [(s.drop b).take (t.size - b)]).map txP = D.map txP ++ [txP ((s.drop b).take (t.size - b))] := by simp
        rw [← this, List.getElem?_map, hp]; rfl
/-- The lines of a text of four. -/
def L4 (s : List UInt8) (l0 l1 l2 l3 : List UInt8) : Prop := spl 10 s = [l0, l1, l2, l3, []]
/-- What linesOf hands back. -/
def LnR (s : List UInt8) (w' : World) (e : Ending) : Prop := (∃ l0 l1 l2 l3 g, L4 s l0 l1 l2 l3 ∧ e = .returned (.tuple #[.slice (some ⟨g, 0, none⟩) 4 5, .bool true]) ∧ Prt w' g 0 [l0, l1, l2, l3]) ∨ ((∀ l0 l1 l2 l3, ¬ L4 s l0 l1 l2 l3) ∧ e = .returned (.tuple #[.slice none 0 0, .bool false]))
theorem five_l {α : Type} {l : List α} (h : l.length = 5) : ∃ a b c d e, l = [a, b, c, d, e] := by
  match l, h with
  | [a, b, c, d, e], _ => exact ⟨a, b, c, d, e, rfl⟩
set_option maxRecDepth 20000 in
theorem c_linesOf (s : List UInt8) (hs : s.length ≤ 1048576) (w : World) (hM : Mx w) :
    Calls Tryz.prog 14 #[.string (bs s), .int .i64 4] w fun e w' => LnR s w' e ∧ Below w.heap.size w w' := by
  have CS := Lib.hid (fun W (h : Mx W) => c_splitL s (by omega) W h)
  have HCN := Lib.hid (spl_count 10 s); have HSS := Lib.hid hs
  have HM := Lib.hid hM
  clear hs hM
  obtain ⟨t, ht⟩ : ∃ t, bs s = t := ⟨_, rfl⟩
  rw [ht] at CS ⊢
  clear ht
  by_cases h5 : (spl 10 s).length = 5
  · obtain ⟨l0, l1, l2, l3, l4, hps⟩ := five_l h5
    have HPS := Lib.hid hps
    rw [hps] at CS
    clear h5 hps HCN
    go_enter Tryz.func14, Tryz.ntmps14
    go_wp2_with fail
    refine (CS.out _ HM.out).mono ?_; rintro e w1 ⟨g, rfl, hp, b⟩
    have HB := Lib.hid b; have HP := Lib.hid hp
    have hc4 : w1.cell? ⟨g, 4, none⟩ = some (.string (bs l4)) := by have := HP.out.2 4 l4 rfl; rwa [Nat.zero_add] at this
    clear b hp
    have hl5 : ([l0, l1, l2, l3, l4] : List (List UInt8)).length = 5 := rfl
    rw [hl5]
    clear hl5
    by_cases h4 : l4 = []
    · subst h4
      have HQ : Hid (Prt w1 g 0 [l0, l1, l2, l3]) := Lib.hid ⟨HP.out.1, fun j p hj => HP.out.2 j p (by
        rw [show ([l0, l1, l2, l3, []] : List (List UInt8)) = [l0, l1, l2, l3] ++ [[]] from rfl, List.getElem?_append_left (by have := (List.getElem?_eq_some_iff.1 hj).1; simpa using this)]; exact hj)⟩
      have he : (bs []).toList.isEmpty = true := by rw [bs_toList]; rfl
      go_wp2_with fail
      go_ret2
      exact ⟨.inl ⟨l0, l1, l2, l3, g, HPS.out, rfl, HQ.out⟩, HB.out⟩
    · have HN : Hid (∀ a b c d, ¬ L4 s a b c d) := Lib.hid (by
        intro a b c d h
        have h2 := HPS.out.symm.trans h
        simp only [List.cons.injEq, and_true] at h2
        exact h4 h2.2.2.2.2)
      have hb1 : ((bs l4).toList == ([] : List UInt8)) = false := by rw [bs_toList]; exact beq_false_of_ne h4
      have he : (bs l4).toList.isEmpty = false := by
        rw [bs_toList]
        cases l4 with
        | nil => exact absurd rfl h4
        | cons b r => rfl
      have hb2 : ((bs l4).toList == (bs []).toList) = false := by rw [bs_beq, decide_eq_false h4]
      clear h4
      go_wp2_with fail
      go_ret2
      exact ⟨.inr ⟨HN.out, rfl⟩, HB.out⟩
  · have HN : Hid (∀ a b c d, ¬ L4 s a b c d) := Lib.hid (by
      intro a b c d h
      have h2 : (spl 10 s).length = 5 := by rw [show spl 10 s = _ from h]; rfl
      exact h5 h2)
    generalize spl 10 s = ps at *
    go_enter Tryz.func14, Tryz.ntmps14
    go_wp2_with fail
    refine (CS.out _ HM.out).mono ?_; rintro e w1 ⟨g, rfl, hp, b⟩
    have HB := Lib.hid b
    have hln : (ps.length : Int) ≤ 1048577 := by have := HCN.out; have := HSS.out; omega
    clear b hp
    go_wp2_with fail
    go_ret2
    exact ⟨.inr ⟨HN.out, rfl⟩, HB.out⟩
/-- What readDecimal hands back. -/
def DcR (p : List UInt8) (e : Ending) : Prop := ∃ (v : Int) (b : Bool), e = .returned (.tuple #[.int .i64 v, .bool b]) ∧ (b = true → Lib.parseIntB 64 p = .ok v) ∧ ∀ n : Nat, n ≤ 1024 → p = Lib.decDigits n → b = true
theorem c_decimalI (v : Int) (h0 : -9223372036854775808 ≤ v) (h1 : v ≤ 9223372036854775807) (w : World) (h : Pw w) :
    Calls Tryz.prog 35 #[.int .i64 v] w fun e w' => e = .returned (.string (bs (Lib.itoa v))) ∧ Below w.heap.size w w' := by
  have HC := Lib.hid (Tryz.strconv_FormatInt_10 v h0 h1 w h)
  clear h h0 h1
  go_enter Tryz.func35, Tryz.ntmps35
  go_wp2_with fail
  refine HC.out.mono ?_; rintro e w1 ⟨rfl, k, os, rfl⟩
  have HB := Lib.hid (Lib.below_grow w.heap.size w (Nat.le_refl _) k os)
  go_wp2_with fail
  go_ret
  exact ⟨rfl, HB.out⟩
theorem c_readDecimal (p : List UInt8) (hmax : p.length ≤ 1073741824) (w : World) (hE : Ev w) (hP : Pw w) :
    Calls Tryz.prog 17 #[.string (bs p)] w fun e w' => DcR p e ∧ Below w.heap.size w w' := by
  have CP := Lib.hid (fun W (h : Ev W) => c_parseInt p hmax W h)
  have HE := Lib.hid hE; have HP := Lib.hid hP
  clear hE hP hmax
  obtain ⟨t, ht⟩ : ∃ t, bs p = t := ⟨_, rfl⟩
  have HT := Lib.hid ht
  rw [ht] at CP ⊢
  clear ht
  go_enter Tryz.func17, Tryz.ntmps17
  go_wp2_with fail
  refine (CP.out _ HE.out).mono ?_; rintro e w1 ⟨hr, b⟩
  have HB := Lib.hid b; replace HP := Lib.hid (HP.out.on b); clear b
  rcases hr with ⟨v, hv, rfl⟩ | ⟨hv, v, N, rfl⟩
  · obtain ⟨v0, v1⟩ := Lib.parseIntB_bounds hv
    have HV := Lib.hid hv
    have CD := Lib.hid (fun W (h : Pw W) => c_decimalI v (by omega) (by omega) W h)
    clear hv v0 v1
    by_cases hq : Lib.itoa v = p
    · have hb1 : ((bs (Lib.itoa v)).toList == t.toList) = true := by rw [← HT.out, bs_beq, decide_eq_true hq]
      clear hq
      generalize bs (Lib.itoa v) = T at *
      go_wp2_with fail
      refine (CD.out _ HP.out).mono ?_; rintro e w2 ⟨rfl, b⟩
      replace HB := Lib.hid (seq_below HB.out b); clear b
      go_wp2_with fail
      go_ret2
      exact ⟨⟨v, true, rfl, fun _ => HV.out, fun _ _ _ => rfl⟩, HB.out⟩
    · have hb1 : ((bs (Lib.itoa v)).toList == t.toList) = false := by rw [← HT.out, bs_beq, decide_eq_false hq]
      have HN : Hid (∀ n : Nat, n ≤ 1024 → p = Lib.decDigits n → False) := Lib.hid (fun n hn e => by
        have h2 := (dec_good hn).2.2
        rw [← e, HV.out] at h2
        cases h2
        exact hq (by rw [Lib.itoa_nonneg]; exact e.symm))
      clear hq
      generalize bs (Lib.itoa v) = T at *
      go_wp2_with fail
      refine (CD.out _ HP.out).mono ?_; rintro e w2 ⟨rfl, b⟩
      replace HB := Lib.hid (seq_below HB.out b); clear b
      go_wp2_with fail
      go_ret2
      exact ⟨⟨v, false, rfl, (fun h => (by cases h)), fun n h1 h2 => (HN.out n h1 h2).elim⟩, HB.out⟩
  · have HN : Hid (∀ n : Nat, n ≤ 1024 → p = Lib.decDigits n → False) := Lib.hid (fun n hn e => hv _ (by rw [e]; exact (dec_good hn).2.2))
    clear hv
    go_wp2_with fail
    go_ret2
    exact ⟨⟨v, false, rfl, (fun h => (by cases h)), fun n h1 h2 => (HN.out n h1 h2).elim⟩, HB.out⟩
end Go.Proofs.YtdhpaglcggeknaaGreatDoor
namespace Go.Proofs.YtdhpaglcggeknaaGreatDoor
open Go.RowKit Go.Fl
theorem load_cellsG {P : Program} {ops : Array Oper} {rest : List Oper} {o : Oper} {a : Act} {w : World} {Q : Exit → Act → World → Prop} (hgd : Region.wanted o (yielded ops a.tmps) = true) (ty : TypeId) (x : Operand) (ho : o.op = .load ty x) (g : Nat) (hx : a.eval x = .pointer (some ⟨g, 0, none⟩)) {cells : Array Value} {t : TypeId} (hb : Row w g cells t) {d : TypeDesc}
    (hu : P.underlying ty = some d) (hd : (match d with | .struct _ | .array _ _ => true | _ => false) = true) (hi : (P.info? ty).map (·.size) = some cells.size) (h : wpList P ops Q rest (a.put o.dst (.agg cells)) w) : wpList P ops Q (o :: rest) a w :=
  wpList_step fun K hK => by
    rw [if_pos hgd]
    exact wp_load_row ty x ho g hx t cells (0, 0) _ hb hu hd hi (hK _ _ h)
theorem grow_row (w : World) (g : Nat) (cs : Array Value) : w.grownBy (w.setRow g cs) (some g) := ⟨rfl, rfl, rfl, by simp, fun k _ hn => setRow_other w g k cs (fun e => hn (by rw [e]))⟩
structure Stop (p : Prop) : Prop where
  out : p
/-- The walk stops ahead of a store. -/
theorem at_store {P : Program} {ops : Array Oper} {rest : List Oper} {o : Oper} {a : Act} {w : World} {Q : Exit → Act → World → Prop} (ty : TypeId) {x y : Operand} (_ : o.op = .store ty x y) (h : Stop (wpList P ops Q (o :: rest) a w)) : wpList P ops Q (o :: rest) a w := h.out
theorem unstop {p : Prop} (h : p) : Stop p := ⟨h⟩
theorem rd_all {p : List UInt8} {e : Ending} (h : RdR p e) : ∃ (l : Nat) (b : Bool), e = .returned (.tuple #[.float .f32 l, .bool b]) ∧ (b = true → rd p = some l) ∧ (b = false → rd p = none) := by
  rcases h with ⟨n, h1, h2⟩ | ⟨h1, v, h2⟩
  · exact ⟨n, true, h2, fun _ => h1, fun h => by cases h⟩
  · exact ⟨v, false, h2, fun h => (by cases h), fun _ => h1⟩
theorem rf_all {s : List UInt8} {e : Ending} (h : RfE s e) : ∃ (F : Fil) (k : Int), e = .returned (.tuple #[.agg F.cells.toArray, .int .i64 k]) ∧ ((k = 0 ∧ rfP s = some F) ∨ (k = 5 ∧ rfP s = none)) := by
  rcases h with ⟨F, h1, h2⟩ | ⟨h1, h2⟩
  · exact ⟨F, 0, h2, .inl ⟨rfl, h1⟩⟩
  · exact ⟨filZ, 5, h2, .inr ⟨rfl, h1⟩⟩
theorem rs_all {ps : List (List UInt8)} {w w' : World} {e : Ending} (h : RsR ps w w' e) : ∃ (xs : List Nat) (A : Option Addr) (n c : Nat) (b : Bool), e = .returned (.tuple #[.slice A n c, .bool b]) ∧ xs.length = n ∧ Own w' w.heap.size A c xs 25 ∧ (b = true → rdAll ps = some xs) ∧ (b = false → rdAll ps = none) := by
  rcases h with ⟨xs, A, c, h1, h2, h3⟩ | ⟨h1, h2⟩
  · exact ⟨xs, A, ps.length, c, true, h2, rdAll_length h1, h3, fun _ => h1, fun h => by cases h⟩
  · exact ⟨[], none, 0, 0, false, h2, rfl, ⟨by simp [maxLen], .inl ⟨rfl, rfl, rfl⟩⟩, fun h => (by cases h), fun _ => h1⟩
set_option maxRecDepth 20000 in
set_option maxHeartbeats 4000000 in
theorem c_iReadString (s : List UInt8) (hs : s.length ≤ 1048576) (w : World) (hT : Tz w) (hE : Ev w) (hM : Mx w) (hP : Pw w) :
    Calls Tryz.prog 5 #[.string (bs s)] w (RsPost s w) := by
  have q2 : Row (w.alloc (.cells szer.toArray 31)) w.heap.size szer.toArray 31 := Row.new _ _ _ _ rfl
  have hb0 := Go.Joins.below_alloc1 w (.cells szer.toArray 31)
  have HB := Lib.hid hb0
  have HQ := Lib.hid q2
  have CL := Lib.hid (fun W (h : Mx W) => c_linesOf s hs W h)
  have HT := Lib.hid hT; have HE := Lib.hid hE; have HM := Lib.hid hM; have HPW := Lib.hid hP
  have HSS := Lib.hid hs
  clear q2 hs hT hE hM hP hb0
  obtain ⟨t, ht⟩ : ∃ t, bs s = t := ⟨_, rfl⟩
  rw [ht] at CL ⊢
  have HTT := Lib.hid ht
  clear ht
  go_enter Tryz.func5, Tryz.ntmps5
  go_wp2_with fail
  refine (CL.out _ (HM.out.on HB.out)).mono ?_; rintro e w1 ⟨hr, b⟩
  replace HB := Lib.hid (seq_below HB.out b); replace HQ := Lib.hid (HQ.out.below b HQ.out.lt); clear b
  rcases hr with ⟨l0, l1, l2, l3, g, h4, rfl, hp⟩ | ⟨hn, rfl⟩
  case inr =>
    have HN : Hid (∀ ys b F G m, ¬ RsOk s ys b F G m) := Lib.hid (fun ys b F G m h => by obtain ⟨m0, m1, m2, m3, _, _, _, k1, _⟩ := h; exact hn _ _ _ _ k1)
    go_wp2_with (refine wpList_store_cells (cells := szer.toArray) rfl 31 _ _ rfl _ rfl rfl HQ.out info_str rfl rfl ?_)
    refine bodyPost_ret (results_cells_tmp rfl _ _ _ rfl rfl (HQ.out.row szer.toArray) Tryz.underlying31 rfl info_str) rfl ?_
    exact rs_bad HN.out HB.out
  have H4 := Lib.hid h4; have HP := Lib.hid hp; clear h4 hp
  have HLL := Lib.hid (line_len H4.out)
  have c0 : w1.cell? ⟨g, 0, none⟩ = some (.string (bs l0)) := by have := HP.out.2 0 l0 rfl; rwa [Nat.zero_add] at this
  have CS0 := Lib.hid (fun W (h : Mx W) => c_split l0 (by have := HLL.out; have := HSS.out; omega) W h)
  by_cases hl : (spl 32 l0).length = 4
  case neg =>
    have HN4 := Lib.hid (fun ys b F G m (h : RsOk s ys b F G m) => hl (by obtain ⟨q1, q2, q3, e⟩ := h.lines H4.out; rw [e]; rfl))
    have hln : ((spl 32 l0).length : Int) ≤ 1048577 := by have := spl_count 32 l0; have := HLL.out; have := HSS.out; omega
    generalize spl 32 l0 = ps at *
    go_wp2_with fail
    refine (CS0.out _ (HM.out.on HB.out)).mono ?_; rintro e w2 ⟨g2, rfl, hp2, b⟩
    replace HB := Lib.hid (seq_below HB.out b); replace HQ := Lib.hid (HQ.out.below b HQ.out.lt); replace HP := Lib.hid (HP.out.on b); clear b c0 hp2
    have HN : Hid (∀ ys b F G m, ¬ RsOk s ys b F G m) := Lib.hid (fun ys b F G m h => by exact HN4.out ys b F G m h)
    go_wp2_with (refine wpList_store_cells (cells := szer.toArray) rfl 31 _ _ rfl _ rfl rfl HQ.out info_str rfl rfl ?_)
    refine bodyPost_ret (results_cells_tmp rfl _ _ _ rfl rfl (HQ.out.row szer.toArray) Tryz.underlying31 rfl info_str) rfl ?_
    exact rs_bad HN.out HB.out
  obtain ⟨q0, q1, q2, q3, hq⟩ := four_l hl
  have HQS := Lib.hid hq
  have hle := spl_le 32 l0
  rw [hq] at CS0 hle
  have HLE := Lib.hid hle
  clear hl hq hle
  go_wp2_with fail
  refine (CS0.out _ (HM.out.on HB.out)).mono ?_; rintro e w2 ⟨g2, rfl, hp2, b⟩
  replace HB := Lib.hid (seq_below HB.out b); replace HQ := Lib.hid (HQ.out.below b HQ.out.lt); replace HP := Lib.hid (HP.out.on b); clear b c0
  have HP2 := Lib.hid hp2; clear hp2
  have hl4 : ([q0, q1, q2, q3] : List (List UInt8)).length = 4 := rfl
  rw [hl4]
  clear hl4
  have c1 : w2.cell? ⟨g2, 1, none⟩ = some (.string (bs q1)) := by have := HP2.out.2 1 q1 rfl; rwa [Nat.zero_add] at this
  have CB := Lib.hid (fun W (h1 : Tz W) (h2 : Ev W) => c_readBits q1 (by have := HLE.out q1 (by simp); have := HLL.out; have := HSS.out; omega) W h1 h2)
  have CD := Lib.hid (fun W (h1 : Ev W) (h2 : Pw W) => c_readDecimal q3 (by have := HLE.out q3 (by simp); have := HLL.out; have := HSS.out; omega) W h1 h2)
  have CF1 := Lib.hid (fun W (h1 : Tz W) (h2 : Ev W) (h3 : Mx W) => c_iReadFilter l1 (by have := HLL.out; have := HSS.out; omega) W h1 h2 h3)
  have CF2 := Lib.hid (fun W (h1 : Tz W) (h2 : Ev W) (h3 : Mx W) => c_iReadFilter l2 (by have := HLL.out; have := HSS.out; omega) W h1 h2 h3)
  have CS3 := Lib.hid (fun W (h : Mx W) => c_split l3 (by have := HLL.out; have := HSS.out; omega) W h)
  go_wp2_with fail
  refine (CB.out _ (HT.out.on HB.out) (HE.out.on HB.out)).mono ?_; rintro e w3 ⟨hr, b⟩
  obtain ⟨l, o1, rfl, hl1, hl2⟩ := rd_all hr
  have HL1 := Lib.hid hl1; have HL2 := Lib.hid hl2; clear hl1 hl2 hr c1
  replace HB := Lib.hid (seq_below HB.out b); replace HQ := Lib.hid (HQ.out.below b HQ.out.lt); replace HP := Lib.hid (HP.out.on b); replace HP2 := Lib.hid (HP2.out.on b); clear b
  have c1 : w3.cell? ⟨g2, 3, none⟩ = some (.string (bs q3)) := by have := HP2.out.2 3 q3 rfl; rwa [Nat.zero_add] at this
  go_wp2_with fail
  refine (CD.out _ (HE.out.on HB.out) (HPW.out.on HB.out)).mono ?_; rintro e w4 ⟨⟨v, o2, rfl, hv1, hv2⟩, b⟩
  have HV1 := Lib.hid hv1; have HV2 := Lib.hid hv2; clear hv1 hv2 c1
  replace HB := Lib.hid (seq_below HB.out b); replace HQ := Lib.hid (HQ.out.below b HQ.out.lt); replace HP := Lib.hid (HP.out.on b); replace HP2 := Lib.hid (HP2.out.on b); clear b
  clear HP2
  have c1 : w4.cell? ⟨g, 1, none⟩ = some (.string (bs l1)) := by have := HP.out.2 1 l1 rfl; rwa [Nat.zero_add] at this
  go_wp2_with fail
  refine (CF1.out _ (HT.out.on HB.out) (HE.out.on HB.out) (HM.out.on HB.out)).mono ?_; rintro e w5 ⟨hr, b⟩
  obtain ⟨F, k1, rfl, hf⟩ := rf_all hr
  have HF := Lib.hid hf; clear hf hr c1
  replace HB := Lib.hid (seq_below HB.out b); replace HQ := Lib.hid (HQ.out.below b HQ.out.lt); replace HP := Lib.hid (HP.out.on b); clear b
  go_wp2_with (refine wpList_store_newest (cells := F.cells.toArray) rfl 29 _ _ rfl rfl rfl info_filt rfl rfl (fun w6 b qF => ?_); replace HB := Lib.hid (seq_below HB.out b); replace HQ := Lib.hid (HQ.out.below b HQ.out.lt); replace HP := Lib.hid (HP.out.on b); have QF := Lib.hid qF; clear b qF; have c1 : w6.cell? ⟨g, 2, none⟩ = some (.string (bs l2)) := by have := HP.out.2 2 l2 rfl; rwa [Nat.zero_add] at this)
  refine (CF2.out _ (HT.out.on HB.out) (HE.out.on HB.out) (HM.out.on HB.out)).mono ?_; rintro e w7 ⟨hr, b⟩
  obtain ⟨G, k2, rfl, hf⟩ := rf_all hr
  have HG := Lib.hid hf; clear hf hr c1
  replace HB := Lib.hid (seq_below HB.out b); replace HQ := Lib.hid (HQ.out.below b HQ.out.lt); replace HP := Lib.hid (HP.out.on b); replace QF := Lib.hid (QF.out.below b QF.out.lt); clear b
  go_wp2_with (refine wpList_store_newest (cells := G.cells.toArray) rfl 29 _ _ rfl rfl rfl info_filt rfl rfl (fun w8 b qG => ?_); replace HB := Lib.hid (seq_below HB.out b); replace HQ := Lib.hid (HQ.out.below b HQ.out.lt); replace HP := Lib.hid (HP.out.on b); replace QF := Lib.hid (QF.out.below b QF.out.lt); have QG := Lib.hid qG; clear b qG; have c1 : w8.cell? ⟨g, 3, none⟩ = some (.string (bs l3)) := by have := HP.out.2 3 l3 rfl; rwa [Nat.zero_add] at this)
  refine (CS3.out _ (HM.out.on HB.out)).mono ?_; rintro e w9 ⟨g3, rfl, hp3, b⟩
  replace HB := Lib.hid (seq_below HB.out b); replace HQ := Lib.hid (HQ.out.below b HQ.out.lt); replace HP := Lib.hid (HP.out.on b); replace QF := Lib.hid (QF.out.below b QF.out.lt); replace QG := Lib.hid (QG.out.below b QG.out.lt); clear b c1
  clear HP
  have HP3 := Lib.hid hp3; clear hp3
  have hn3 := spl_count 32 l3; have hle3 := spl_le 32 l3
  have HN3 := Lib.hid (show (spl 32 l3).length ≤ 1048576 from by have := HLL.out; have := HSS.out; omega)
  have CR := Lib.hid (fun W (hp : Prt W g3 0 (spl 32 l3)) (h1 : Tz W) (h2 : Ev W) => c_readSamples g3 0 (spl 32 l3).length (spl 32 l3).length (spl 32 l3) W hp rfl (by have := HN3.out; omega) (fun q hq => Nat.le_trans (hle3 q hq) (by have := HLL.out; have := HSS.out; omega)) h1 h2)
  have hi3 : ((spl 32 l3).length : Int) ≤ 1048576 := by have := HN3.out; omega
  clear hn3 hle3
  obtain ⟨p3, hp3⟩ : ∃ p, p = spl 32 l3 := ⟨_, rfl⟩
  rw [← hp3] at CR HP3 HN3 hi3 ⊢
  have HPE := Lib.hid hp3; clear hp3
  generalize hn3 : p3.length = n3 at *
  have HL3 := Lib.hid hn3; clear hn3
  go_wp2_with fail
  refine (CR.out _ HP3.out (HT.out.on HB.out) (HE.out.on HB.out)).mono ?_; rintro e w10 ⟨hr, b⟩
  obtain ⟨xs, A, n, c, o5, rfl, hxn, ho, hx1, hx2⟩ := rs_all hr
  have HXN := Lib.hid hxn; have HX1 := Lib.hid hx1; have HX2 := Lib.hid hx2; have HOB : Hid (∀ k, ownBlk A = some k → w.heap.size < k) := Lib.hid (fun k hk => Nat.lt_of_lt_of_le HQ.out.lt (ho.ge k hk)); have HO0 := Lib.hid (ho.mono HB.out.size); clear hxn hx1 hx2 hr ho
  replace HB := Lib.hid (seq_below HB.out b); replace HQ := Lib.hid (HQ.out.below b HQ.out.lt); replace QF := Lib.hid (QF.out.below b QF.out.lt); replace QG := Lib.hid (QG.out.below b QG.out.lt); replace HP3 := Lib.hid (HP3.out.on b); clear b
  have HO : Hid (Own w10 w.heap.size A c xs 25) := HO0
  clear HO0 HP3
  obtain ⟨kF, a0, a1, a2, a3, a4⟩ := F
  obtain ⟨kG, b0, b1, b2, b3, b4⟩ := G
  replace QF : Hid (Row w10 w5.heap.size #[.int .i64 kF, .float .f32 a0, .float .f32 a1, .float .f32 a2, .float .f32 a3, .float .f32 a4] 29) := QF
  replace QG : Hid (Row w10 w7.heap.size #[.int .i64 kG, .float .f32 b0, .float .f32 b1, .float .f32 b2, .float .f32 b3, .float .f32 b4] 29) := QG
  go_wp2_with (first | (refine wpList_load_cells rfl 29 _ rfl _ rfl QF.out Tryz.underlying29 rfl info_filt ?_) | (refine wpList_load_cells rfl 29 _ rfl _ rfl QG.out Tryz.underlying29 rfl info_filt ?_) | (refine at_store 31 rfl ?_))
  refine unstop ?_
  refine wpList_store_newest (cells := #[.slice A n c, .int .i64 v, .int .i64 kF, .float .f32 a0, .float .f32 a1, .float .f32 a2, .float .f32 a3, .float .f32 a4, .int .i64 kG, .float .f32 b0, .float .f32 b1, .float .f32 b2, .float .f32 b3, .float .f32 b4, .float .f32 l]) rfl 31 _ _ rfl rfl rfl info_str rfl rfl (fun wx b q9 => ?_)
  replace HB := Lib.hid (seq_below HB.out b); replace HQ := Lib.hid (HQ.out.below b HQ.out.lt); replace HO := Lib.hid (HO.out.below b (Nat.le_refl _)); clear QF QG; have Q9 : Hid (Row wx w10.heap.size (strC A n c v ⟨kF, a0, a1, a2, a3, a4⟩ ⟨kG, b0, b1, b2, b3, b4⟩ l).toArray 31) := Lib.hid q9; clear b q9
  cases o1
  case false =>
    have HN : Hid (∀ ys b F G m, ¬ RsOk s ys b F G m) := Lib.hid (fun ys b F G m h => by have := (h.parts H4.out HQS.out).2.1; rw [HL2.out rfl] at this; cases this)
    go_wp2_with (refine wpList_store_cells (cells := szer.toArray) rfl 31 _ _ rfl _ rfl rfl HQ.out info_str rfl rfl ?_)
    refine bodyPost_ret (results_cells_tmp rfl _ _ _ rfl rfl (HQ.out.row szer.toArray) Tryz.underlying31 rfl info_str) rfl ?_
    exact rs_bad HN.out HB.out
  cases o2
  case false =>
    have HN : Hid (∀ ys b F G m, ¬ RsOk s ys b F G m) := Lib.hid (fun ys b F G m h => by obtain ⟨h1, h2, _⟩ := h.num H4.out HQS.out; have := HV2.out b h1 h2; cases this)
    go_wp2_with (refine wpList_store_cells (cells := szer.toArray) rfl 31 _ _ rfl _ rfl rfl HQ.out info_str rfl rfl ?_)
    refine bodyPost_ret (results_cells_tmp rfl _ _ _ rfl rfl (HQ.out.row szer.toArray) Tryz.underlying31 rfl info_str) rfl ?_
    exact rs_bad HN.out HB.out
  rcases HF.out with ⟨rfl, hfF⟩ | ⟨rfl, hfF⟩
  case inr =>
    have HN : Hid (∀ ys b F G m, ¬ RsOk s ys b F G m) := Lib.hid (fun ys b F G m h => by have := (h.parts H4.out HQS.out).2.2.2.2.1; rw [hfF] at this; cases this)
    go_wp2_with (refine wpList_store_cells (cells := szer.toArray) rfl 31 _ _ rfl _ rfl rfl HQ.out info_str rfl rfl ?_)
    refine bodyPost_ret (results_cells_tmp rfl _ _ _ rfl rfl (HQ.out.row szer.toArray) Tryz.underlying31 rfl info_str) rfl ?_
    exact rs_bad HN.out HB.out
  replace HF := Lib.hid hfF; clear hfF
  rcases HG.out with ⟨rfl, hfG⟩ | ⟨rfl, hfG⟩
  case inr =>
    have HN : Hid (∀ ys b F G m, ¬ RsOk s ys b F G m) := Lib.hid (fun ys b F G m h => by have := (h.parts H4.out HQS.out).2.2.2.2.2.1; rw [hfG] at this; cases this)
    go_wp2_with (refine wpList_store_cells (cells := szer.toArray) rfl 31 _ _ rfl _ rfl rfl HQ.out info_str rfl rfl ?_)
    refine bodyPost_ret (results_cells_tmp rfl _ _ _ rfl rfl (HQ.out.row szer.toArray) Tryz.underlying31 rfl info_str) rfl ?_
    exact rs_bad HN.out HB.out
  replace HG := Lib.hid hfG; clear hfG
  cases o5
  case false =>
    have HN : Hid (∀ ys b F G m, ¬ RsOk s ys b F G m) := Lib.hid (fun ys b F G m h => by have := (h.parts H4.out HQS.out).2.2.2.2.2.2.1; rw [← HPE.out, HX2.out rfl] at this; cases this)
    go_wp2_with (refine wpList_store_cells (cells := szer.toArray) rfl 31 _ _ rfl _ rfl rfl HQ.out info_str rfl rfl ?_)
    refine bodyPost_ret (results_cells_tmp rfl _ _ _ rfl rfl (HQ.out.row szer.toArray) Tryz.underlying31 rfl info_str) rfl ?_
    exact rs_bad HN.out HB.out
  have HR := Lib.hid (HX1.out rfl); have HL := Lib.hid (HL1.out rfl); have HV := Lib.hid (HV1.out rfl); clear HX1 HX2 HL1 HL2 HV1 HV2
  have hxn : n ≤ 1048576 := by have h1 := rdAll_length HR.out; have h2 := HXN.out; have h3 := HL3.out; have h4 := HN3.out; omega
  have hxb : ∀ k, k < n → nth xs k < 4294967296 := fun k hk => by
    have hk2 : k < xs.length := by have := HXN.out; omega
    have : nth xs k = xs[k] := by simp [nth, hk2]
    rw [this]; exact rdAll_lt HR.out _ (List.getElem_mem hk2)
  have CT := Lib.hid (fun W (hs : Sl W A xs) (h1 : Tz W) (h2 : Pw W) => c_iStringText A n c v ⟨kF, a0, a1, a2, a3, a4⟩ ⟨kG, b0, b1, b2, b3, b4⟩ l xs W hs HXN.out hxn hxb (rfP_fb HF.out) (rfP_fb HG.out) (rd_some HL.out).1 h1 h2)
  clear hxn hxb
  by_cases heq : strTV xs n v ⟨kF, a0, a1, a2, a3, a4⟩ ⟨kG, b0, b1, b2, b3, b4⟩ l = s
  case neg =>
    have HN : Hid (∀ ys b F G m, ¬ RsOk s ys b F G m) := Lib.hid (fun ys b F' G' m h => by
      have hp := h.parts H4.out HQS.out
      obtain ⟨_, _, hn⟩ := h.num H4.out HQS.out
      rw [← HPE.out] at hp
      obtain ⟨_, e1, _, _, e4, e5, e6, _⟩ := hp
      have e1 := Option.some.inj (e1.symm.trans HL.out)
      have e4 := Option.some.inj (e4.symm.trans HF.out)
      have e5 := Option.some.inj (e5.symm.trans HG.out)
      have e6 := Option.some.inj (e6.symm.trans HR.out)
      have e7 := hn.symm.trans HV.out
      cases e7
      subst e1; subst e4; subst e5; subst e6
      have ht := h.text
      rw [HXN.out] at ht
      exact heq ht)
    have hb1 : ((bs (strTV xs n v ⟨kF, a0, a1, a2, a3, a4⟩ ⟨kG, b0, b1, b2, b3, b4⟩ l)).toList == t.toList) = false := by rw [← HTT.out, bs_beq, decide_eq_false heq]
    have hb2 : ((bs (strTV xs n v ⟨kF, a0, a1, a2, a3, a4⟩ ⟨kG, b0, b1, b2, b3, b4⟩ l)).toList != t.toList) = true := by unfold bne; rw [hb1]; rfl
    clear heq
    generalize bs (strTV xs n v ⟨kF, a0, a1, a2, a3, a4⟩ ⟨kG, b0, b1, b2, b3, b4⟩ l) = T at *
    go_wp2_with (first | (refine wpList_load_cells rfl 31 _ rfl _ rfl Q9.out Tryz.underlying31 rfl info_str ?_) | (refine load_cellsG rfl 31 _ rfl _ rfl Q9.out Tryz.underlying31 rfl info_str ?_))
    refine (CT.out _ HO.out.sl (HT.out.on HB.out) (HPW.out.on HB.out)).mono ?_; rintro e w20 ⟨rfl, b⟩
    replace HB := Lib.hid (seq_below HB.out b); replace HQ := Lib.hid (HQ.out.below b HQ.out.lt); replace HO := Lib.hid (HO.out.below b (Nat.le_refl _)); replace Q9 := Lib.hid (Q9.out.below b Q9.out.lt); clear b
    go_wp2_with (refine wpList_store_cells (cells := szer.toArray) rfl 31 _ _ rfl _ rfl rfl HQ.out info_str rfl rfl ?_)
    refine bodyPost_ret (results_cells_tmp rfl _ _ _ rfl rfl (HQ.out.row szer.toArray) Tryz.underlying31 rfl info_str) rfl ?_
    exact rs_bad HN.out HB.out
  have hok : ∃ a : Nat, v = a ∧ RsOk s xs a ⟨kF, a0, a1, a2, a3, a4⟩ ⟨kG, b0, b1, b2, b3, b4⟩ l := RsOk.of H4.out HQS.out HL.out HF.out HG.out (by rw [← HPE.out]; exact HR.out) (by rw [HXN.out]; exact heq)
  obtain ⟨a, rfl, hok⟩ := hok
  have HOK := Lib.hid hok; clear hok
  have hb1 : ((bs (strTV xs n a ⟨kF, a0, a1, a2, a3, a4⟩ ⟨kG, b0, b1, b2, b3, b4⟩ l)).toList == t.toList) = true := by rw [← HTT.out, bs_beq, decide_eq_true heq]
  have hb2 : ((bs (strTV xs n a ⟨kF, a0, a1, a2, a3, a4⟩ ⟨kG, b0, b1, b2, b3, b4⟩ l)).toList != t.toList) = false := by unfold bne; rw [hb1]; rfl
  clear heq
  generalize bs (strTV xs n a ⟨kF, a0, a1, a2, a3, a4⟩ ⟨kG, b0, b1, b2, b3, b4⟩ l) = T at *
  go_wp2_with (first | (refine wpList_load_cells rfl 31 _ rfl _ rfl Q9.out Tryz.underlying31 rfl info_str ?_) | (refine load_cellsG rfl 31 _ rfl _ rfl Q9.out Tryz.underlying31 rfl info_str ?_))
  refine (CT.out _ HO.out.sl (HT.out.on HB.out) (HPW.out.on HB.out)).mono ?_; rintro e w20 ⟨rfl, b⟩
  replace HB := Lib.hid (seq_below HB.out b); replace HQ := Lib.hid (HQ.out.below b HQ.out.lt); replace HO := Lib.hid (HO.out.below b (Nat.le_refl _)); replace Q9 := Lib.hid (Q9.out.below b Q9.out.lt); clear b
  go_wp2_with (first
    | (refine wpList_load_cells rfl 31 _ rfl _ rfl Q9.out Tryz.underlying31 rfl info_str ?_)
    | (refine wpList_store_cells (cells := (strC A n c a ⟨kF, a0, a1, a2, a3, a4⟩ ⟨kG, b0, b1, b2, b3, b4⟩ l).toArray) rfl 31 _ _ rfl _ rfl rfl HQ.out info_str rfl rfl ?_))
  exact bodyPost_ret (results_cells_tmp rfl _ _ _ rfl rfl (HQ.out.row (strC A n c a ⟨kF, a0, a1, a2, a3, a4⟩ ⟨kG, b0, b1, b2, b3, b4⟩ l).toArray) Tryz.underlying31 rfl info_str) rfl ⟨A, c, n, xs, a, ⟨kF, a0, a1, a2, a3, a4⟩, ⟨kG, b0, b1, b2, b3, b4⟩, l, 0, rfl, HO.out.kept (row := some w.heap.size) (grow_row _ _ _) (fun k hk e => Nat.ne_of_gt (HOB.out k hk) (Option.some.inj e)), ⟨HXN.out, .inl ⟨rfl, HOK.out⟩⟩, below_setRow HB.out (Nat.le_refl _) _⟩
end Go.Proofs.YtdhpaglcggeknaaGreatDoor
namespace Go.Proofs.YtdhpaglcggeknaaGreatDoor
open Go.RowKit Go.Fl
theorem nu_all {p : List UInt8} {e : Ending} (h : NuR p e) : ∃ (n : Nat) (b : Bool), e = .returned (.tuple #[.int .i64 n, .bool b]) ∧ (b = true → numS p = some n) ∧ (b = false → numS p = none) := by
  rcases h with ⟨n, h1, h2⟩ | ⟨h1, h2⟩
  · exact ⟨n, true, h2, fun _ => h1, fun h => by cases h⟩
  · exact ⟨0, false, h2, fun h => (by cases h), fun _ => h1⟩
theorem rd_allS {p : List UInt8} {e : Ending} (h : RdR p e) : ∃ (l : Nat) (b : Bool), e = .returned (.tuple #[.float .f32 l, .bool b]) ∧ (b = true → rd p = some l) ∧ (b = false → rd p = none) := by
  rcases h with ⟨n, h1, h2⟩ | ⟨h1, v, h2⟩
  · exact ⟨n, true, h2, fun _ => h1, fun h => by cases h⟩
  · exact ⟨v, false, h2, fun h => (by cases h), fun _ => h1⟩
theorem rf_allS {s : List UInt8} {e : Ending} (h : RfE s e) : ∃ (F : Fil) (k : Int), e = .returned (.tuple #[.agg F.cells.toArray, .int .i64 k]) ∧ ((k = 0 ∧ rfP s = some F) ∨ (k = 5 ∧ rfP s = none)) := by
  rcases h with ⟨F, h1, h2⟩ | ⟨h1, h2⟩
  · exact ⟨F, 0, h2, .inl ⟨rfl, h1⟩⟩
  · exact ⟨filZ, 5, h2, .inr ⟨rfl, h1⟩⟩
theorem rdAll_nil : rdAll [] = some [] := rfl
set_option maxRecDepth 20000 in
set_option maxHeartbeats 8000000 in
theorem c_sReadString (s : List UInt8) (hs : s.length ≤ 1048576) (w : World) :
    Calls Tryz.prog 4 #[.string (bs s)] w (RsPost s w) := by
  have q2 : Row (w.alloc (.cells szer.toArray 31)) w.heap.size szer.toArray 31 := Row.new _ _ _ _ rfl
  have hb0 := Go.Joins.below_alloc1 w (.cells szer.toArray 31)
  have HB := Lib.hid hb0
  have HQ := Lib.hid q2
  have CS := Lib.hid (fun W => c_l01SplitL s hs W)
  have HSS := Lib.hid hs; have HCN := Lib.hid (spl_count 10 s)
  clear q2 hs hb0
  obtain ⟨t, ht⟩ : ∃ t, bs s = t := ⟨_, rfl⟩
  rw [ht] at CS ⊢
  clear ht
  by_cases h5 : (spl 10 s).length = 5
  case neg =>
    have HN5 := Lib.hid (fun ys b F G m (h : RsOk s ys b F G m) => h5 (by obtain ⟨m0, m1, m2, m3, _, _, _, k1, _⟩ := h; rw [k1]; rfl))
    generalize spl 10 s = ps at *
    go_enter Tryz.func4, Tryz.ntmps4
    go_wp2_with fail
    refine (CS.out _).mono ?_; rintro e w1 ⟨g, c, rfl, hp, b⟩
    replace HB := Lib.hid (seq_below HB.out b); replace HQ := Lib.hid (HQ.out.below b HQ.out.lt); clear b hp
    have hln : (ps.length : Int) ≤ 1048577 := by have := HCN.out; have := HSS.out; omega
    have HN : Hid (∀ ys b F G m, ¬ RsOk s ys b F G m) := Lib.hid (fun ys b F G m h => by exact HN5.out ys b F G m h)
    go_wp2_with (refine wpList_store_cells (cells := szer.toArray) rfl 31 _ _ rfl _ rfl rfl HQ.out info_str rfl rfl ?_)
    refine bodyPost_ret (results_cells_tmp rfl _ _ _ rfl rfl (HQ.out.row szer.toArray) Tryz.underlying31 rfl info_str) rfl ?_
    exact rs_bad HN.out HB.out
  obtain ⟨l0, l1, l2, l3, l4, hps⟩ := five_l h5
  have HPS := Lib.hid hps
  rw [hps] at CS
  clear h5 hps HCN
  go_enter Tryz.func4, Tryz.ntmps4
  go_wp2_with fail
  refine (CS.out _).mono ?_; rintro e w1 ⟨g, cg, rfl, hp, b⟩
  replace HB := Lib.hid (seq_below HB.out b); replace HQ := Lib.hid (HQ.out.below b HQ.out.lt); clear b
  have HP := Lib.hid hp; clear hp
  have hl5 : ([l0, l1, l2, l3, l4] : List (List UInt8)).length = 5 := rfl
  rw [hl5]
  clear hl5
  have c4 : w1.cell? ⟨g, 4, none⟩ = some (.string (bs l4)) := by have := HP.out.2 4 l4 rfl; rwa [Nat.zero_add] at this
  by_cases h4 : l4 = []
  case neg =>
    have HN4 := Lib.hid (fun ys b F G m (h : RsOk s ys b F G m) => h4 (by obtain ⟨m0, m1, m2, m3, _, _, _, k1, _⟩ := h; rw [HPS.out] at k1; simp only [List.cons.injEq, and_true] at k1; exact k1.2.2.2.2))
    have hb1 : ((bs l4).toList == ([] : List UInt8)) = false := by rw [bs_toList]; exact beq_false_of_ne h4
    have hb2 : ((bs l4).toList == (bs []).toList) = false := by rw [bs_beq, decide_eq_false h4]
    have he : (bs l4).toList.isEmpty = false := by
      rw [bs_toList]
      cases l4 with
      | nil => exact absurd rfl h4
      | cons b r => rfl
    clear h4
    have HN : Hid (∀ ys b F G m, ¬ RsOk s ys b F G m) := Lib.hid (fun ys b F G m h => by exact HN4.out ys b F G m h)
    go_wp2_with (refine wpList_store_cells (cells := szer.toArray) rfl 31 _ _ rfl _ rfl rfl HQ.out info_str rfl rfl ?_)
    refine bodyPost_ret (results_cells_tmp rfl _ _ _ rfl rfl (HQ.out.row szer.toArray) Tryz.underlying31 rfl info_str) rfl ?_
    exact rs_bad HN.out HB.out
  subst h4
  have he : (bs []).toList.isEmpty = true := by rw [bs_toList]; rfl
  have H4 : Hid (spl 10 s = [l0, l1, l2, l3, []]) := HPS
  have HLL := Lib.hid (line_len H4.out)
  have c0 : w1.cell? ⟨g, 0, none⟩ = some (.string (bs l0)) := by have := HP.out.2 0 l0 rfl; rwa [Nat.zero_add] at this
  have CS0 := Lib.hid (fun W => c_l01Split l0 (by have := HLL.out; have := HSS.out; omega) W)
  by_cases hl : (spl 32 l0).length = 4
  case neg =>
    have HN4 := Lib.hid (fun ys b F G m (h : RsOk s ys b F G m) => hl (by obtain ⟨q1, q2, q3, e⟩ := h.lines H4.out; rw [e]; rfl))
    have hln : ((spl 32 l0).length : Int) ≤ 1048577 := by have := spl_count 32 l0; have := HLL.out; have := HSS.out; omega
    generalize spl 32 l0 = ps at *
    go_wp2_with fail
    refine (CS0.out _).mono ?_; rintro e w2 ⟨g2, cg2, rfl, hp2, b⟩
    replace HB := Lib.hid (seq_below HB.out b); replace HQ := Lib.hid (HQ.out.below b HQ.out.lt); replace HP := Lib.hid (HP.out.on b); clear b c0 hp2
    have HN : Hid (∀ ys b F G m, ¬ RsOk s ys b F G m) := Lib.hid (fun ys b F G m h => by exact HN4.out ys b F G m h)
    go_wp2_with (refine wpList_store_cells (cells := szer.toArray) rfl 31 _ _ rfl _ rfl rfl HQ.out info_str rfl rfl ?_)
    refine bodyPost_ret (results_cells_tmp rfl _ _ _ rfl rfl (HQ.out.row szer.toArray) Tryz.underlying31 rfl info_str) rfl ?_
    exact rs_bad HN.out HB.out
  obtain ⟨q0, q1, q2, q3, hq⟩ := four_l hl
  have HQS := Lib.hid hq
  rw [hq] at CS0
  clear hl hq
  go_wp2_with fail
  refine (CS0.out _).mono ?_; rintro e w2 ⟨g2, cg2, rfl, hp2, b⟩
  replace HB := Lib.hid (seq_below HB.out b); replace HQ := Lib.hid (HQ.out.below b HQ.out.lt); replace HP := Lib.hid (HP.out.on b); clear b c0 c4
  have HP2 := Lib.hid hp2; clear hp2
  have hl4 : ([q0, q1, q2, q3] : List (List UInt8)).length = 4 := rfl
  rw [hl4]
  clear hl4
  have c0 : w2.cell? ⟨g2, 0, none⟩ = some (.string (bs q0)) := by have := HP2.out.2 0 q0 rfl; rwa [Nat.zero_add] at this
  by_cases h0 : q0 = strN
  case neg =>
    have HN0 := Lib.hid (fun ys b F G m (h : RsOk s ys b F G m) => h0 (h.parts H4.out HQS.out).1)
    have hb1 : ((bs q0).toList == ([115, 116, 114, 105, 110, 103] : List UInt8)) = false := by rw [bs_toList]; exact beq_false_of_ne h0
    have hb2 : ((bs q0).toList == (bs strN).toList) = false := by rw [bs_beq, decide_eq_false h0]
    clear h0
    have HN : Hid (∀ ys b F G m, ¬ RsOk s ys b F G m) := Lib.hid (fun ys b F G m h => by exact HN0.out ys b F G m h)
    go_wp2_with (refine wpList_store_cells (cells := szer.toArray) rfl 31 _ _ rfl _ rfl rfl HQ.out info_str rfl rfl ?_)
    refine bodyPost_ret (results_cells_tmp rfl _ _ _ rfl rfl (HQ.out.row szer.toArray) Tryz.underlying31 rfl info_str) rfl ?_
    exact rs_bad HN.out HB.out
  subst h0
  have hb1 : ((bs strN).toList == ([115, 116, 114, 105, 110, 103] : List UInt8)) = true := by rw [bs_toList]; rfl
  have hb2 : ((bs strN).toList == (bs strN).toList) = true := by rw [bs_beq]; simp
  have hflt : (⟨#[115, 116, 114, 105, 110, 103]⟩ : ByteArray) = bs strN := rfl
  have c1 : w2.cell? ⟨g2, 1, none⟩ = some (.string (bs q1)) := by have := HP2.out.2 1 q1 rfl; rwa [Nat.zero_add] at this
  have CB := Lib.hid (fun W => c_l01Read q1 W)
  have CN2 := Lib.hid (fun W => c_l01Number q2 W)
  have CN3 := Lib.hid (fun W => c_l01Number q3 W)
  have CF1 := Lib.hid (fun W => c_sReadFilter l1 (by have := HLL.out; have := HSS.out; omega) W)
  have CF2 := Lib.hid (fun W => c_sReadFilter l2 (by have := HLL.out; have := HSS.out; omega) W)
  have CS3 := Lib.hid (fun W => c_l01Split l3 (by have := HLL.out; have := HSS.out; omega) W)
  go_wp2_with fail
  refine (CB.out _).mono ?_; rintro e w3 ⟨hr, b⟩
  obtain ⟨l, o1, rfl, hl1, hl2⟩ := rd_allS hr
  have HL1 := Lib.hid hl1; have HL2 := Lib.hid hl2; clear hl1 hl2 hr c1 c0 hb1 hb2 hflt
  replace HB := Lib.hid (seq_below HB.out b); replace HQ := Lib.hid (HQ.out.below b HQ.out.lt); replace HP := Lib.hid (HP.out.on b); replace HP2 := Lib.hid (HP2.out.on b); clear b
  have c1 : w3.cell? ⟨g2, 2, none⟩ = some (.string (bs q2)) := by have := HP2.out.2 2 q2 rfl; rwa [Nat.zero_add] at this
  go_wp2_with fail
  refine (CN2.out _).mono ?_; rintro e w4 ⟨hr, b⟩
  obtain ⟨n, o2, rfl, hl1, hl2⟩ := nu_all hr
  have HM1 := Lib.hid hl1; have HM2 := Lib.hid hl2; clear hl1 hl2 hr c1
  replace HB := Lib.hid (seq_below HB.out b); replace HQ := Lib.hid (HQ.out.below b HQ.out.lt); replace HP := Lib.hid (HP.out.on b); replace HP2 := Lib.hid (HP2.out.on b); clear b
  have c1 : w4.cell? ⟨g2, 3, none⟩ = some (.string (bs q3)) := by have := HP2.out.2 3 q3 rfl; rwa [Nat.zero_add] at this
  go_wp2_with fail
  refine (CN3.out _).mono ?_; rintro e w5 ⟨hr, b⟩
  obtain ⟨a, o3, rfl, hl1, hl2⟩ := nu_all hr
  have HA1 := Lib.hid hl1; have HA2 := Lib.hid hl2; clear hl1 hl2 hr c1
  replace HB := Lib.hid (seq_below HB.out b); replace HQ := Lib.hid (HQ.out.below b HQ.out.lt); replace HP := Lib.hid (HP.out.on b); replace HP2 := Lib.hid (HP2.out.on b); clear b
  clear HP2
  have c1 : w5.cell? ⟨g, 1, none⟩ = some (.string (bs l1)) := by have := HP.out.2 1 l1 rfl; rwa [Nat.zero_add] at this
  go_wp2_with fail
  refine (CF1.out _).mono ?_; rintro e w6 ⟨hr, b⟩
  obtain ⟨F, k1, rfl, hf⟩ := rf_allS hr
  have HF := Lib.hid hf; clear hf hr c1
  replace HB := Lib.hid (seq_below HB.out b); replace HQ := Lib.hid (HQ.out.below b HQ.out.lt); replace HP := Lib.hid (HP.out.on b); clear b
  go_wp2_with (refine wpList_store_newest (cells := F.cells.toArray) rfl 29 _ _ rfl rfl rfl info_filt rfl rfl (fun w7 b qF => ?_); replace HB := Lib.hid (seq_below HB.out b); replace HQ := Lib.hid (HQ.out.below b HQ.out.lt); replace HP := Lib.hid (HP.out.on b); have QF := Lib.hid qF; clear b qF; have c1 : w7.cell? ⟨g, 2, none⟩ = some (.string (bs l2)) := by have := HP.out.2 2 l2 rfl; rwa [Nat.zero_add] at this)
  refine (CF2.out _).mono ?_; rintro e w8 ⟨hr, b⟩
  obtain ⟨G, k2, rfl, hf⟩ := rf_allS hr
  have HG := Lib.hid hf; clear hf hr c1
  replace HB := Lib.hid (seq_below HB.out b); replace HQ := Lib.hid (HQ.out.below b HQ.out.lt); replace HP := Lib.hid (HP.out.on b); replace QF := Lib.hid (QF.out.below b QF.out.lt); clear b
  go_wp2_with (refine wpList_store_newest (cells := G.cells.toArray) rfl 29 _ _ rfl rfl rfl info_filt rfl rfl (fun w9 b qG => ?_); replace HB := Lib.hid (seq_below HB.out b); replace HQ := Lib.hid (HQ.out.below b HQ.out.lt); replace HP := Lib.hid (HP.out.on b); replace QF := Lib.hid (QF.out.below b QF.out.lt); have QG := Lib.hid qG; clear b qG; have c1 : w9.cell? ⟨g, 3, none⟩ = some (.string (bs l3)) := by have := HP.out.2 3 l3 rfl; rwa [Nat.zero_add] at this)
  refine (CS3.out _).mono ?_; rintro e w10 ⟨g3, cg3, rfl, hp3, b⟩
  replace HB := Lib.hid (seq_below HB.out b); replace HQ := Lib.hid (HQ.out.below b HQ.out.lt); replace HP := Lib.hid (HP.out.on b); replace QF := Lib.hid (QF.out.below b QF.out.lt); replace QG := Lib.hid (QG.out.below b QG.out.lt); clear b c1
  clear HP
  have HP3 := Lib.hid hp3; clear hp3
  have HN3 := Lib.hid (show (spl 32 l3).length ≤ 1048576 from by have := spl_count 32 l3; have := HLL.out; have := HSS.out; omega)
  have hi3 : ((spl 32 l3).length : Int) ≤ 1048576 := by have := HN3.out; omega
  obtain ⟨p3, hp3⟩ : ∃ p, p = spl 32 l3 := ⟨_, rfl⟩
  rw [← hp3] at HP3 HN3 hi3 ⊢
  have HPE := Lib.hid hp3; clear hp3
  obtain ⟨n3, hn3⟩ : ∃ n, p3.length = n := ⟨_, rfl⟩
  rw [hn3] at HN3 hi3 ⊢
  have HL3 := Lib.hid hn3; clear hn3
  have hi0 : (0 : Int) ≤ n3 := by omega
  cases o1
  case false =>
    have HN : Hid (∀ ys b F G m, ¬ RsOk s ys b F G m) := Lib.hid (fun ys b F G m h => by have := (h.parts H4.out HQS.out).2.1; rw [HL2.out rfl] at this; cases this)
    go_wp2_with (refine wpList_store_cells (cells := szer.toArray) rfl 31 _ _ rfl _ rfl rfl HQ.out info_str rfl rfl ?_)
    refine bodyPost_ret (results_cells_tmp rfl _ _ _ rfl rfl (HQ.out.row szer.toArray) Tryz.underlying31 rfl info_str) rfl ?_
    exact rs_bad HN.out HB.out
  cases o2
  case false =>
    have HN : Hid (∀ ys b F G m, ¬ RsOk s ys b F G m) := Lib.hid (fun ys b F G m h => by have := (h.parts H4.out HQS.out).2.2.1; rw [HM2.out rfl] at this; cases this)
    go_wp2_with (refine wpList_store_cells (cells := szer.toArray) rfl 31 _ _ rfl _ rfl rfl HQ.out info_str rfl rfl ?_)
    refine bodyPost_ret (results_cells_tmp rfl _ _ _ rfl rfl (HQ.out.row szer.toArray) Tryz.underlying31 rfl info_str) rfl ?_
    exact rs_bad HN.out HB.out
  cases o3
  case false =>
    have HN : Hid (∀ ys b F G m, ¬ RsOk s ys b F G m) := Lib.hid (fun ys b F G m h => by have := (h.parts H4.out HQS.out).2.2.2.1; rw [HA2.out rfl] at this; cases this)
    go_wp2_with (refine wpList_store_cells (cells := szer.toArray) rfl 31 _ _ rfl _ rfl rfl HQ.out info_str rfl rfl ?_)
    refine bodyPost_ret (results_cells_tmp rfl _ _ _ rfl rfl (HQ.out.row szer.toArray) Tryz.underlying31 rfl info_str) rfl ?_
    exact rs_bad HN.out HB.out
  rcases HF.out with ⟨rfl, hfF⟩ | ⟨rfl, hfF⟩
  case inr =>
    have HN : Hid (∀ ys b F G m, ¬ RsOk s ys b F G m) := Lib.hid (fun ys b F G m h => by have := (h.parts H4.out HQS.out).2.2.2.2.1; rw [hfF] at this; cases this)
    go_wp2_with (refine wpList_store_cells (cells := szer.toArray) rfl 31 _ _ rfl _ rfl rfl HQ.out info_str rfl rfl ?_)
    refine bodyPost_ret (results_cells_tmp rfl _ _ _ rfl rfl (HQ.out.row szer.toArray) Tryz.underlying31 rfl info_str) rfl ?_
    exact rs_bad HN.out HB.out
  replace HF := Lib.hid hfF; clear hfF
  rcases HG.out with ⟨rfl, hfG⟩ | ⟨rfl, hfG⟩
  case inr =>
    have HN : Hid (∀ ys b F G m, ¬ RsOk s ys b F G m) := Lib.hid (fun ys b F G m h => by have := (h.parts H4.out HQS.out).2.2.2.2.2.1; rw [hfG] at this; cases this)
    go_wp2_with (refine wpList_store_cells (cells := szer.toArray) rfl 31 _ _ rfl _ rfl rfl HQ.out info_str rfl rfl ?_)
    refine bodyPost_ret (results_cells_tmp rfl _ _ _ rfl rfl (HQ.out.row szer.toArray) Tryz.underlying31 rfl info_str) rfl ?_
    exact rs_bad HN.out HB.out
  replace HG := Lib.hid hfG; clear hfG
  have HL := Lib.hid (HL1.out rfl); have HM := Lib.hid (HM1.out rfl); have HA := Lib.hid (HA1.out rfl); clear HL1 HL2 HM1 HM2 HA1 HA2
  by_cases hnn : n3 = n
  case neg =>
    have HNN := Lib.hid hnn
    have hb1 : ((n3 : Int) == (n : Int)) = false := beq_false_of_ne (by omega)
    have hb2 : ((n3 : Int) != (n : Int)) = true := by unfold bne; rw [hb1]; rfl
    clear hnn
    have HN : Hid (∀ ys b F G m, ¬ RsOk s ys b F G m) := Lib.hid (fun ys b F G m h => by have hp := h.parts H4.out HQS.out; have e1 := Option.some.inj (hp.2.2.1.symm.trans HM.out); have e2 := rdAll_length hp.2.2.2.2.2.2.1; rw [← HPE.out, HL3.out] at e2; exact HNN.out (by omega))
    go_wp2_with (refine wpList_store_cells (cells := szer.toArray) rfl 31 _ _ rfl _ rfl rfl HQ.out info_str rfl rfl ?_)
    refine bodyPost_ret (results_cells_tmp rfl _ _ _ rfl rfl (HQ.out.row szer.toArray) Tryz.underlying31 rfl info_str) rfl ?_
    exact rs_bad HN.out HB.out
  subst hnn
  have hb1 : ((n3 : Int) == (n3 : Int)) = true := by simp
  have hb2 : ((n3 : Int) != (n3 : Int)) = false := by simp
  obtain ⟨kF, a0, a1, a2, a3, a4⟩ := F
  obtain ⟨kG, b0, b1, b2, b3, b4⟩ := G
  replace QF : Hid (Row w10 w6.heap.size #[.int .i64 kF, .float .f32 a0, .float .f32 a1, .float .f32 a2, .float .f32 a3, .float .f32 a4] 29) := QF
  replace QG : Hid (Row w10 w8.heap.size #[.int .i64 kG, .float .f32 b0, .float .f32 b1, .float .f32 b2, .float .f32 b3, .float .f32 b4] 29) := QG
  go_wp2_with (first | (refine wpList_load_cells rfl 29 _ rfl _ rfl QF.out Tryz.underlying29 rfl info_filt ?_) | (refine wpList_load_cells rfl 29 _ rfl _ rfl QG.out Tryz.underlying29 rfl info_filt ?_) | (refine at_store 31 rfl ?_))
  refine unstop ?_
  refine wpList_store_newest (cells := #[.slice none 0 0, .int .i64 (a : Int), .int .i64 kF, .float .f32 a0, .float .f32 a1, .float .f32 a2, .float .f32 a3, .float .f32 a4, .int .i64 kG, .float .f32 b0, .float .f32 b1, .float .f32 b2, .float .f32 b3, .float .f32 b4, .float .f32 l]) rfl 31 _ _ rfl rfl rfl info_str rfl rfl (fun wx z2 q9 => ?_)
  have HLT := Lib.hid HQ.out.lt; have HGP := Lib.hid HP3.out.1
  replace HB := Lib.hid (seq_below HB.out z2); replace HQ := Lib.hid (HQ.out.below z2 HQ.out.lt); replace HP3 := Lib.hid (HP3.out.on z2)
  have HX : Hid (Row wx w10.heap.size (strC none 0 0 (a : Int) ⟨kF, a0, a1, a2, a3, a4⟩ ⟨kG, b0, b1, b2, b3, b4⟩ l).toArray 31) := Lib.hid q9
  clear z2 q9 QF QG
  obtain ⟨GX, hG⟩ : ∃ G, G = w10.heap.size := ⟨_, rfl⟩
  rw [← hG] at HX ⊢
  have HG2 := Lib.hid (show w.heap.size < GX from by rw [hG]; exact HLT.out)
  have HGG := Lib.hid (show g3 < GX from by rw [hG]; exact HGP.out)
  clear hG HLT HGP
  go_wp2_with fail
  go_loopw [18] (fun i wr => ∃ (k : Nat) (xs : List Nat) (A : Option Addr) (d : Nat), k ≤ n3 ∧ i = .int .i64 k ∧ Hid (rdAll (p3.take k) = some xs) ∧ Hid (xs.length = k) ∧ Hid (Own wr (GX + 1) A d xs 25) ∧ Hid (Row wr GX (strC A k d (a : Int) ⟨kF, a0, a1, a2, a3, a4⟩ ⟨kG, b0, b1, b2, b3, b4⟩ l).toArray 31) ∧ Hid (Row wr w.heap.size szer.toArray 31) ∧ Hid (Prt wr g3 0 p3) ∧ Hid (Below w.heap.size w wr)) (fun i _ => n3 - (intOf i).toNat)
  case atStart => exact ⟨0, [], none, 0, by omega, rfl, rfl, rfl, ⟨by simp [maxLen], .inl ⟨rfl, rfl, rfl⟩⟩, HX, HQ, HP3, HB⟩
  case round =>
    clear HX HQ HP3 HB
    obtain ⟨k, xs, A, d, hk, rfl, HR, HXL, HO, HX, HQ, HP, HB⟩ := hrel
    have hk0 : (0 : Int) ≤ k := by omega
    by_cases hlt : k < n3
    case pos =>
      have hkp : k < p3.length := by rw [HL3.out]; exact hlt
      have hc : wr.cell? ⟨g3, k, none⟩ = some (.string (bs p3[k])) := by have := HP.out.2 k _ (List.getElem?_eq_getElem hkp); rwa [Nat.zero_add] at this
      have CR := Lib.hid (fun W => c_l01Read p3[k] W)
      have HST := Lib.hid (fun m (hm : rd p3[k] = some m) => rdAll_take hkp HR.out hm)
      have HBD := Lib.hid (fun (h : rd p3[k] = none) => rdAll_bad h p3 (List.getElem_mem hkp))
      generalize p3[k] = p at *
      have hi2 : (k : Int) < n3 := by omega
      go_wp2_with fail
      refine (CR.out _).mono ?_; rintro e w20 ⟨hr, b⟩
      replace HB := Lib.hid (seq_below HB.out b); replace HQ := Lib.hid (HQ.out.below b HQ.out.lt); replace HP := Lib.hid (HP.out.on b); replace HX := Lib.hid (HX.out.below b HX.out.lt); replace HO := Lib.hid (HO.out.below b (Nat.le_refl _)); clear b hc CR
      rcases hr with ⟨m, hm, rfl⟩ | ⟨hm, m, rfl⟩
      case inr =>
        have HBB := Lib.hid (HBD.out hm); clear hm
        have HN : Hid (∀ ys b F G m, ¬ RsOk s ys b F G m) := Lib.hid (fun ys b F G m h => by have := (h.parts H4.out HQS.out).2.2.2.2.2.2.1; rw [← HPE.out, HBB.out] at this; cases this)
        go_wp2_with (refine wpList_store_cells (cells := szer.toArray) rfl 31 _ _ rfl _ rfl rfl HQ.out info_str rfl rfl ?_)
        refine bodyPost_ret (results_cells_tmp rfl _ _ _ rfl rfl (HQ.out.row szer.toArray) Tryz.underlying31 rfl info_str) rfl ?_
        exact rs_bad HN.out HB.out
      have HM2 := Lib.hid (HST.out m hm); clear hm
      have c0 : w20.cell? ⟨GX, 0, none⟩ = some (.slice A k d) := HX.out.cell 0 _ rfl
      have HSZ : Hid (GX + 1 ≤ w20.heap.size) := Lib.hid HX.out.lt
      have HK8 : Hid (k ≤ 8388608) := Lib.hid (by omega)
      go_wp2_with (at_builtin; refine wpList_append_one rfl _ _ 22 rfl (GX + 1) 25 Tryz.underlying22 info_f32e2 HXL.out rfl HO.out rfl HK8.out HSZ.out ?_; intro A2 c2 w21 ho2' hg2' _; have HO2 := Lib.hid ho2'; have HG21 := Lib.hid hg2'; clear ho2' hg2' c0; replace HX := Lib.hid (HX.out.grown HG21.out (fun e => by have := HO.out.ge GX e.symm; omega)); replace HQ := Lib.hid (HQ.out.grown HG21.out (fun e => by have := HO.out.ge _ e.symm; have := HG2.out; omega)); have hg2b := below_grownBy HG21.out (B := GX) (Nat.le_of_succ_le HSZ.out) (fun k hk => by have := HO.out.ge k hk; omega); replace HP := Lib.hid (HP.out.below hg2b HGG.out); replace HB := Lib.hid (HB.out.trans (hg2b.mono (Nat.le_of_lt HG2.out))); clear hg2b; have c0 : w21.cell? ⟨GX, 0, none⟩ = some (.slice A k d) := HX.out.cell 0 _ rfl; have f0 := HX.out.free 0)
      go_roundw
      case rel =>
        refine ⟨k + 1, xs ++ [m], A2, c2, by omega, by go_num, HM2.out, by have := HXL.out; simp [Hid, this], ?_, ?_, ?_, ?_, ?_⟩
        · exact HO2.out.kept (row := some GX) (grownBy_setCell (grownBy_refl _ _) _ _) (fun k hk e => by have := HO2.out.ge k hk; cases e; omega)
        · exact HX.out.set 0 (.slice A2 (k + 1) c2)
        · exact HQ.out.other (Nat.ne_of_lt HG2.out) _
        · exact HP.out.below (below_setCell (Below.refl GX _) (Nat.le_refl _) _) HGG.out
        · exact below_setCell HB.out (Nat.le_of_lt HG2.out) _
      case measure => simp [intOf]; omega
    have e : k = n3 := by omega
    subst e
    replace HR : Hid (rdAll p3 = some xs) := Lib.hid (by
      have := HR.out
      rwa [List.take_of_length_le (by rw [HL3.out]; exact Nat.le_refl _)] at this)
    have cV := c_sL03Ok GX A k d (a : Int) ⟨kF, a0, a1, a2, a3, a4⟩ ⟨kG, b0, b1, b2, b3, b4⟩ l wr (by omega) HX.out
    cases hv : vsB k (a : Int) ⟨kF, a0, a1, a2, a3, a4⟩ ⟨kG, b0, b1, b2, b3, b4⟩ l
    case false =>
      have HV := Lib.hid hv
      rw [hv] at cV
      have CV := Lib.hid cV; clear cV hv
      go_wp2_with fail
      refine CV.out.mono ?_; rintro e w30 ⟨rfl, nq, hw9⟩
      replace HQ : Hid (Row w30 w.heap.size szer.toArray 31) := Lib.hid (by rw [hw9]; exact HQ.out)
      replace HB : Hid (Below w.heap.size w w30) := Lib.hid (by rw [hw9]; exact below_drewN HB.out _)
      clear hw9 CV
      have HN : Hid (∀ ys b F G m, ¬ RsOk s ys b F G m) := Lib.hid (fun ys b F G m h => by 
              have hp := h.parts H4.out HQS.out
              rw [← HPE.out] at hp
              obtain ⟨_, e1, _, e3, e4, e5, e6, e7⟩ := hp
              have e1 := Option.some.inj (e1.symm.trans HL.out)
              have e3 := Option.some.inj (e3.symm.trans HA.out)
              have e4 := Option.some.inj (e4.symm.trans HF.out)
              have e5 := Option.some.inj (e5.symm.trans HG.out)
              have e6 := Option.some.inj (e6.symm.trans HR.out)
              subst e1; subst e3; subst e4; subst e5; subst e6
              rw [HXL.out, HV.out] at e7; cases e7)
      go_wp2_with (refine wpList_store_cells (cells := szer.toArray) rfl 31 _ _ rfl _ rfl rfl HQ.out info_str rfl rfl ?_)
      refine bodyPost_ret (results_cells_tmp rfl _ _ _ rfl rfl (HQ.out.row szer.toArray) Tryz.underlying31 rfl info_str) rfl ?_
      exact rs_bad HN.out HB.out
    have HOK : Hid (RsOk s xs a ⟨kF, a0, a1, a2, a3, a4⟩ ⟨kG, b0, b1, b2, b3, b4⟩ l) := Lib.hid ⟨l0, l1, l2, l3, q1, q2, q3, H4.out, HQS.out, HL.out, by rw [HXL.out]; exact HM.out, HA.out, HF.out, HG.out, by rw [← HPE.out]; exact HR.out, by rw [HXL.out]; exact hv⟩
    rw [hv] at cV
    have CV := Lib.hid cV; clear cV hv
    go_wp2_with fail
    refine CV.out.mono ?_; rintro e w30 ⟨rfl, nq, hw9⟩
    replace HQ : Hid (Row w30 w.heap.size szer.toArray 31) := Lib.hid (by rw [hw9]; exact HQ.out)
    replace HX : Hid (Row w30 GX (strC A k d (a : Int) ⟨kF, a0, a1, a2, a3, a4⟩ ⟨kG, b0, b1, b2, b3, b4⟩ l).toArray 31) := Lib.hid (by rw [hw9]; exact HX.out)
    replace HO : Hid (Own w30 (GX + 1) A d xs 25) := Lib.hid (by rw [hw9]; exact HO.out)
    replace HB : Hid (Below w.heap.size w w30) := Lib.hid (by rw [hw9]; exact below_drewN HB.out _)
    clear hw9 CV
    go_wp2_with (first
      | (refine wpList_load_cells rfl 31 _ rfl _ rfl HX.out Tryz.underlying31 rfl info_str ?_)
      | (refine wpList_store_cells (cells := (strC A k d (a : Int) ⟨kF, a0, a1, a2, a3, a4⟩ ⟨kG, b0, b1, b2, b3, b4⟩ l).toArray) rfl 31 _ _ rfl _ rfl rfl HQ.out info_str rfl rfl ?_))
    exact bodyPost_ret (results_cells_tmp rfl _ _ _ rfl rfl (HQ.out.row (strC A k d (a : Int) ⟨kF, a0, a1, a2, a3, a4⟩ ⟨kG, b0, b1, b2, b3, b4⟩ l).toArray) Tryz.underlying31 rfl info_str) rfl ⟨A, d, k, xs, a, ⟨kF, a0, a1, a2, a3, a4⟩, ⟨kG, b0, b1, b2, b3, b4⟩, l, 0, rfl, (HO.out.kept (row := some w.heap.size) (grow_row _ _ _) (fun k hk e => by have := HO.out.ge k hk; have := HG2.out; cases e; omega)).mono (by have := HG2.out; omega), ⟨HXL.out, .inl ⟨rfl, HOK.out⟩⟩, below_setRow HB.out (Nat.le_refl _) _⟩
end Go.Proofs.YtdhpaglcggeknaaGreatDoor
