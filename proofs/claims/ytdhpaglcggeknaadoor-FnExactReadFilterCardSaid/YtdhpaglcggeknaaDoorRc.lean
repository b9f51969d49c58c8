/- The reference's reader of a sample. No condition. -/
import Derived.Test.YtdhpaglcggeknaaDoorRb
namespace Go.Proofs.YtdhpaglcggeknaaDoor
open Go.RowKit Go.Fl
theorem hexP_cons (acc : Nat) (c : UInt8) (r : List UInt8) : hexP acc (c :: r) = match hexV c with
    | none => none
    | some d => hexP (acc * 16 + d) r := rfl
theorem c_l01Read_long (s : List UInt8) (h8 : s.length ≠ 8) (w : World) :
    Calls Tryd.prog 48 #[.string (bs s)] w fun e w' => RdR s e ∧ Below w.heap.size w w' := by
  have hr : rd s = none := if_neg h8
  have hsz : (bs s).size ≠ 8 := by rw [bs_size]; exact h8
  have HR := Lib.hid hr
  clear hr h8
  obtain ⟨t, ht⟩ : ∃ t, t = bs s := ⟨_, rfl⟩
  rw [← ht] at hsz ⊢
  clear ht
  go_enter Tryd.func48, Tryd.ntmps48
  go_wp2
  go_ret2
  exact ⟨.inr ⟨HR.out, 0, rfl⟩, Below.refl _ _⟩
set_option maxHeartbeats 4000000 in
set_option maxRecDepth 100000 in
theorem c_l01Read8 (s : List UInt8) (h8 : s.length = 8) (w : World) :
    Calls Tryd.prog 48 #[.string (bs s)] w fun e w' => RdR s e ∧ Below w.heap.size w w' := by
  have hrd : rd s = match hexP 0 s with | some n => if bitsN n = n then some n else none | none => none := if_pos h8
  have HRD := Lib.hid hrd
  have hsz : (bs s).size = 8 := by rw [bs_size]; exact h8
  obtain ⟨t, ht⟩ : ∃ t, t = bs s := ⟨_, rfl⟩
  have hget : ∀ k (h : k < t.size) (hj : k < s.length), t[k]'h = s[k]'hj := by
    subst ht
    intro k h hj
    show (bs s).data[k]'h = _
    simp [bs]
  rw [← ht] at hsz ⊢
  clear ht hrd
  go_enter Tryd.func48, Tryd.ntmps48
  go_wp2
  go_loop [4, 5] (fun vn vi => ∃ (k acc : Nat) (a : Int), vn = .int .u32 a ∧ vi = .int .i64 k ∧ k ≤ 8 ∧ Hid (a = (acc : Int) ∧ acc < 16 ^ k ∧ hexP 0 s = hexP acc (s.drop k)))
    (fun _ vi => 8 - (intOf vi).toNat)
  case atStart => exact ⟨0, 0, 0, rfl, rfl, by omega, rfl, by decide, rfl⟩
  case round =>
    obtain ⟨k, acc, a, rfl, rfl, hk, hh⟩ := hrel
    obtain ⟨ha, hacc, hdec⟩ := hh.out
    clear hh
    have hk0 : (0 : Int) ≤ k := by omega
    by_cases hkn : k < 8
    · have h7 : acc < 268435456 := Nat.lt_of_lt_of_le hacc (by
        have : (16 : Nat) ^ k ≤ 16 ^ 7 := Nat.pow_le_pow_right (by decide) (by omega)
        exact this)
      have hacc0 : 0 ≤ a := by omega
      have hacc1 : a ≤ 268435455 := by omega
      have hdrop : s.drop k = s[k]'(by omega) :: s.drop (k + 1) := List.drop_eq_getElem_cons (by omega)
      have hkt : k < t.size := by omega
      have hc := hget k hkt (by omega)
      rw [hdrop, hexP_cons] at hdec
      generalize s[k]'(by omega) = c at hc hdec
      have hkn2 : (k : Int) < 8 := by omega
      have hp : hexV c = if 48 ≤ c.toNat ∧ c.toNat ≤ 57 then some (c.toNat - 48) else if 97 ≤ c.toNat ∧ c.toNat ≤ 102 then some (c.toNat - 87) else none := rfl
      have hz : c.toNat < 256 := c.toNat_lt
      have hstep : ∀ d, d < 16 → acc * 16 + d < 16 ^ (k + 1) := fun d hd => by rw [Nat.pow_succ]; omega
      generalize hexV c = p at *
      clear hget hdrop
      have hcz : (t[k]'hkt).toNat = c.toNat := by rw [hc]
      clear hc
      generalize c.toNat = z at *
      by_cases hdig : 48 ≤ z ∧ z ≤ 57
      · rw [if_pos hdig] at hp
        subst hp
        obtain ⟨hd0, hd1⟩ := hdig
        have i0 : (48 : Int) ≤ z := by omega
        have i1 : (z : Int) ≤ 57 := by omega
        have HR := Lib.hid (show a * 16 + ((z : Int) - 48) = ((acc * 16 + (z - 48) : Nat) : Int) ∧ acc * 16 + (z - 48) < 16 ^ (k + 1) ∧ hexP 0 s = hexP (acc * 16 + (z - 48)) (s.drop (k + 1)) from ⟨by omega, hstep _ (by omega), hdec⟩)
        clear hdec hz hacc ha hstep h7
        go_wp2
        refine ⟨⟨k + 1, acc * 16 + (z - 48), a * 16 + ((z : Int) - 48), (by first | rfl | (congr 1; omega)), (by first | rfl | (congr 1; omega)), by omega, HR⟩, by simp [intOf]; omega⟩
      · rw [if_neg hdig] at hp
        by_cases hlet : 97 ≤ z ∧ z ≤ 102
        · rw [if_pos hlet] at hp
          subst hp
          obtain ⟨hd0, hd1⟩ := hlet
          have i0 : (97 : Int) ≤ z := by omega
          have i1 : (z : Int) ≤ 102 := by omega
          have HR := Lib.hid (show a * 16 + ((z : Int) - 97) + 10 = ((acc * 16 + (z - 87) : Nat) : Int) ∧ acc * 16 + (z - 87) < 16 ^ (k + 1) ∧ hexP 0 s = hexP (acc * 16 + (z - 87)) (s.drop (k + 1)) from ⟨by omega, hstep _ (by omega), hdec⟩)
          clear hdec hz hacc ha hstep h7 hdig
          go_wp2
          refine ⟨⟨k + 1, acc * 16 + (z - 87), a * 16 + ((z : Int) - 97) + 10, (by first | rfl | (congr 1; omega)), (by first | rfl | (congr 1; omega)), by omega, HR⟩, by simp [intOf]; omega⟩
        · rw [if_neg hlet] at hp
          subst hp
          have HE : Hid (rd s = none) := Lib.hid (by rw [HRD.out, hdec])
          clear hdec hz hacc ha hstep h7
          go_wp2
          all_goals go_ret2
          all_goals exact ⟨.inr ⟨HE.out, 0, rfl⟩, Below.refl _ _⟩
    · have hkk : k = 8 := by omega
      subst hkk
      have HE : Hid (rd s = if bitsN acc = acc then some acc else none) := Lib.hid (by rw [HRD.out, hdec, List.drop_eq_nil_of_le (by omega)]; rfl)
      have h7 : acc < 4294967296 := hacc
      have hacc0 : (0 : Int) ≤ acc := by omega
      have hacc1 : (acc : Int) ≤ 4294967295 := by omega
      subst ha
      clear hdec hacc hget
      go_wp2_with (go_at_call 57; refine (c_l01Bits _ _).mono ?_; rintro e w1 ⟨rfl, hww⟩; obtain rfl := hww.symm)
      go_ret2
      refine ⟨?_, Below.refl _ _⟩
      have hE := HE.out
      by_cases e : bitsN acc = acc
      · rw [if_pos e] at hE
        refine .inl ⟨acc, hE, ?_⟩
        have e2 : ((bitsN acc : Int) == (acc : Int)) = true := by rw [e]; simp
        simp [e2]
      · rw [if_neg e] at hE
        refine .inr ⟨hE, acc, ?_⟩
        have e2 : ((bitsN acc : Int) == (acc : Int)) = false := beq_false_of_ne (by omega)
        simp [e2]
theorem c_l01Read (s : List UInt8) (w : World) :
    Calls Tryd.prog 48 #[.string (bs s)] w fun e w' => RdR s e ∧ Below w.heap.size w w' := by
  by_cases h : s.length = 8
  · exact c_l01Read8 s h w
  · exact c_l01Read_long s h w
end Go.Proofs.YtdhpaglcggeknaaDoor
