/- The library's reader of numbers of base 16 and of 32 bits (in the way of the shelf's text for base 10). No condition. -/
import Derived.Test.YtdhpaglcggeknaaDoorPe
import Derived.Lib.ConvBytes
import Derived.Lib.Strings
import Derived.Lib.SmallJoins
import Derived.Laws.Strings3
import Derived.Laws.Closers25
import Derived.Laws.Closers25b
namespace Go.Fl
open Go.RowKit
theorem bits_or32 (c : UInt8) : bits .or .u8 (c.toNat : Int) 32 = ((c ||| 32).toNat : Int) := by
  have key : ∀ d : Fin 256, bits .or .u8 (d.val : Int) 32 = ((UInt8.ofNat d.val ||| 32).toNat : Int) := of_decide_eq_true (by kernel_rfl)
  have := key ⟨c.toNat, c.toNat_lt⟩
  simpa using this
end Go.Fl
namespace Go.Proofs.YtdhpaglcggeknaaDoor
open Go.RowKit Go.Fl
theorem c_lower (c : UInt8) (w : World) : Calls Tryd.prog 113 #[.int .u8 (c.toNat : Int)] w fun e w' => e = .returned (.int .u8 ((c ||| 32).toNat : Int)) ∧ w' = w := by
  have HB := Lib.hid (bits_or32 c)
  go_enter Tryd.func113, Tryd.ntmps113
  go_wp2
  go_ret
  exact ⟨by rw [← HB.out]; rfl, rfl⟩
/-- What the reader of numbers hands back. -/
def PuR (s : List UInt8) (e : Ending) : Prop := (∃ n, s ≠ [] ∧ puL 0 s = some n ∧ e = .returned (.tuple #[.int .u64 (n : Nat), .nilIface])) ∨ ((s = [] ∨ puL 0 s = none) ∧ ∃ (v k : Int), (k = 1 ∨ k = 2) ∧ e = .returned (.tuple #[.int .u64 v, .iface 136 (.int .i64 k)]))
theorem puL_cons (acc : Nat) (c : UInt8) (r : List UInt8) : puL acc (c :: r) = match puV c with
    | none => none
    | some d => if acc * 16 + d < 4294967296 then puL (acc * 16 + d) r else none := rfl
set_option maxHeartbeats 32000000 in
set_option maxRecDepth 100000 in
theorem c_kParseUint (s : List UInt8) (hne : s ≠ []) (hmax : s.length ≤ 1073741824) (w : World) :
    Calls Tryd.prog 94 #[.string (bs s), .int .i64 16, .int .i64 32] w fun e w' => PuR s e ∧ Below w.heap.size w w' := by
  obtain ⟨t, ht⟩ : ∃ t, t = bs s := ⟨_, rfl⟩
  have hL : t.data.toList = s := by rw [ht]; simp [bs]
  have hsz : t.size = s.length := by rw [ht, bs_size]
  rw [← ht]
  have hemp : t.toList.isEmpty = false := by
    rw [← decide_eq_emptyBytes]
    exact decide_eq_false (fun h => hne (by rw [← hL, h]; rfl))
  have hcv := Lib.run_convert_string_bytes (P := Tryd.prog) w 9 97 5 t (u := .string) Tryd.underlying9 Tryd.underlying97 Tryd.underlying5
  have hB : ∀ j, j < t.size → (Lib.bytesWorld w 5 t).cell? ⟨w.heap.size, j, none⟩ = some (.int .u8 (t.data.toList.getD j 0).toNat) := fun j hj => Lib.bytesWorld_cell w 5 t j hj
  have HW := Lib.hid (Go.Joins.below_bytesWorld w.heap.size w 5 t (Nat.le_refl _))
  generalize Lib.bytesWorld w 5 t = W1 at *
  rw [hL] at hB
  have hmv : IntKind.u64.wrap (IntKind.u64.wrap 4294967296 - 1) = 4294967295 := by
    rw [IntKind.wrap_u64, IntKind.wrap_u64]
    decide
  have hts : t.size ≤ 1073741824 := by omega
  have HN := Lib.hid hne
  clear ht hL hne hmax
  go_enter Tryd.func94, Tryd.ntmps94
  go_wp2
  go_loop [12, 13, 101] (fun vu vn vi => ∃ (k acc : Nat) (a : Int), vu = .bool false ∧ vn = .int .u64 a ∧ vi = .int .i64 k ∧ k ≤ t.size ∧ Hid (a = (acc : Int) ∧ acc < 4294967296 ∧ puL 0 s = puL acc (s.drop k)))
    (fun _ _ vi => t.size - (intOf vi).toNat)
  case atStart => exact ⟨0, 0, 0, rfl, rfl, rfl, by omega, rfl, by decide, rfl⟩
  case round =>
    obtain ⟨k, acc, a, rfl, rfl, rfl, hk, hh⟩ := hrel
    obtain ⟨ha, hacc, hdec⟩ := hh.out
    clear hh
    have hk0 : (0 : Int) ≤ k := by omega
    have hacc0 : 0 ≤ a := by omega
    have hacc1 : a ≤ 4294967295 := by omega
    by_cases hkn : k < t.size
    · have hc := hB k hkn
      have hdrop : s.drop k = s[k]'(by omega) :: s.drop (k + 1) := List.drop_eq_getElem_cons (by omega)
      have hget : s.getD k 0 = s[k]'(by omega) := by simp [List.getD, List.getElem?_eq_getElem (show k < s.length by omega)]
      rw [hdrop, puL_cons] at hdec
      rw [hget] at hc
      generalize s[k]'(by omega) = c at hc hdec
      have hkn2 : (k : Int) < t.size := by omega
      have CL := Lib.hid (fun W => c_lower c W)
      have h95 : c.toNat = 95 → (c ||| 32).toNat = 127 := fun h => by
        have e : c = 95 := UInt8.toNat_inj.1 h
        subst e; rfl
      have hz : c.toNat < 256 := c.toNat_lt
      have hy : (c ||| 32).toNat < 256 := (c ||| 32).toNat_lt
      have hp : puV c = if 48 ≤ c.toNat ∧ c.toNat ≤ 57 then some (c.toNat - 48) else if 97 ≤ (c ||| 32).toNat ∧ (c ||| 32).toNat ≤ 122 then (if (c ||| 32).toNat - 87 < 16 then some ((c ||| 32).toNat - 87) else none) else none := rfl
      clear hB hdrop hget
      generalize (c ||| 32).toNat = y at *
      generalize puV c = p at *
      generalize c.toNat = z at *
      by_cases hdig : 48 ≤ z ∧ z ≤ 57
      · rw [if_pos hdig] at hp
        subst hp
        obtain ⟨hd0, hd1⟩ := hdig
        have i0 : (48 : Int) ≤ z := by omega
        have i1 : (z : Int) ≤ 57 := by omega
        have i2 : z ≠ 95 := by omega
        by_cases hov : acc * 16 + (z - 48) < 4294967296
        · have HR := Lib.hid (show a * 16 + ((z : Int) - 48) = ((acc * 16 + (z - 48) : Nat) : Int) ∧ acc * 16 + (z - 48) < 4294967296 ∧ puL 0 s = puL (acc * 16 + (z - 48)) (s.drop (k + 1)) from ⟨by omega, hov, hdec.trans (if_pos hov)⟩)
          have iov : a * 16 + ((z : Int) - 48) ≤ 4294967295 := by omega
          clear hdec hov CL hz hy hacc ha h95
          go_wp2
          refine ⟨⟨k + 1, acc * 16 + (z - 48), a * 16 + ((z : Int) - 48), rfl, (by first | rfl | (congr 1; omega)), (by first | rfl | (congr 1; omega)), by omega, HR⟩, by simp [intOf]; omega⟩
        · have HE := Lib.hid (hdec.trans (if_neg hov))
          have iov : 4294967295 < a * 16 + ((z : Int) - 48) := by omega
          clear hdec hov CL hz hy hacc ha h95
          go_wp2
          go_ret2
          exact ⟨.inr ⟨.inr HE.out, _, _, .inl rfl, rfl⟩, HW.out⟩
      · rw [if_neg hdig] at hp
        by_cases hlet : 97 ≤ y ∧ y ≤ 122
        · rw [if_pos hlet] at hp
          obtain ⟨hd0, hd1⟩ := hlet
          have i0 : (97 : Int) ≤ y := by omega
          have i2 : z ≠ 95 := by omega
          have i1 : (y : Int) ≤ 122 := by omega
          by_cases h16 : y - 87 < 16
          · rw [if_pos h16] at hp
            subst hp
            have i3 : (y : Int) ≤ 102 := by omega
            by_cases hov : acc * 16 + (y - 87) < 4294967296
            · have HR := Lib.hid (show a * 16 + ((y : Int) - 87) = ((acc * 16 + (y - 87) : Nat) : Int) ∧ acc * 16 + (y - 87) < 4294967296 ∧ puL 0 s = puL (acc * 16 + (y - 87)) (s.drop (k + 1)) from ⟨by omega, hov, hdec.trans (if_pos hov)⟩)
              have iov : a * 16 + ((y : Int) - 97 + 10) ≤ 4294967295 := by omega
              clear hdec hov hz hy hacc ha h95
              go_wp2_with (go_at_call 113; refine (CL.out _).mono ?_; rintro e w' ⟨rfl, rfl⟩)
              all_goals refine ⟨⟨k + 1, acc * 16 + (y - 87), a * 16 + ((y : Int) - 87), rfl, (by first | rfl | (congr 1; omega)), (by first | rfl | (congr 1; omega)), by omega, HR⟩, by simp [intOf]; omega⟩
            · have HE := Lib.hid (hdec.trans (if_neg hov))
              have iov : 4294967295 < a * 16 + ((y : Int) - 97 + 10) := by omega
              clear hdec hov hz hy hacc ha h95
              go_wp2_with (go_at_call 113; refine (CL.out _).mono ?_; rintro e w' ⟨rfl, rfl⟩)
              all_goals go_ret2
              all_goals exact ⟨.inr ⟨.inr HE.out, _, _, .inl rfl, rfl⟩, HW.out⟩
          · rw [if_neg h16] at hp
            subst hp
            have HE := Lib.hid hdec
            have i3 : (103 : Int) ≤ y := by omega
            clear hdec hz hy hacc ha h95
            go_wp2_with (go_at_call 113; refine (CL.out _).mono ?_; rintro e w' ⟨rfl, rfl⟩)
            all_goals go_ret2
            all_goals exact ⟨.inr ⟨.inr HE.out, _, _, .inr rfl, rfl⟩, HW.out⟩
        · rw [if_neg hlet] at hp
          subst hp
          have HE := Lib.hid hdec
          by_cases i2 : z = 95
          · have C9 := Lib.hid (fun W => show Calls Tryd.prog 113 #[.int .u8 95] W fun e w' => e = .returned (.int .u8 127) ∧ w' = W from c_lower 95 W)
            subst i2
            clear hdec hz hy hacc ha h95 hdig hlet CL
            go_wp2_with (go_at_call 113; refine (C9.out _).mono ?_; rintro e w' ⟨rfl, rfl⟩)
            all_goals go_ret2
            all_goals exact ⟨.inr ⟨.inr HE.out, _, _, .inr rfl, rfl⟩, HW.out⟩
          · clear hdec hz hy hacc ha h95
            go_wp2_with (go_at_call 113; refine (CL.out _).mono ?_; rintro e w' ⟨rfl, rfl⟩)
            all_goals go_ret2
            all_goals exact ⟨.inr ⟨.inr HE.out, _, _, .inr rfl, rfl⟩, HW.out⟩
    · have hkk : k = t.size := by omega
      subst hkk
      have HE := Lib.hid (show puL 0 s = some acc from by rw [hdec, List.drop_eq_nil_of_le (by omega)]; rfl)
      subst ha
      clear hdec hacc hacc0 hacc1
      go_wp2
      go_ret2
      exact ⟨.inl ⟨acc, HN.out, HE.out, rfl⟩, HW.out⟩
end Go.Proofs.YtdhpaglcggeknaaDoor
