/- Lists of samples told the same. No condition. -/
import Derived.Test.YtpchebclhjgcmaaC2
import Derived.Test.YtpchebclhjgcmaaSo
namespace Go.Proofs.Ytpchebclhjgcmaa
open Go.RowKit Go.Fl
def sameN (xs ys : List Nat) (n : Nat) : Bool := (List.range n).all fun i => sameB (nth xs i) (nth ys i)
theorem sameN_no (xs ys : List Nat) (n k : Nat) (hk : k < n) (h : sameB (nth xs k) (nth ys k) = false) : sameN xs ys n = false := by
  unfold sameN; rw [List.all_eq_false]; exact ⟨k, by simpa using hk, by rw [h]; exact Bool.false_ne_true⟩
theorem sameN_yes (xs ys : List Nat) (n : Nat) (h : ∀ j, j < n → sameB (nth xs j) (nth ys j) = true) : sameN xs ys n = true := by
  unfold sameN; rw [List.all_eq_true]; intro k hk; exact h k (by simpa using hk)
def sameL (xs ys : List Nat) : Bool := decide (xs.length = ys.length) && sameN xs ys xs.length
theorem sameL_ne {xs ys : List Nat} (h : xs.length ≠ ys.length) : false = sameL xs ys := by unfold sameL; rw [decide_eq_false h]; rfl
theorem sameL_eq {xs ys : List Nat} (h : xs.length = ys.length) : sameN xs ys xs.length = sameL xs ys := by unfold sameL; rw [decide_eq_true h, Bool.true_and]
set_option maxHeartbeats 1000000 in
theorem c_sSameList (A B : Option Addr) (c d : Nat) (xs ys : List Nat) (w : World) (hs : Sl w A xs) (ht : Sl w B ys) (hl : (xs.length : Int) ≤ 4294967296) :
    Calls Try.prog 84 #[.slice A xs.length c, .slice B ys.length d] w fun e w' => e = .returned (.bool (sameL xs ys)) ∧ Below w.heap.size w w' := by
  by_cases he : xs.length = ys.length
  case neg =>
    have HR := Lib.hid (sameL_ne he)
    have hne : ((xs.length : Int) == (ys.length : Int)) = false := by simp; omega
    clear hs ht hl
    go_enter Try.func84, Try.ntmps84
    go_wp2
    go_ret
    exact ⟨ret_boolx HR.out, Below.refl _ _⟩
  case pos =>
    have HR := Lib.hid (sameL_eq he)
    have HE := Lib.hid he
    rw [← he]
    clear he
    have HL := Lib.hid hl; clear hl
    have HS := Lib.hid hs; have HT := Lib.hid ht; clear hs ht
    generalize hn : xs.length = n at *
    have HN := Lib.hid hn; clear hn
    go_enter Try.func84, Try.ntmps84
    go_wp2
    go_loopw [5] (fun i wr => ∃ k : Nat, k ≤ n ∧ i = .int .i64 k ∧ Below w.heap.size w wr ∧ Hid (∀ j, j < k → sameB (nth xs j) (nth ys j) = true)) (fun i _ => n - (intOf i).toNat)
    case atStart => exact ⟨0, by omega, rfl, Below.refl _ _, fun j hj => by omega⟩
    case round =>
      obtain ⟨k, hk, rfl, hb, HK⟩ := hrel
      by_cases hlt : k < n
      · obtain ⟨ad, rfl, hbl, c1⟩ := (HS.out.below hb).at_ (k := k) (by rw [HN.out]; exact hlt)
        obtain ⟨bd, rfl, hbl2, c2⟩ := (HT.out.below hb).at_ (k := k) (by rw [← HE.out]; exact hlt)
        have hi : (0 : Int) ≤ k := by omega
        have hi2 : (k : Int) < n := by omega
        have hi3 : (n : Int) ≤ 4294967296 := HL.out
        cases hsm : sameB (nth xs k) (nth ys k)
        · have HQ := Lib.hid (sameN_no xs ys n k hlt hsm)
          have HZ := Lib.hid hsm; clear hsm
          go_wp2
          go_quiet (((go_at_call 44; exact Calls.quiet_of_same (c_l01Same_v _ _ _ _ HZ.out))))
          go_wp2
          go_ret
          exact ⟨ret_boolx (HQ.out.symm.trans HR.out), by first | exact hb | exact below_drewN hb _⟩
        · have HZ := Lib.hid hsm; clear hsm
          go_wp2
          go_quiet (((go_at_call 44; exact Calls.quiet_of_same (c_l01Same_v _ _ _ _ HZ.out))))
          go_wp2
          go_roundw
          case rel => exact ⟨k + 1, by omega, by go_num, by first | exact hb | exact below_drewN hb _, fun j hj => by
            by_cases e : j = k
            · subst e; exact HZ.out
            · exact HK.out j (by omega)⟩
          case measure => simp [intOf]; omega
      · have e : k = n := by omega
        subst e
        have HQ := Lib.hid (sameN_yes xs ys k HK.out)
        clear HK
        go_wp2
        go_ret
        exact ⟨ret_boolx (HQ.out.symm.trans HR.out), hb⟩
set_option maxHeartbeats 1000000 in
theorem c_iSameList (A B : Option Addr) (c d : Nat) (xs ys : List Nat) (w : World) (hs : Sl w A xs) (ht : Sl w B ys) (hl : (xs.length : Int) ≤ 4294967296) :
    Calls Try.prog 83 #[.slice A xs.length c, .slice B ys.length d] w fun e w' => e = .returned (.bool (sameL xs ys)) ∧ Below w.heap.size w w' := by
  by_cases he : xs.length = ys.length
  case neg =>
    have HR := Lib.hid (sameL_ne he)
    have hne : ((xs.length : Int) == (ys.length : Int)) = false := by simp; omega
    clear hs ht hl
    go_enter Try.func83, Try.ntmps83
    go_wp2
    go_ret
    exact ⟨ret_boolx HR.out, Below.refl _ _⟩
  case pos =>
    have HR := Lib.hid (sameL_eq he)
    have HE := Lib.hid he
    rw [← he]
    clear he
    have HL := Lib.hid hl; clear hl
    have HS := Lib.hid hs; have HT := Lib.hid ht; clear hs ht
    generalize hn : xs.length = n at *
    have HN := Lib.hid hn; clear hn
    go_enter Try.func83, Try.ntmps83
    go_wp2
    go_loopw [17] (fun i wr => ∃ k : Nat, k ≤ n ∧ i = .int .i64 k ∧ Below w.heap.size w wr ∧ Hid (∀ j, j < k → sameB (nth xs j) (nth ys j) = true)) (fun i _ => n - (intOf i).toNat)
    case atStart => exact ⟨0, by omega, rfl, Below.refl _ _, fun j hj => by omega⟩
    case round =>
      obtain ⟨k, hk, rfl, hb, HK⟩ := hrel
      by_cases hlt : k < n
      · obtain ⟨ad, rfl, hbl, c1⟩ := (HS.out.below hb).at_ (k := k) (by rw [HN.out]; exact hlt)
        obtain ⟨bd, rfl, hbl2, c2⟩ := (HT.out.below hb).at_ (k := k) (by rw [← HE.out]; exact hlt)
        have hi : (0 : Int) ≤ k := by omega
        have hi2 : (k : Int) < n := by omega
        have hi3 : (n : Int) ≤ 4294967296 := HL.out
        cases hsm : sameB (nth xs k) (nth ys k)
        · have HQ := Lib.hid (sameN_no xs ys n k hlt hsm)
          have HZ := Lib.hid hsm; clear hsm
          go_wp2_with (go_at_call 49; refine (c_SameSample _ _ _).mono ?_; rintro e w' ⟨rfl, rfl⟩; rw [HZ.out])
          go_ret
          exact ⟨ret_boolx (HQ.out.symm.trans HR.out), hb⟩
        · have HZ := Lib.hid hsm; clear hsm
          go_wp2_with (go_at_call 49; refine (c_SameSample _ _ _).mono ?_; rintro e w' ⟨rfl, rfl⟩; rw [HZ.out])
          go_roundw
          case rel => exact ⟨k + 1, by omega, by go_num, hb, fun j hj => by
            by_cases e : j = k
            · subst e; exact HZ.out
            · exact HK.out j (by omega)⟩
          case measure => simp [intOf]; omega
      · have e : k = n := by omega
        subst e
        have HQ := Lib.hid (sameN_yes xs ys k HK.out)
        clear HK
        go_wp2
        go_ret
        exact ⟨ret_boolx (HQ.out.symm.trans HR.out), hb⟩
end Go.Proofs.Ytpchebclhjgcmaa
