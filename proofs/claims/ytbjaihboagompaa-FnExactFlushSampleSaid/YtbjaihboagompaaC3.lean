/- Contracts: silence, sums of products, absolute values. No condition. -/
import Derived.Test.YtbjaihboagompaaC2
namespace Go.Proofs.Ytbjaihboagompaa
open Go.RowKit Go.Fl
theorem info_f32 : (Try.prog.info? 24).map (·.size) = some 1 := by kernel_rfl

theorem ret_bool {a b : Bool} (h : a = b) : Ending.returned (.bool a) = .returned (.bool b) := by rw [h]

def silB (xs : List Nat) : Bool := eqAll 16 xs (List.replicate 16 0)
theorem nth_rep (n i : Nat) : nth (List.replicate n 0) i = 0 := by
  simp only [nth, List.getD_eq_getElem?_getD, List.getElem?_replicate]
  split <;> rfl
theorem eqg_blk : Try.prog.eqGuardType Try.prog.depth 33 = false := by kernel_rfl
theorem c_sIsSilent (xs : List Nat) (w : World) (hx : xs.length = 16) : Calls Try.prog 20 #[.agg (fl xs)] w fun e w' => e = .returned (.bool (silB xs)) ∧ Below w.heap.size w w' := by
  have HX := Lib.hid hx; clear hx
  have hb : Blk (w.alloc (.cells (fl xs) 33)) w.heap.size xs 33 := Blk.new _ _ _ _ rfl
  go_enter Try.func20, Try.ntmps20
  go_wp2_with (first | (refine wpList_load_blk rfl 33 _ rfl _ rfl hb Try.underlying33 info_blk HX.out ?_) | (refine wpList_eql_farr (ys := List.replicate 16 0) rfl 33 _ _ _ rfl rfl rfl Try.underlying33 Try.underlying24 info_f32 eqg_blk HX.out rfl ?_))
  go_ret
  exact ⟨rfl, Go.Joins.below_alloc1 _ _⟩
theorem silB_false (xs : List Nat) (k : Nat) (hk : k < 16) (h : (ordC .f32 (cv .f32 (nth xs k)) (cv .f32 0) != some .eq) = true) : silB xs = false := by
  unfold silB eqAll
  rw [List.all_eq_false]
  refine ⟨k, by simpa using hk, ?_⟩
  rw [nth_rep]; simpa using h
theorem silB_true (xs : List Nat) (h : ∀ j, j < 16 → ordC .f32 (cv .f32 (nth xs j)) (cv .f32 0) = some .eq) : silB xs = true := by
  unfold silB eqAll
  rw [List.all_eq_true]
  intro k hk
  rw [nth_rep, h k (by simpa using hk)]; rfl
theorem c_iIsSilent (xs : List Nat) (w : World) (hx : xs.length = 16) : Calls Try.prog 22 #[.agg (fl xs)] w fun e w' => e = .returned (.bool (silB xs)) ∧ Below w.heap.size w w' := by
  have HX := Lib.hid hx; clear hx
  have hb : Blk (w.alloc (.cells (fl xs) 33)) w.heap.size xs 33 := Blk.new _ _ _ _ rfl
  go_enter Try.func22, Try.ntmps22
  go_wp2_with (refine wpList_load_blk rfl 33 _ rfl _ rfl hb Try.underlying33 info_blk HX.out ?_)
  clear hb
  go_loop [6] (fun i => ∃ k : Nat, k ≤ 16 ∧ i = .int .i64 k ∧ Hid (∀ j, j < k → ordC .f32 (cv .f32 (nth xs j)) (cv .f32 0) = some .eq)) (fun i => 16 - (intOf i).toNat)
  case atStart => exact ⟨0, by omega, rfl, fun j hj => by omega⟩
  case round =>
    obtain ⟨k, hk, rfl, HL⟩ := hrel
    by_cases hlt : k < 16
    · have hi := fun W => run_index_fl (P := Try.prog) (w := W) 33 24 16 xs k Try.underlying33 Try.underlying24 info_f32 (by rw [HX.out]; exact hlt) hlt
      by_cases ht : ordC .f32 (cv .f32 (nth xs k)) (cv .f32 0) = some .eq
      · have ht' : (ordC .f32 (cv .f32 (nth xs k)) (cv .f32 0) != some .eq) = false := by rw [ht]; rfl
        have HT := Lib.hid ht; clear ht
        go_wp2
        go_round
        case rel => exact ⟨k + 1, by omega, by go_num, fun j hj => by
          by_cases e : j = k
          · subst e; exact HT.out
          · exact HL.out j (by omega)⟩
        case measure => simp [intOf]; omega
      · have ht' : (ordC .f32 (cv .f32 (nth xs k)) (cv .f32 0) != some .eq) = true := by simpa using ht
        have hs := silB_false xs k hlt ht'
        have HS := Lib.hid hs; clear hs ht
        go_wp2
        go_ret
        exact ⟨ret_bool HS.out.symm, Go.Joins.below_alloc1 _ _⟩
    · have e : k = 16 := by omega
      subst e
      have HS := Lib.hid (silB_true xs HL.out)
      clear HL
      go_wp2
      go_ret
      exact ⟨ret_bool HS.out.symm, Go.Joins.below_alloc1 _ _⟩

theorem conv_lt (x : Nat) (w : World) : conv .f32 .f64 x w < 18446744073709551616 := by
  unfold conv
  split
  · rename_i r hr
    unfold floatToFloatBits at hr
    rw [if_neg (by decide)] at hr
    split at hr
    · cases hr
    · cases hr; exact Ieee.Format.write_lt _ _
    · split at hr
      · cases hr
      · cases hr; exact Ieee.Format.write_lt _ _
  · split
    · rename_i t ht
      simp only [Question.cut]
      generalize w.tape w.drawn _ = z
      have h1 : z % 2 < 2 := Nat.mod_lt _ (by decide)
      have h2 : z / 2 % (2 ^ 52 - 1) < 4503599627370495 := Nat.mod_lt _ (by decide)
      generalize z % 2 = p at *
      generalize z / 2 % (2 ^ 52 - 1) = q at *
      omega
    · simp only [Question.cut]
      exact Nat.lt_of_lt_of_le (Nat.mod_lt _ (by decide)) (by decide)
theorem strike64 (x : Nat) (h : x < 18446744073709551616) : (bits .andNot .u64 (x : Int) 9223372036854775808).toNat = x % 9223372036854775808 := by
  have e : (bits .andNot .u64 (x : Int) 9223372036854775808) = IntKind.u64.wrap (((BitVec.ofNat 64 x) &&& ~~~ (BitVec.ofNat 64 9223372036854775808)).toNat : Int) := by
    unfold bits
    rfl
  rw [e]
  have h2 : ((BitVec.ofNat 64 x) &&& ~~~ (BitVec.ofNat 64 9223372036854775808)).toNat = x % 9223372036854775808 := by
    have h3 : ~~~ (BitVec.ofNat 64 9223372036854775808) = BitVec.ofNat 64 (2 ^ 63 - 1) := by decide
    rw [h3, BitVec.toNat_and, BitVec.toNat_ofNat, BitVec.toNat_ofNat, Nat.mod_eq_of_lt (show x < 2 ^ 64 from h), Nat.mod_eq_of_lt (show 2 ^ 63 - 1 < 2 ^ 64 by decide), Nat.and_two_pow_sub_one_eq_mod]
  rw [h2]
  have h4 : x % 9223372036854775808 < 9223372036854775808 := Nat.mod_lt _ (by decide)
  generalize x % 9223372036854775808 = y at *
  simp only [IntKind.wrap, IntKind.bits, IntKind.signed, Bool.false_and, Bool.false_eq_true, if_false]
  omega
def AbsPost (a : Nat) (w : World) (e : Ending) (w' : World) : Prop := ∃ r n, e = .returned (.float .f32 r) ∧ cv .f32 r = absC32 (cv .f32 a) ∧ w' = w.drewN n
theorem c_absolute (a : Nat) (w : World) : Calls Try.prog 51 #[.float .f32 a] w (AbsPost a w) := by
  go_enter Try.func51, Try.ntmps51
  go_wp2
  go_ret
  refine ⟨_, _, rfl, ?_, rfl⟩
  rw [strike64 _ (conv_lt a w)]
  rw [cv_conv _ _ (by decide) _ _ (by rw [absC64_cv, cv_wid]; exact fits_abs a), absC64_cv, cv_wid, abs_both]
theorem strike32 (x : Nat) : (bits .and .u32 (x : Int) 2147483647).toNat = x % 2147483648 := by
  have e : (bits .and .u32 (x : Int) 2147483647) = IntKind.u32.wrap (((BitVec.ofNat 32 x) &&& (BitVec.ofNat 32 2147483647)).toNat : Int) := by
    unfold bits
    rfl
  rw [e]
  have h2 : ((BitVec.ofNat 32 x) &&& (BitVec.ofNat 32 2147483647)).toNat = x % 2147483648 := by
    rw [BitVec.toNat_and, BitVec.toNat_ofNat, BitVec.toNat_ofNat, show (2147483647 : Nat) % 2 ^ 32 = 2 ^ 31 - 1 by decide, Nat.and_two_pow_sub_one_eq_mod, Nat.mod_mod_of_dvd _ (by decide)]
  rw [h2]
  have h4 : x % 2147483648 < 2147483648 := Nat.mod_lt _ (by decide)
  generalize x % 2147483648 = y at *
  simp only [IntKind.wrap, IntKind.bits, IntKind.signed, Bool.false_and, Bool.false_eq_true, if_false]
  omega
theorem c_l01Abs (a : Nat) (w : World) : Calls Try.prog 54 #[.float .f32 a] w fun e w' => e = .returned (.float .f32 (a % 2147483648)) ∧ w' = w := by
  go_enter Try.func54, Try.ntmps54
  go_wp2
  go_ret
  exact ⟨by simp [strike32], rfl⟩
end Go.Proofs.Ytbjaihboagompaa
