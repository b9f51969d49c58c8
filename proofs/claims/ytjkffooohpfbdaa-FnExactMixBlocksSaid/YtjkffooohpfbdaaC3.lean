/- Contracts: silence, sums of products, absolute values. No condition. -/
import Derived.Test.YtjkffooohpfbdaaC2
namespace Go.Proofs.Ytjkffooohpfbdaa
open Go.RowKit Go.Fl
theorem info_f32 : (Try.prog.info? 22).map (·.size) = some 1 := by kernel_rfl

theorem ret_bool {a b : Bool} (h : a = b) : Ending.returned (.bool a) = .returned (.bool b) := by rw [h]


theorem conv_lt (x : Nat) (w : World) : conv .f32 .f64 x w < 18446744073709551616 := by
  unfold conv
  split
  · rename_i r hr
    unfold floatToFloatBits at hr
    rw [if_neg (by decide)] at hr
    split at hr
    · cases hr
    · cases hr; exact Ieee.Format.write_lt _ _
    · split at hr
      · cases hr
      · cases hr; exact Ieee.Format.write_lt _ _
  · split
    · rename_i t ht
      simp only [Question.cut]
      generalize w.tape w.drawn _ = z
      have h1 : z % 2 < 2 := Nat.mod_lt _ (by decide)
      have h2 : z / 2 % (2 ^ 52 - 1) < 4503599627370495 := Nat.mod_lt _ (by decide)
      generalize z % 2 = p at *
      generalize z / 2 % (2 ^ 52 - 1) = q at *
      omega
    · simp only [Question.cut]
      exact Nat.lt_of_lt_of_le (Nat.mod_lt _ (by decide)) (by decide)
theorem strike64 (x : Nat) (h : x < 18446744073709551616) : (bits .andNot .u64 (x : Int) 9223372036854775808).toNat = x % 9223372036854775808 := by
  have e : (bits .andNot .u64 (x : Int) 9223372036854775808) = IntKind.u64.wrap (((BitVec.ofNat 64 x) &&& ~~~ (BitVec.ofNat 64 9223372036854775808)).toNat : Int) := by
    unfold bits
    rfl
  rw [e]
  have h2 : ((BitVec.ofNat 64 x) &&& ~~~ (BitVec.ofNat 64 9223372036854775808)).toNat = x % 9223372036854775808 := by
    have h3 : ~~~ (BitVec.ofNat 64 9223372036854775808) = BitVec.ofNat 64 (2 ^ 63 - 1) := by decide
    rw [h3, BitVec.toNat_and, BitVec.toNat_ofNat, BitVec.toNat_ofNat, Nat.mod_eq_of_lt (show x < 2 ^ 64 from h), Nat.mod_eq_of_lt (show 2 ^ 63 - 1 < 2 ^ 64 by decide), Nat.and_two_pow_sub_one_eq_mod]
  rw [h2]
  have h4 : x % 9223372036854775808 < 9223372036854775808 := Nat.mod_lt _ (by decide)
  generalize x % 9223372036854775808 = y at *
  simp only [IntKind.wrap, IntKind.bits, IntKind.signed, Bool.false_and, Bool.false_eq_true, if_false]
  omega
def AbsPost (a : Nat) (w : World) (e : Ending) (w' : World) : Prop := ∃ r n, e = .returned (.float .f32 r) ∧ cv .f32 r = absC32 (cv .f32 a) ∧ w' = w.drewN n
theorem c_absolute (a : Nat) (w : World) : Calls Try.prog 57 #[.float .f32 a] w (AbsPost a w) := by
  go_enter Try.func57, Try.ntmps57
  go_wp2
  go_ret
  refine ⟨_, _, rfl, ?_, rfl⟩
  rw [strike64 _ (conv_lt a w)]
  rw [cv_conv _ _ (by decide) _ _ (by rw [absC64_cv, cv_wid]; exact fits_abs a), absC64_cv, cv_wid, abs_both]
theorem strike32 (x : Nat) : (bits .and .u32 (x : Int) 2147483647).toNat = x % 2147483648 := by
  have e : (bits .and .u32 (x : Int) 2147483647) = IntKind.u32.wrap (((BitVec.ofNat 32 x) &&& (BitVec.ofNat 32 2147483647)).toNat : Int) := by
    unfold bits
    rfl
  rw [e]
  have h2 : ((BitVec.ofNat 32 x) &&& (BitVec.ofNat 32 2147483647)).toNat = x % 2147483648 := by
    rw [BitVec.toNat_and, BitVec.toNat_ofNat, BitVec.toNat_ofNat, show (2147483647 : Nat) % 2 ^ 32 = 2 ^ 31 - 1 by decide, Nat.and_two_pow_sub_one_eq_mod, Nat.mod_mod_of_dvd _ (by decide)]
  rw [h2]
  have h4 : x % 2147483648 < 2147483648 := Nat.mod_lt _ (by decide)
  generalize x % 2147483648 = y at *
  simp only [IntKind.wrap, IntKind.bits, IntKind.signed, Bool.false_and, Bool.false_eq_true, if_false]
  omega
theorem c_l01Abs (a : Nat) (w : World) : Calls Try.prog 56 #[.float .f32 a] w fun e w' => e = .returned (.float .f32 (a % 2147483648)) ∧ w' = w := by
  go_enter Try.func56, Try.ntmps56
  go_wp2
  go_ret
  exact ⟨by simp [strike32], rfl⟩
end Go.Proofs.Ytjkffooohpfbdaa
