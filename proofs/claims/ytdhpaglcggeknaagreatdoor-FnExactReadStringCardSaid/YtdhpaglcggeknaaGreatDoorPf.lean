/- Numbers in decimal, in the reference. No condition. -/
import Derived.Test.YtdhpaglcggeknaaGreatDoorPe
import Derived.Test.YtdhpaglcggeknaaGreatDoorSr
import Derived.Lib.ItoaNum
namespace Go.Fl
open Go.RowKit
section
variable {P : Program} {ops : Array Oper} {rest : List Oper} {o : Oper} {a : Act} {w : World} {K : Act → World → Prop} {Q : Exit → Act → World → Prop} {S : World → Prop}
theorem wp_bytes_back (src dst e : TypeId) (x : Operand) (ho : o.op = .convert src dst x) (ad : Addr) (cap n : Nat) (l : List UInt8) (hn : l.length = n) (hx : a.eval x = .slice (some ad) n cap) (hs : P.underlying src = some (.slice e)) (he : P.underlying e = some (.int .u8)) (hd : P.underlying dst = some .string)
    (hc : ∀ j (hj : j < l.length), w.cell? (ad.add j) = some (.int .u8 (l[j].toNat : Int))) (h : K (a.put o.dst (.string (bs l))) w) : o.wp P a w K Q := by
  subst hn
  have hr := run_convert_bytes_back (P := P) w src dst e ad cap l hs he hd hc
  unfold Oper.wp execOp
  simp only [ho, hx, Sem.run_bind, Sem.run_pure, Result.andThen_ok, hr]
  exact h
theorem wp_str_add (t t' : TypeId) (x y : Operand) (ho : o.op = .binOp .add t x y t') (l r : List UInt8) (hx : a.eval x = .string (bs l)) (hy : a.eval y = .string (bs r)) (hlen : l.length + r.length ≤ 9223372036854775807) (h : K (a.put o.dst (.string (bs (l ++ r)))) w) : o.wp P a w K Q := by
  have hr := run_string_add_sum (P := P) w (bs l) (bs r) (by rw [bs_size, bs_size]; exact hlen)
  have e : bs l ++ bs r = bs (l ++ r) := by unfold bs; rw [ByteArray.mk_append_mk]
  rw [e] at hr
  unfold Oper.wp execOp
  simp only [ho, hx, hy, binOp, eqGuard_at_string, Sem.run_bind, Sem.run_pure, Result.andThen_ok, hr]
  exact h
theorem yields_str_add (hgd : o.guard = none) (t t' : TypeId) (x y : Operand) (ho : o.op = .binOp .add t x y t') (l r : List UInt8) (hx : a.eval x = .string (bs l)) (hy : a.eval y = .string (bs r)) (hlen : l.length + r.length ≤ 9223372036854775807) : YieldsIf P ops S o (.string (bs (l ++ r))) a :=
  .inl ⟨by simp [Region.wanted, hgd], fun w _ => by
    have hr := run_string_add_sum (P := P) w (bs l) (bs r) (by rw [bs_size, bs_size]; exact hlen)
    have e : bs l ++ bs r = bs (l ++ r) := by unfold bs; rw [ByteArray.mk_append_mk]
    rw [e] at hr
    unfold execOp
    simp only [ho, hx, hy, binOp, eqGuard_at_string, Sem.run_bind, Sem.run_pure, Result.andThen_ok, hr]⟩
end
theorem one_byte {w : World} {g : Nat} {t : TypeId} {v : Value} (b : UInt8) (hv : v = .int .u8 (b.toNat : Int)) (h : w.heap[g]? = some (.cells #[v] t)) : ∀ j (hj : j < [b].length), w.cell? ((⟨g, 0, none⟩ : Addr).add j) = some (.int .u8 ([b][j].toNat : Int)) := by
  intro j hj
  have : j = 0 := by simpa using hj
  subst this
  rw [addr_lit_add, Go.Joins.cell_of_block h]
  simp [hv]
/-- A decimal digit. -/
def dgt (d : Nat) : UInt8 := UInt8.ofNat (48 + d)
theorem dig_val (d : Nat) (h : d < 10) : Value.int .u8 (48 + (d : Int)) = .int .u8 ((dgt d).toNat : Int) := by
  have : (dgt d).toNat = 48 + d := by unfold dgt; simp; omega
  rw [this]
  congr 1
end Go.Fl
namespace Go.Proofs.YtdhpaglcggeknaaGreatDoor
open Go.RowKit Go.Fl
theorem decDigits_small {n : Nat} (h : n < 10) : Lib.decDigits n = [dgt n] := by rw [Lib.decDigits, dif_pos h]; rfl
theorem decDigits_big {n : Nat} (h : ¬ n < 10) : Lib.decDigits n = Lib.decDigits (n / 10) ++ [dgt (n % 10)] := by rw [Lib.decDigits, dif_neg h]; rfl
theorem decDigits_length (n : Nat) : (Lib.decDigits n).length ≤ n + 1 := by
  induction n using Nat.strongRecOn with
  | _ n ih =>
    by_cases h : n < 10
    · rw [decDigits_small h]; simp
    · rw [decDigits_big h, List.length_append]
      have := ih (n / 10) (by omega)
      simp
      omega
end Go.Proofs.YtdhpaglcggeknaaGreatDoor
