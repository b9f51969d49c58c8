/- Numbers in decimal, in the reference. No condition. -/
import Derived.Test.YtdhpaglcggeknaaDoorPe
import Derived.Test.YtdhpaglcggeknaaDoorSr
import Derived.Lib.ItoaNum
namespace Go.Fl
open Go.RowKit
section
variable {P : Program} {ops : Array Oper} {rest : List Oper} {o : Oper} {a : Act} {w : World} {K : Act → World → Prop} {Q : Exit → Act → World → Prop} {S : World → Prop}
theorem wp_bytes_back (src dst e : TypeId) (x : Operand) (ho : o.op = .convert src dst x) (ad : Addr) (cap n : Nat) (l : List UInt8) (hn : l.length = n) (hx : a.eval x = .slice (some ad) n cap) (hs : P.underlying src = some (.slice e)) (he : P.underlying e = some (.int .u8)) (hd : P.underlying dst = some .string)
    (hc : ∀ j (hj : j < l.length), w.cell? (ad.add j) = some (.int .u8 (l[j].toNat : Int))) (h : K (a.put o.dst (.string (bs l))) w) : o.wp P a w K Q := by
  subst hn
  have hr := run_convert_bytes_back (P := P) w src dst e ad cap l hs he hd hc
  unfold Oper.wp execOp
  simp only [ho, hx, Sem.run_bind, Sem.run_pure, Result.andThen_ok, hr]
  exact h
theorem wp_str_add (t t' : TypeId) (x y : Operand) (ho : o.op = .binOp .add t x y t') (l r : List UInt8) (hx : a.eval x = .string (bs l)) (hy : a.eval y = .string (bs r)) (hlen : l.length + r.length ≤ 9223372036854775807) (h : K (a.put o.dst (.string (bs (l ++ r)))) w) : o.wp P a w K Q := by
  have hr := run_string_add_sum (P := P) w (bs l) (bs r) (by rw [bs_size, bs_size]; exact hlen)
  have e : bs l ++ bs r = bs (l ++ r) := by unfold bs; rw [ByteArray.mk_append_mk]
  rw [e] at hr
  unfold Oper.wp execOp
  simp only [ho, hx, hy, binOp, eqGuard_at_string, Sem.run_bind, Sem.run_pure, Result.andThen_ok, hr]
  exact h
theorem yields_str_add (hgd : o.guard = none) (t t' : TypeId) (x y : Operand) (ho : o.op = .binOp .add t x y t') (l r : List UInt8) (hx : a.eval x = .string (bs l)) (hy : a.eval y = .string (bs r)) (hlen : l.length + r.length ≤ 9223372036854775807) : YieldsIf P ops S o (.string (bs (l ++ r))) a :=
  .inl ⟨by simp [Region.wanted, hgd], fun w _ => by
    have hr := run_string_add_sum (P := P) w (bs l) (bs r) (by rw [bs_size, bs_size]; exact hlen)
    have e : bs l ++ bs r = bs (l ++ r) := by unfold bs; rw [ByteArray.mk_append_mk]
    rw [e] at hr
    unfold execOp
    simp only [ho, hx, hy, binOp, eqGuard_at_string, Sem.run_bind, Sem.run_pure, Result.andThen_ok, hr]⟩
end
theorem one_byte {w : World} {g : Nat} {t : TypeId} {v : Value} (b : UInt8) (hv : v = .int .u8 (b.toNat : Int)) (h : w.heap[g]? = some (.cells #[v] t)) : ∀ j (hj : j < [b].length), w.cell? ((⟨g, 0, none⟩ : Addr).add j) = some (.int .u8 ([b][j].toNat : Int)) := by
  intro j hj
  have : j = 0 := by simpa using hj
  subst this
  rw [addr_lit_add, Go.Joins.cell_of_block h]
  simp [hv]
/-- A decimal digit. -/
def dgt (d : Nat) : UInt8 := UInt8.ofNat (48 + d)
theorem dig_val (d : Nat) (h : d < 10) : Value.int .u8 (48 + (d : Int)) = .int .u8 ((dgt d).toNat : Int) := by
  have : (dgt d).toNat = 48 + d := by unfold dgt; simp; omega
  rw [this]
  congr 1
end Go.Fl
namespace Go.Proofs.YtdhpaglcggeknaaDoor
open Go.RowKit Go.Fl
theorem decDigits_small {n : Nat} (h : n < 10) : Lib.decDigits n = [dgt n] := by rw [Lib.decDigits, dif_pos h]; rfl
theorem decDigits_big {n : Nat} (h : ¬ n < 10) : Lib.decDigits n = Lib.decDigits (n / 10) ++ [dgt (n % 10)] := by rw [Lib.decDigits, dif_neg h]; rfl
theorem decDigits_length (n : Nat) : (Lib.decDigits n).length ≤ n + 1 := by
  induction n using Nat.strongRecOn with
  | _ n ih =>
    by_cases h : n < 10
    · rw [decDigits_small h]; simp
    · rw [decDigits_big h, List.length_append]
      have := ih (n / 10) (by omega)
      simp
      omega
set_option maxRecDepth 20000 in
set_option maxHeartbeats 1000000 in
theorem c_Decimal (n : Nat) (hn : n ≤ 1000000000000) (w : World) :
    Calls Tryd.prog 28 #[.int .i64 n] w fun e w' => e = .returned (.string (bs (Lib.decDigits n))) ∧ Below w.heap.size w w' := by
  induction n using Nat.strongRecOn generalizing w with
  | _ n ih =>
    have h0 : (0 : Int) ≤ n := by omega
    by_cases h : n < 10
    · have h1 : (n : Int) < 10 := by omega
      have HD := Lib.hid (dig_val n h)
      rw [decDigits_small h]
      clear ih hn
      go_enter Tryd.func28, Tryd.ntmps28
      go_wp2_with (refine wpList_bytes_back rfl 97 9 5 _ rfl _ _ _ [dgt n] rfl rfl Tryd.underlying97 Tryd.underlying5 Tryd.underlying9 (one_byte _ HD.out (Row.new _ _ _ _ rfl)) ?_)
      go_ret
      exact ⟨rfl, Go.Joins.below_alloc1 _ _⟩
    · have h1 : ¬ ((n : Int) < 10) := by omega
      have h2 : (n : Int) ≤ 1000000000000 := by omega
      have IH := Lib.hid (fun W => ih (n / 10) (by omega) (by omega) W)
      have HD := Lib.hid (dig_val (n % 10) (by omega))
      have HL := Lib.hid (decDigits_length (n / 10))
      have HQ : Hid ((Lib.decDigits (n / 10)).length + [dgt (n % 10)].length ≤ 9223372036854775807) := Lib.hid (by have := HL.out; simp; omega)
      rw [decDigits_big h]
      clear ih hn
      go_enter Tryd.func28, Tryd.ntmps28
      go_wp2_with fail
      have s0 := (Below.refl w.heap.size w).drew
      refine wp_region_road (S := fun w' => Below w.heap.size w w') (.held 0 (.held 1 (.held 3 (.held 4 (.held 5 (.held 6 (.two 2 7 (.one 7 (.one 8 (.one 9 (.held 10 .nil)))) (.two 2 8 (.one 8 (.one 9 (.held 10 .nil))) (.one 2 (.one 9 (.held 10 .nil)))))))))))  (by kernel_rfl) (by kernel_rfl) (by kernel_rfl) (fun _ _ d _ _ h => by cases d <;> exact h) s0 ?_
      refine wpRoad_held (v := .int .i64 (n : Int)) rfl (.inl ⟨rfl, fun w' hw => by go_simp⟩) ?_
      refine wpRoad_held (v := .int .i64 ((n / 10 : Nat) : Int)) rfl (.inl ⟨rfl, fun w' hw => by go_simp; exact IntWalk.i64_in _ (by omega)⟩) ?_
      refine wpRoad_held (v := .int .i64 (n : Int)) rfl (.inl ⟨rfl, fun w' hw => by go_simp⟩) ?_
      refine wpRoad_held (v := .int .i64 ((n % 10 : Nat) : Int)) rfl (.inl ⟨rfl, fun w' hw => by go_simp; exact Int.tmod_eq_emod_of_nonneg h0⟩) ?_
      refine wpRoad_held (v := .int .i64 (48 + ((n % 10 : Nat) : Int))) rfl (.inl ⟨rfl, fun w' hw => by go_simp; exact IntWalk.i64_in _ (by omega)⟩) ?_
      refine wpRoad_held (v := .int .u8 (48 + ((n % 10 : Nat) : Int))) rfl (.inl ⟨rfl, fun w' hw => by go_simp; exact IntWalk.u8_in _ (by omega)⟩) ?_
      refine wpRoad_two rfl rfl rfl rfl (fun K hK => ?_) (fun K hK => ?_)
      · go_wp2_with fail
        refine (IH.out _).mono ?_; rintro e w1 ⟨rfl, b⟩
        have s1 := seq_below s0 b; clear b
        refine hK _ _ ⟨s1, ?_⟩; clear hK
        refine wpRoad_one rfl rfl (fun K hK => ?_)
        go_wp2_with fail
        have s2 := seq_below s1 (Go.Joins.below_alloc1 w1 (.cells #[.int .u8 (48 + ((n % 10 : Nat) : Int))] 5))
        refine ⟨s2, ?_⟩
        refine wpRoad_one rfl rfl (fun K hK => ?_)
        refine wp_bytes_back 97 9 5 _ rfl _ _ _ [dgt (n % 10)] rfl rfl Tryd.underlying97 Tryd.underlying5 Tryd.underlying9 (one_byte _ HD.out (Row.new _ _ _ _ rfl)) ?_
        refine hK _ _ ⟨s2, ?_⟩; clear hK
        refine wpRoad_one rfl rfl (fun K hK => ?_)
        refine wp_str_add _ _ _ _ rfl (Lib.decDigits (n / 10)) [dgt (n % 10)] rfl rfl HQ.out ?_
        refine hK _ _ ⟨s2, ?_⟩; clear hK
        refine wpRoad_held rfl (yields_move rfl _ (.inr rfl)) ?_
        refine wpRoad_nil ?_
        go_wp2_with fail
        go_ret
        exact ⟨rfl, s2⟩
      · go_wp2_with fail
        have q1 : Row (w.alloc (.cells #[.int .u8 (48 + ((n % 10 : Nat) : Int))] 5)).drew w.heap.size #[.int .u8 (48 + ((n % 10 : Nat) : Int))] 5 := Row.new _ _ _ _ rfl
        have s1 : Below w.heap.size w (w.alloc (.cells #[.int .u8 (48 + ((n % 10 : Nat) : Int))] 5)).drew := below_drewN (Go.Joins.below_alloc1 w (.cells #[.int .u8 (48 + ((n % 10 : Nat) : Int))] 5)) 1
        refine ⟨s1, ?_⟩
        refine wpRoad_two rfl rfl rfl rfl (fun K hK => ?_) (fun K hK => ?_)
        · go_wp2_with fail
          refine (IH.out _).mono ?_; rintro e w1 ⟨rfl, b⟩
          have s2 := seq_below s1 b; replace q1 := q1.below b q1.lt; clear b
          refine hK _ _ ⟨s2, ?_⟩; clear hK
          refine wpRoad_one rfl rfl (fun K hK => ?_)
          refine wp_bytes_back 97 9 5 _ rfl _ _ _ [dgt (n % 10)] rfl rfl Tryd.underlying97 Tryd.underlying5 Tryd.underlying9 (one_byte _ HD.out q1) ?_
          refine hK _ _ ⟨s2, ?_⟩; clear hK
          refine wpRoad_one rfl rfl (fun K hK => ?_)
          refine wp_str_add _ _ _ _ rfl (Lib.decDigits (n / 10)) [dgt (n % 10)] rfl rfl HQ.out ?_
          refine hK _ _ ⟨s2, ?_⟩; clear hK
          refine wpRoad_held rfl (yields_move rfl _ (.inr rfl)) ?_
          refine wpRoad_nil ?_
          go_wp2_with fail
          go_ret
          exact ⟨rfl, s2⟩
        · refine wp_bytes_back 97 9 5 _ rfl _ _ _ [dgt (n % 10)] rfl rfl Tryd.underlying97 Tryd.underlying5 Tryd.underlying9 (one_byte _ HD.out q1) ?_
          refine hK _ _ ⟨s1, ?_⟩; clear hK
          refine wpRoad_one rfl rfl (fun K hK => ?_)
          go_wp2_with fail
          refine (IH.out _).mono ?_; rintro e w1 ⟨rfl, b⟩
          have s2 := seq_below s1 b; clear b
          refine hK _ _ ⟨s2, ?_⟩; clear hK
          refine wpRoad_one rfl rfl (fun K hK => ?_)
          refine wp_str_add _ _ _ _ rfl (Lib.decDigits (n / 10)) [dgt (n % 10)] rfl rfl HQ.out ?_
          refine hK _ _ ⟨s2, ?_⟩; clear hK
          refine wpRoad_held rfl (yields_move rfl _ (.inr rfl)) ?_
          refine wpRoad_nil ?_
          go_wp2_with fail
          go_ret
          exact ⟨rfl, s2⟩
end Go.Proofs.YtdhpaglcggeknaaDoor
