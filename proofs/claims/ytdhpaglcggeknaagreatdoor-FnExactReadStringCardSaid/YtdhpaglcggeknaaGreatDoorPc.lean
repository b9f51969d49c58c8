/- Strings: bytes as a string, sums of strings; numbers written with base 16. No condition. -/
import Derived.Test.YtdhpaglcggeknaaGreatDoorPb
import Derived.Test.YtdhpaglcggeknaaGreatDoorTa
import Derived.Laws.IdiomStrings
import Derived.Laws.Concat
import Derived.Laws.Bits64b
namespace Go.Fl
open Go.RowKit
/-- The string of these bytes. -/
def bs (l : List UInt8) : ByteArray := ⟨l.toArray⟩
theorem bs_size (l : List UInt8) : (bs l).size = l.length := by simp [bs, ByteArray.size]
theorem bs_list (l : List UInt8) : (bs l).data.toList = l := rfl
theorem bs_of (s : ByteArray) : bs s.data.toList = s := by unfold bs; simp
theorem bs_inj {a b : List UInt8} (h : bs a = bs b) : a = b := by
  have := congrArg (fun x => x.data.toList) h
  simpa [bs] using this
section
variable {P : Program} {ops : Array Oper} {rest : List Oper} {o : Oper} {a : Act} {w : World} {K : Act → World → Prop} {Q : Exit → Act → World → Prop}
theorem wpList_bytes_back (hgd : o.guard = none) (src dst e : TypeId) (x : Operand) (ho : o.op = .convert src dst x) (ad : Addr) (cap n : Nat) (l : List UInt8) (hn : l.length = n) (hx : a.eval x = .slice (some ad) n cap) (hs : P.underlying src = some (.slice e)) (he : P.underlying e = some (.int .u8)) (hd : P.underlying dst = some .string)
    (hc : ∀ j (hj : j < l.length), w.cell? (ad.add j) = some (.int .u8 (l[j].toNat : Int))) (h : wpList P ops Q rest (a.put o.dst (.string (bs l))) w) : wpList P ops Q (o :: rest) a w := by
  subst hn
  refine wpList_plain hgd fun K hK => ?_
  have hr := run_convert_bytes_back (P := P) w src dst e ad cap l hs he hd hc
  unfold Oper.wp execOp
  simp only [ho, hx, Sem.run_bind, Sem.run_pure, Result.andThen_ok, hr]
  exact hK _ _ h
theorem wpList_str_add (hgd : o.guard = none) (t t' : TypeId) (x y : Operand) (ho : o.op = .binOp .add t x y t') (l r : List UInt8) (hx : a.eval x = .string (bs l)) (hy : a.eval y = .string (bs r)) (hlen : l.length + r.length ≤ 9223372036854775807) (h : wpList P ops Q rest (a.put o.dst (.string (bs (l ++ r)))) w) : wpList P ops Q (o :: rest) a w := by
  refine wpList_plain hgd fun K hK => ?_
  have hr := run_string_add_sum (P := P) w (bs l) (bs r) (by rw [bs_size, bs_size]; exact hlen)
  have e : bs l ++ bs r = bs (l ++ r) := by unfold bs; rw [ByteArray.mk_append_mk]
  rw [e] at hr
  unfold Oper.wp execOp
  simp only [ho, hx, hy, binOp, eqGuard_at_string, Sem.run_bind, Sem.run_pure, Result.andThen_ok, hr]
  exact hK _ _ h
end
def byV (b : UInt8) : Value := .int .u8 b.toNat
/-- What a buffer of M bytes holds behind k digits. -/
def hexRow (M n k : Nat) : List Value := List.replicate (M - k) (.int .u8 0) ++ (hexL k n).map byV
theorem hexRow_set (M n k j : Nat) (h : k + (j + 1) = M) : (hexRow M n k).set j (byV (hexC (n / 16 ^ k % 16))) = hexRow M n (k + 1) := by
  unfold hexRow
  rw [show M - k = j + 1 from by omega, show M - (k + 1) = j from by omega, hexL_cons, List.replicate_succ']
  rw [List.append_assoc, List.set_append_right _ _ (by simp)]
  simp
theorem hexRow_at (M n k j : Nat) (h : k + (j + 1) = M) : (hexRow M n k)[j]? = some (.int .u8 0) := by
  unfold hexRow
  rw [List.getElem?_append_left (by simp; omega), List.getElem?_replicate]
  rw [if_pos (by omega)]
theorem hexRow_end (M n k j i : Nat) (h : k + j = M) (hi : i < (hexL k n).length) : (hexRow M n k)[j + i]? = some (.int .u8 ((hexL k n)[i].toNat : Int)) := by
  unfold hexRow
  rw [List.getElem?_append_right (by simp; omega)]
  simp only [List.length_replicate]
  rw [show j + i - (M - k) = i from by omega, List.getElem?_map, List.getElem?_eq_getElem hi]
  rfl
/-- The library's digits. -/
def dig36 : ByteArray := { data := #[48, 49, 50, 51, 52, 53, 54, 55, 56, 57, 97, 98, 99, 100, 101, 102, 103, 104, 105, 106, 107, 108, 109, 110, 111, 112, 113, 114, 115, 116, 117, 118, 119, 120, 121, 122] }
theorem dig36_at (d : Nat) (hd : d < 16) (h : d < dig36.size) : dig36[d] = hexC d := by
  have key : ∀ d : Fin 16, dig36.data[d.val]! = hexC d.val := by decide
  have e := key ⟨d, hd⟩
  rw [← e]
  show dig36.data[d] = dig36.data[d]!
  rw [getElem!_pos dig36.data d h]
theorem and15 (u : Nat) (h : u < 4294967296) : bits BinOp.and IntKind.u64 (u : Int) 15 = ((u % 16 : Nat) : Int) := by
  have := bits_and_u64_nat u 15 (by omega) (by decide)
  rw [show ((15 : Nat) : Int) = 15 from rfl] at this
  rw [this, show (15 : Nat) = 2 ^ 4 - 1 from rfl, Nat.and_two_pow_sub_one_eq_mod]
theorem addr_lit_add (g j i : Nat) : (⟨g, j, none⟩ : Addr).add i = ⟨g, j + i, none⟩ := by
  unfold Addr.add; split <;> simp_all
theorem hex_set {w : World} {g M n k j x : Nat} {t : TypeId} {v : Value} (hr : w.heap[g]? = some (.cells (hexRow M n k).toArray t)) (h : k + (j + 1) = M) (hx : x = n / 16 ^ k) (hv : v = byV (hexC (x % 16))) :
    (w.setCell ⟨g, j, none⟩ v).heap[g]? = some (.cells (hexRow M n (k + 1)).toArray t) := by
  rw [Go.Joins.block_setCell hr, List.setIfInBounds_toArray, hv, hx, hexRow_set M n k j h]
theorem hex_end {w : World} {g M n k j : Nat} {t : TypeId} (hr : w.heap[g]? = some (.cells (hexRow M n k).toArray t)) (h : k + j = M) : ∀ i (hi : i < (hexL k n).length), w.cell? ((⟨g, j, none⟩ : Addr).add i) = some (.int .u8 ((hexL k n)[i].toNat : Int)) := by
  intro i hi
  rw [addr_lit_add, Go.Joins.cell_of_block hr]
  simpa using hexRow_end M n k j i h hi
end Go.Fl
namespace Go.Proofs.YtdhpaglcggeknaaGreatDoor
open Go.RowKit Go.Fl
theorem c_tz16 (w : World) (hT : w.cell? ⟨8, 15, none⟩ = some (.int .u8 4)) : Calls Tryz.prog 110 #[.int .u64 16] w fun e w' => e = .returned (.int .i64 4) ∧ w' = w := by
  have e1 : IntKind.u64.wrap (bits BinOp.and IntKind.u64 16 (IntKind.u64.wrap (-16)) * 285870213051353865) / 288230376151711744 = 15 := by decide +kernel
  go_enter Tryz.func110, Tryz.ntmps110
  go_wp2
  go_ret
  exact ⟨rfl, rfl⟩
theorem zero65 : Tryz.zeroCells147 = (hexRow 65 0 0).toArray := by kernel_rfl
set_option maxRecDepth 20000 in
set_option maxHeartbeats 1000000 in
theorem c_formatBits (n : Nat) (hn : n < 4294967296) (w : World) (hT : w.cell? ⟨8, 15, none⟩ = some (.int .u8 4)) (hG : 8 < w.heap.size) :
    Calls Tryz.prog 97 #[.slice none 0 0, .int .u64 n, .int .i64 16, .bool false, .bool false] w fun e w' => ∃ m, (1 ≤ m ∧ m ≤ 8 ∧ n < 16 ^ m) ∧ e = .returned (.tuple #[.slice none 0 0, .string (bs (hexL m n))]) ∧ Below w.heap.size w w' := by
  have hT2 : ∀ o, (w.alloc o).cell? ⟨8, 15, none⟩ = some (.int .u8 4) := fun o => by
    rw [((Below.refl w.heap.size w).alloc (Nat.le_refl _) o).cell (p := ⟨8, 15, none⟩) hG]; exact hT
  have HT := Lib.hid hT2; clear hT hT2
  have HN := Lib.hid hn; clear hn
  go_enter Tryz.func97, Tryz.ntmps97
  go_wp2_with (first | (go_at_call 110; refine (c_tz16 _ (HT.out _)).mono ?_; rintro e w1 ⟨rfl, hww⟩; obtain rfl := hww.symm) | go_in)
  go_loopw [1, 13] (fun u i wr => ∃ (k j x : Nat), k + (j + 1) = 65 ∧ k ≤ 7 ∧ Hid (x = n / 16 ^ k ∧ x < 16 ^ (8 - k) ∧ x < 4294967296) ∧ u = .int .u64 (x : Int) ∧ i = .int .i64 ((j + 1 : Nat) : Int) ∧ Row wr w.heap.size (hexRow 65 n k).toArray 147 ∧ Below w.heap.size w wr) (fun u _ _ => (intOf u).toNat)
  case atStart =>
    refine ⟨0, 64, n, rfl, by omega, ⟨by simp, HN.out, HN.out⟩, rfl, rfl, ?_, Go.Joins.below_alloc1 _ _⟩
    have e : hexRow 65 n 0 = hexRow 65 0 0 := rfl
    rw [e, ← zero65]
    exact Row.new _ _ _ _ rfl
  case round =>
    obtain ⟨k, j, x, hkj, hk, HX, rfl, rfl, hr, hb⟩ := hrel
    have hx0 : (0 : Int) ≤ x := by omega
    have hj0 : (0 : Int) ≤ j := by omega
    have hj1 : (j : Int) < 65 := by omega
    have hc0 := hr.cell j (.int .u8 0) (by simpa using hexRow_at 65 n k j hkj)
    have hf0 := hr.free j
    have hval : ∀ (h : x % 16 < dig36.size), Value.int .u8 ((dig36[x % 16]'h).toNat : Int) = byV (hexC (x % 16)) := fun h => by rw [dig36_at (x % 16) (Nat.mod_lt _ (by decide)) h]; rfl
    have HV := Lib.hid hval; clear hval
    have HR := Lib.hid hr
    by_cases hlt : 16 ≤ x
    · have ha := and15 x HX.out.2.2
      have hm : (x % 16 : Nat) < 36 := by omega
      go_wp2
      go_roundw
      case rel =>
        refine ⟨k + 1, j - 1, x / 16, by have := HX.out.2.1; have : k ≠ 7 := (fun e => by subst e; simp at this; omega); omega, ?_, ?_, by go_num, ?_, hex_set hr hkj HX.out.1 (HV.out _), below_setCell hb (Nat.le_refl _) _⟩
        · have h2 := HX.out.2.1
          have h3 : k ≠ 7 := (fun e => by subst e; simp at h2; omega)
          omega
        · obtain ⟨h1, h2, h3⟩ := HX.out
          refine ⟨?_, ?_, by omega⟩
          · rw [h1, Nat.div_div_eq_div_mul, Nat.pow_succ]
          · rw [Nat.div_lt_iff_lt_mul (by decide)]
            have h4 : k ≠ 7 := (fun e => by subst e; simp at h2; omega)
            rw [show 8 - k = (8 - (k + 1)) + 1 from by omega, Nat.pow_succ] at h2
            exact h2
        · have : j ≠ 0 := by omega
          go_num
      case measure => simp [intOf]; omega
    · have hle : (j : Int) ≤ 65 := by omega
      have hne : ¬ (65 = j) := by omega
      have hm : x < 36 := by omega
      have hxm : x % 16 = x := Nat.mod_eq_of_lt (by omega)
      have HV2 : Hid (∀ (h : x < dig36.size), Value.int .u8 ((dig36[x]'h).toNat : Int) = byV (hexC (x % 16))) := fun h => by rw [dig36_at x (by omega) h, hxm]; rfl
      have HL : Hid ((hexL (k + 1) n).length = 65 - j) := Lib.hid (by rw [hexL_length]; omega)
      have HE := Lib.hid (fun v (hv : v = byV (hexC (x % 16))) => hex_end (hex_set (j := j) HR.out hkj HX.out.1 hv) (show (k + 1) + j = 65 from by omega))
      clear hxm
      go_wp2_with (refine wpList_bytes_back rfl 105 9 5 _ rfl _ _ _ (hexL (k + 1) n) HL.out rfl Tryz.underlying105 Tryz.underlying5 Tryz.underlying9 (HE.out _ (HV2.out _)) ?_)
      go_ret2
      refine ⟨k + 1, ⟨by omega, by omega, ?_⟩, rfl, below_setCell hb (Nat.le_refl _) _⟩
      have h1 := HX.out.1
      rw [Nat.pow_succ, Nat.mul_comm, ← Nat.div_lt_iff_lt_mul (Nat.pow_pos (by decide)), ← h1]
      omega
end Go.Proofs.YtdhpaglcggeknaaGreatDoor
