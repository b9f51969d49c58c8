/- BlocksOf, in the program: a range over slices.Chunk. No condition. -/
import Derived.RangeFuncNested
import Derived.RangeFuncBound
import Derived.RangeFuncCalls
import Derived.RangeFuncLeaves
import Derived.RangeFuncBox
import Derived.Shelf.Abstract
import Derived.Shelf.RegionOpen
import Derived.WalkKit
import Derived.OwnWalkIn
import Derived.TacticsInMore
import Derived.LoopNIn
import Derived.LoopIn
import Derived.Maps.AppendAt
import Derived.Test.YtldkfpaigeoppaaKi
namespace Go.Proofs.Ytldkfpaigeoppaa
open Go.RowKit Go.Fl Go.Shelf
attribute [local go_sem] Oper.semAt_some
set_option maxHeartbeats 1000000 in
/-- slices.Chunk boxes its two arguments. -/
theorem chunk_in (n : Nat) (A : Option Addr) (len cap : Nat) (w : World) :
    CallsIn Fence.wide n Try.prog 30 #[.slice A len cap, .int .i64 16] w fun e w' => e = .returned (.func (.func 39) #[] #[.pointer (some ⟨w.heap.size, 0, none⟩), .pointer (some ⟨w.heap.size + 1, 0, none⟩)]) ∧ w' = (w.alloc (.cells #[.slice A len cap] 22)).alloc (.cells #[.int .i64 16] 3) := by
  refine callsIn_of_wp Try.func30 rfl trivial ?_ rfl
  simp only [Try.ntmps30, List.size_toArray, List.length_cons, List.length_nil, Nat.reduceAdd, Nat.reduceSub, Array.replicate_succ, Array.replicate_zero, List.push_toArray, List.append_toArray, List.nil_append, List.cons_append]
  gi_wp2
  go_ret
  exact ⟨rfl, rfl⟩
/-- What a round must leave. -/
def KpB (Bs Bn : Nat) (W W' : World) : Prop := W'.heap[Bs]? = W.heap[Bs]? ∧ W'.heap[Bn]? = W.heap[Bn]?
/-- Part p of the samples. -/
def encP (ad : Addr) (len p : Nat) : Array Value := #[.slice (some (ad.add (16 * p))) (min 16 (len - 16 * p)) (min 16 (len - 16 * p))]
set_option maxRecDepth 100000 in
set_option maxHeartbeats 2000000 in
theorem chunk1_in (n : Nat) (hn : 1 ≤ n) (l Bs Bn len cap : Nat) (ad : Addr) (hlen : (len : Int) ≤ 4096) (hcap : (len : Int) ≤ cap) (J Jx : List Nat → World → Prop) (hJd : ∀ pre W m, J pre W → J pre (W.drewN m))
    (hY : ∀ pre x W, J pre W → pre.length < (len + 15) / 16 → YieldAt Fence.wide (n - 1) Try.prog l (encP ad len x) W fun e W' =>
      (e = .returned (.bool true) ∧ J (pre ++ [x]) W' ∧ KpB Bs Bn W W') ∨ (e = .returned (.bool false) ∧ Jx (pre ++ [x]) W'))
    (W : World) (hBs : W.cell? ⟨Bs, 0, none⟩ = some (.slice (some ad) len cap)) (hBn : W.cell? ⟨Bn, 0, none⟩ = some (.int .i64 16)) (h0 : J [] W) :
    CallsIn Fence.wide n Try.prog 39 #[.func (.yield l) #[] #[], .pointer (some ⟨Bs, 0, none⟩), .pointer (some ⟨Bn, 0, none⟩)] W fun e W' => (∃ v, e = .returned v) ∧
      ((∃ ys, ys = List.range ((len + 15) / 16) ∧ J ys W') ∨ (∃ pre, (∃ k, k ≤ (len + 15) / 16 ∧ pre = List.range k) ∧ Jx pre W')) := by
  refine callsIn_of_wp Try.func39 rfl trivial ?_ rfl
  simp only [Try.ntmps39, List.size_toArray, List.length_cons, List.length_nil, Nat.reduceAdd, Nat.reduceSub, Array.replicate_succ, Array.replicate_zero, List.push_toArray, List.append_toArray, List.nil_append, List.cons_append]
  have hm0 : (0 : Int) ≤ len := by omega
  gi_wp2
  gi_loopw [4] (fun i wr => ∃ k : Nat, 16 * k ≤ len + 15 ∧ i = .int .i64 (16 * (k : Int)) ∧ Hid (J (List.range k) wr) ∧ Hid (KpB Bs Bn W wr))
    (fun i _ => len + 15 - (intOf i).toNat)
  case atStart => exact ⟨0, by omega, rfl, h0, rfl, rfl⟩
  case round =>
    obtain ⟨k, hk, rfl, HJ, HK⟩ := hrel
    have b1 : wr.cell? ⟨Bs, 0, none⟩ = some (.slice (some ad) len cap) := by rw [World.cell?_of_block (w := W) HK.out.1]; exact hBs
    have b2 : wr.cell? ⟨Bn, 0, none⟩ = some (.int .i64 16) := by rw [World.cell?_of_block (w := W) HK.out.2]; exact hBn
    have hk0 : (0 : Int) ≤ 16 * (k : Int) := by omega
    by_cases hlt : 16 * k < len
    · have hlt2 : 16 * (k : Int) < len := by omega
      have HP := Lib.hid (show (List.range k).length < (len + 15) / 16 from by rw [List.length_range]; omega)
      by_cases h16 : 16 ≤ len - 16 * k
      · have e1 : min 16 (len - 16 * k) = 16 := by omega
        have hs1 : (16 : Int) ≤ len - 16 * (k : Int) := by omega
        gi_wp2
        gi_quiet (fail)
        obtain ⟨fn, tmps, assign, body, hy, hR⟩ := hY _ k (wr.drewN nq) (hJd _ _ _ HJ.out) HP.out
        unfold encP at hy
        rw [e1] at hy
        have HR := Lib.hid hR; clear hR
        gi_wp2
        refine HR.out.mono ?_
        rintro e W3 (⟨rfl, hJ3, hk3⟩ | ⟨rfl, hJx3⟩)
        · have HJ3 := Lib.hid hJ3
          have HK3 : Hid (KpB Bs Bn W W3) := Lib.hid ⟨hk3.1.trans HK.out.1, hk3.2.trans HK.out.2⟩
          clear hJ3 hk3
          have b3 : W3.cell? ⟨Bn, 0, none⟩ = some (.int .i64 16) := by rw [World.cell?_of_block (w := W) HK3.out.2]; exact hBn
          gi_wp2
          go_roundw
          case rel => exact ⟨k + 1, by omega, by go_num, by rw [List.range_succ]; exact HJ3.out, HK3.out⟩
          case measure => simp [intOf]; omega
        · gi_wp2
          refine bodyPost_ret (results_none rfl _ _ _) rfl ?_
          exact ⟨⟨_, rfl⟩, .inr ⟨_, ⟨k + 1, by omega, (List.range_succ ..).symm⟩, hJx3⟩⟩
      · have e1 : min 16 (len - 16 * k) = len - 16 * k := by omega
        have hs1 : ¬ (16 : Int) ≤ ((len - 16 * k : Nat) : Int) := by omega
        have hs2 : ((len - 16 * k : Nat) : Int) < 16 := by omega
        have hs3 : ((len - 16 * k : Nat) : Int) = len - 16 * (k : Int) := by omega
        have hs4 : (len : Int) - 16 * (k : Int) < 16 := by omega
        gi_wp2
        gi_quiet (fail)
        obtain ⟨fn, tmps, assign, body, hy, hR⟩ := hY _ k (wr.drewN nq) (hJd _ _ _ HJ.out) HP.out
        unfold encP at hy
        rw [e1] at hy
        have HR := Lib.hid hR; clear hR
        gi_wp2
        refine HR.out.mono ?_
        rintro e W3 (⟨rfl, hJ3, hk3⟩ | ⟨rfl, hJx3⟩)
        · have HJ3 := Lib.hid hJ3
          have HK3 : Hid (KpB Bs Bn W W3) := Lib.hid ⟨hk3.1.trans HK.out.1, hk3.2.trans HK.out.2⟩
          clear hJ3 hk3
          have b3 : W3.cell? ⟨Bn, 0, none⟩ = some (.int .i64 16) := by rw [World.cell?_of_block (w := W) HK3.out.2]; exact hBn
          gi_wp2
          go_roundw
          case rel => exact ⟨k + 1, by omega, by go_num, by rw [List.range_succ]; exact HJ3.out, HK3.out⟩
          case measure => simp [intOf]; omega
        · gi_wp2
          refine bodyPost_ret (results_none rfl _ _ _) rfl ?_
          exact ⟨⟨_, rfl⟩, .inr ⟨_, ⟨k + 1, by omega, (List.range_succ ..).symm⟩, hJx3⟩⟩
    · have e : (len + 15) / 16 = k := by omega
      gi_wp2
      go_end0
      exact ⟨⟨_, rfl⟩, .inl ⟨_, rfl, by rw [e]; exact HJ.out⟩⟩

theorem kpB_t {Bs Bn : Nat} {A B C : World} (h : KpB Bs Bn A B) (k : KpB Bs Bn B C) : KpB Bs Bn A C := ⟨k.1.trans h.1, k.2.trans h.2⟩
theorem grown_drewN (W : World) (m : Nat) : W.grownBy (W.drewN m) none := grownBy_below (row := none) (below_drewN (Below.refl W.heap.size W) m)
/-- slices.Chunk's function: all parts, in order. -/
theorem chunk_stops (n : Nat) (hn : 1 ≤ n) (Bs Bn len cap : Nat) (ad : Addr) (hlen : (len : Int) ≤ 4096) (hcap : (len : Int) ≤ cap) (w : World) (h1 : Bs < w.heap.size) (h2 : Bn < w.heap.size)
    (hBs : w.cell? ⟨Bs, 0, none⟩ = some (.slice (some ad) len cap)) (hBn : w.cell? ⟨Bn, 0, none⟩ = some (.int .i64 16)) :
    SeqStopsK Fence.wide n Try.prog 39 #[.pointer (some ⟨Bs, 0, none⟩), .pointer (some ⟨Bn, 0, none⟩)] (encP ad len) (KpB Bs Bn) (fun ys => ys = List.range ((len + 15) / 16)) (fun pre => ∃ k, k ≤ (len + 15) / 16 ∧ pre = List.range k) ((len + 15) / 16) w := fun l J Jx W hW hJ _ hY h0 =>
  chunk1_in n hn l Bs Bn len cap ad hlen hcap J Jx (fun pre W' m hj => hJ pre W' _ none hj (grown_drewN W' m) (fun r e => by cases e)) hY W ((hW.cell (p := ⟨Bs, 0, none⟩) h1).trans hBs) ((hW.cell (p := ⟨Bn, 0, none⟩) h2).trans hBn) h0
section
variable {F : Fence} {n : Nat} {P : Program} {ops : Array Oper} {rest : List Oper} {o : Oper} {a : Act} {w : World} {Q : Exit → Act → World → Prop}
theorem wpListIn_load_row16 (hgd : o.guard = none) (ty : TypeId) (x : Operand) (ho : o.op = .load ty x) (g : Nat) (hx : a.eval x = .pointer (some ⟨g, 0, none⟩)) {xs : List Nat} {t : TypeId} (hb : w.heap[g]? = some (.cells (fl xs) t)) {e : TypeId}
    (hu : P.underlying ty = some (.array 16 e)) (hi : (P.info? ty).map (·.size) = some 16) (hl : xs.length = 16) (hK : wpListIn F n P ops Q rest (a.put o.dst (.agg (fl xs))) w) : wpListIn F n P ops Q (o :: rest) a w := by
  refine wpListIn_plain hgd fun K hK' => ?_
  have hr := run_loadVar_row w g t ty (fl xs) (0, 0) _ hb hu rfl (by rw [hi, fl_size, hl])
  unfold Oper.wpIn
  refine ⟨by simp [Oper.about, ho], ?_⟩
  rw [Oper.semAt_plain F _ _ (by rw [ho]; intro c hc'; cases hc')]
  unfold execOp
  simp only [ho, hx, Instr.loadAt, Instr.sureAddr, Sem.run_bind, Sem.run_pure, Result.andThen_ok, hr]
  exact hK' _ _ hK
/-- Part p copied into a block of zeros. -/
theorem wpListIn_copy_part (hgd : o.guard = none) (d s : Operand) (dT sT : TypeId) (ho : o.op = .call { callee := .builtin .copy, args := #[d, s], argTypes := #[dT, sT] }) (elem : TypeId) (hu : P.underlying dT = some (.slice elem)) (hsz : (P.info? elem).map (·.size) = some 1)
    (g : Nat) (ad : Addr) (xs : List Nat) (p : Nat) (hd : a.eval d = .slice (some ⟨g, 0, none⟩) 16 16) (hs : a.eval s = .slice (some (ad.add (16 * p))) (min 16 (xs.length - 16 * p)) (min 16 (xs.length - 16 * p)))
    {t : TypeId} (hg : w.heap[g]? = some (.cells (fl (List.replicate 16 0)) t)) (hsl : Sl w (some ad) xs)
    (hK : ∀ w', w.grownBy w' (some g) → w'.heap[g]? = some (.cells (fl (fullB xs p)) t) → wpListIn F n P ops Q rest (a.put o.dst (goInt (partB xs p).length)) w') : wpListIn F n P ops Q (o :: rest) a w := by
  refine wpListIn_plain hgd fun K hK' => ?_
  have hl := partB_length xs p
  have hz : (fl (List.replicate 16 0)).size = 16 := by rw [fl_size, List.length_replicate]
  have hr := run_copy_row (P := P) w dT sT o.type elem g 0 16 16 (ad.add (16 * p)) (min 16 (xs.length - 16 * p)) (min 16 (xs.length - 16 * p)) (fl (List.replicate 16 0)) t (fll (partB xs p)) hu hsz hg (by rw [fll_len, hl]; show min 16 _ = min (min 16 _) 16; omega) (fun j v hv => by
    have hj : j < (partB xs p).length := by have := (List.getElem?_eq_some_iff.1 hv).1; rwa [fll_len] at this
    rw [fll_get _ _ hj] at hv
    obtain rfl := Option.some.inj hv
    obtain ⟨ad2, e, _, hc⟩ := hsl.at_ (k := 16 * p + j) (by omega)
    cases e
    rw [addr_add_add, hc]
    congr 2
    unfold partB nth
    simp only [List.getD_eq_getElem?_getD]
    rw [List.getElem?_take_of_lt (by omega), List.getElem?_drop]) (by rw [fll_len, hz, hl]; omega) (fll_one _)
  have e : ((fl (List.replicate 16 0)).toList.take 0 ++ fll (partB xs p) ++ (fl (List.replicate 16 0)).toList.drop (0 + (fll (partB xs p)).length)).toArray = fl (fullB xs p) := by
    have h0 : (fl (List.replicate 16 0)).toList = fll (List.replicate 16 0) := rfl
    rw [h0, List.take_zero, List.nil_append, Nat.zero_add, fll_len]
    unfold fl fullB fll
    rw [List.map_append, ← List.map_drop, List.drop_replicate]
  rw [e, fll_len] at hr
  unfold Oper.wpIn
  refine ⟨by simp [Oper.about, ho, resolve, Target.leads, Sem.run_pure], ?_⟩
  rw [Oper.semAt_plain F _ _ (by rw [ho]; intro c hc'; cases hc')]
  simp [execOp, ho, resolve, invoke, builtin, hd, hs, hr, Result.andThen]
  exact hK' _ _ (hK _ ⟨rfl, rfl, rfl, by simp, fun k _ hn => setRow_other w g k _ (fun e => hn (by rw [e]))⟩ (setRow_heap w g _ _ t _ hg))
end
end Go.Proofs.Ytldkfpaigeoppaa
