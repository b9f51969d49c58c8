/- The samples of blocks: contracts. No condition. -/
import Derived.Test.YtboffmlhoddopaaKb
import Derived.Test.YtboffmlhoddopaaC9
import Derived.Test.YtboffmlhoddopaaTf
namespace Go.Fl
open Go.RowKit
theorem Own.cut {w : World} {base : Nat} {A : Option Addr} {c : Nat} {xs : List Nat} {t : TypeId} (h : Own w base A c xs t) (k : Nat) : Own w base A c (xs.take k) t := by
  refine ⟨h.1, ?_⟩
  rcases h.2 with ⟨h1, h2, h3⟩ | ⟨g, r, h1, h2, h3, h4⟩
  · exact .inl ⟨h1, by rw [h2]; simp, h3⟩
  · refine .inr ⟨g, fll (xs.drop k) ++ r, h1, h2, ?_, ?_⟩
    · unfold PreR at *
      rw [← List.append_assoc, ← fll_append, List.take_append_drop]; exact h3
    · rw [List.length_append, fll_length, List.length_take, List.length_drop]; omega
theorem take_blk (xs : List Nat) (k : Nat) : xs.take (16 * k) ++ blk16 xs k = xs.take (16 * (k + 1)) := by
  rw [show 16 * (k + 1) = 16 * k + 16 from by omega, List.take_add]; rfl
theorem wpList_append_sl_n {P : Program} {ops : Array Oper} {rest : List Oper} {w : World} {o : Oper} {a : Act} {Q : Exit → Act → World → Prop} (hgd : o.guard = none) (s x : Operand) (t : TypeId)
    (ho : o.op = .call { callee := .builtin .append, args := #[s, x], argTypes := #[t, t] }) (base : Nat) (e : TypeId) (ht : P.underlying t = some (.slice e)) (hinfo : (P.info? e).map (fun i => (i.zero, i.size, i.bytes)) = some (some (.float .f32 0), 1, 4))
    {A : Option Addr} {c n : Nat} {xs : List Nat} (hn : xs.length = n) (hs : a.eval s = .slice A n c) (hown : Own w base A c xs e) {ad : Addr} {d m : Nat} {ys : List Nat} (hm : ys.length = m) (hx : a.eval x = .slice (some ad) m d) (hsl : Sl w (some ad) ys)
    (h63 : n + m ≤ 16777216) (hbase : base ≤ w.heap.size)
    (h : ∀ A' c' w', Own w' base A' c' (xs ++ ys) e → w.grownBy w' (ownBlk A) → wpList P ops Q rest (a.put o.dst (.slice A' (n + m) c')) w') : wpList P ops Q (o :: rest) a w :=
  wpList_plain hgd fun _ hK => wp_append_sl_n s x t ho base e ht hinfo hn hs hown hm hx hsl h63 hbase fun A' c' w' h2 h3 _ => hK _ _ (h A' c' w' h2 h3)
end Go.Fl
namespace Go.Proofs.Ytboffmlhoddopaa
open Go.RowKit Go.Fl
theorem c_lengthB (A : Option Addr) (n c : Nat) (w : World) : Calls Try.prog 77 #[.slice A n c] w fun e w' => e = .returned (.int .i64 (n : Int)) ∧ w' = w := by
  go_enter Try.func77, Try.ntmps77
  go_wp2
  go_ret
  exact ⟨rfl, rfl⟩
theorem c_iSamplesOf_lim (A : Option Addr) (c n : Nat) (m : Int) (w : World) (h : 4096 < 16 * (n : Int)) (hl : (n : Int) ≤ 1048576) : Calls Try.prog 52 #[.slice A n c, .int .i64 m] w fun e w' => e = .returned (.tuple #[.slice none 0 0, .int .i64 3]) ∧ w' = w := by
  go_enter Try.func52, Try.ntmps52
  go_wp2
  go_ret2
  exact ⟨rfl, rfl⟩
theorem c_iSamplesOf_far (A : Option Addr) (c n : Nat) (m : Int) (w : World) (h : 16 * (n : Int) ≤ 4096) (hv : inB m 0 (16 * (n : Int)) = false) : Calls Try.prog 52 #[.slice A n c, .int .i64 m] w fun e w' => e = .returned (.tuple #[.slice none 0 0, .int .i64 2]) ∧ w' = w := by
  have HV := Lib.hid hv; clear hv
  go_enter Try.func52, Try.ntmps52
  go_wp2_with fail
  refine (c_lengthB _ _ _ _).mono ?_; rintro e w1 ⟨rfl, hww⟩; obtain rfl := hww.symm; clear hww
  go_wp2_with fail
  refine (c_within _ _ _ _ _ HV.out).mono ?_; rintro e w1 ⟨rfl, hww⟩; obtain rfl := hww.symm; clear hww
  go_wp2_with fail
  go_ret2
  exact ⟨rfl, rfl⟩
set_option maxRecDepth 20000 in
set_option maxHeartbeats 1000000 in
theorem c_iSamplesOf (A : Option Addr) (c n m : Nat) (xs : List Nat) (w : World) (hs : Sl w A xs) (hx : xs.length = 16 * n) (h : 16 * (n : Int) ≤ 4096) (hv : inB (m : Int) 0 (16 * (n : Int)) = true) :
    Calls Try.prog 52 #[.slice A n c, .int .i64 (m : Int)] w fun e w' => ∃ B d, e = .returned (.tuple #[.slice B m d, .int .i64 0]) ∧ Own w' w.heap.size B d (xs.take m) 22 ∧ Below w.heap.size w w' := by
  obtain ⟨h1, h2⟩ := inB_true' hv
  have HV := Lib.hid hv; have HS := Lib.hid hs; have HX := Lib.hid hx; clear hv hs hx
  go_enter Try.func52, Try.ntmps52
  go_wp2_with fail
  refine (c_lengthB _ _ _ _).mono ?_; rintro e w1 ⟨rfl, hww⟩; obtain rfl := hww.symm; clear hww
  go_wp2_with fail
  refine (c_within _ _ _ _ _ HV.out).mono ?_; rintro e w1 ⟨rfl, hww⟩; obtain rfl := hww.symm; clear hww
  go_wp2_with fail
  go_loopw [6, 23] (fun v i wr => ∃ (k : Nat) (B : Option Addr) (d : Nat), k ≤ n ∧ i = .int .i64 k ∧ v = .slice B (16 * k) d ∧ Own wr w.heap.size B d (xs.take (16 * k)) 22 ∧ Below w.heap.size w wr) (fun _ i _ => n - (intOf i).toNat)
  case atStart => exact ⟨0, none, 0, by omega, rfl, rfl, ⟨by simp [maxLen], .inl ⟨rfl, rfl, rfl⟩⟩, Below.refl _ _⟩
  case round =>
    obtain ⟨k, B, d, hk, rfl, rfl, ho, hb⟩ := hrel
    have HSZ := Lib.hid hb.size
    by_cases hlt : k < n
    · obtain ⟨ad, rfl, hbl, _⟩ := (HS.out.below hb).at_ (k := 16 * k) (by rw [HX.out]; omega)
      have hi : (0 : Int) ≤ k := by omega
      have hi2 : (k : Int) < n := by omega
      have HO := Lib.hid ho; clear ho
      go_wp2_with (first
        | (refine wpList_load_blk16 rfl 92 _ rfl ad k rfl (HS.out.below hb) HX.out hlt Try.underlying92 info_blk ?_)
        | (refine wpList_store_last rfl 92 _ _ rfl rfl rfl (List.replicate 16 0) rfl info_blk (blk16_length HX.out hlt) rfl (fun w3 b3 hrS => ?_); have HB := Lib.hid (seq_below hb b3); have HO3 := Lib.hid (HO.out.below b3 (Nat.le_refl _)))
        | (at_builtin; refine wpList_append_sl_n rfl _ _ 37 rfl w.heap.size 22 Try.underlying37 info_f32e (by rw [List.length_take, HX.out]; omega) rfl HO3.out (blk16_length HX.out hlt) rfl (Sl.of_blk0 hrS) (by omega) HB.out.size ?_; intro A2 c2 w2 ho2' hg2'; have HO2 := Lib.hid ho2'; have HG2 := Lib.hid hg2'; clear ho2' hg2'))
      go_roundw
      case rel => exact ⟨k + 1, A2, c2, by omega, by go_num, rfl, by rw [← take_blk]; exact HO2.out, HB.out.grown HG2.out HB.out.size HO3.out.ge⟩
      case measure => simp [intOf]; omega
    · have e : k = n := by omega
      subst e
      rcases ho.2 with ⟨rfl, hx0, rfl⟩ | ⟨g, r, rfl, hg, hp, hc⟩
      · have : k = 0 := by
          have := congrArg List.length hx0
          rw [List.length_take, HX.out] at this; simp at this; omega
        subst this
        have hm0 : m = 0 := by omega
        subst hm0
        go_wp2
        go_ret2
        exact ⟨none, 0, rfl, by simpa using ho, hb⟩
      · have hc' : (m : Int) ≤ (d : Int) := by
          rw [List.length_take, HX.out] at hc; omega
        have HO := Lib.hid ho; clear ho hp hc
        go_wp2
        go_ret2
        refine ⟨_, d, rfl, ?_, hb⟩
        have := HO.out.cut m
        rw [List.take_take, Nat.min_eq_left (by omega)] at this
        exact this
end Go.Proofs.Ytboffmlhoddopaa
