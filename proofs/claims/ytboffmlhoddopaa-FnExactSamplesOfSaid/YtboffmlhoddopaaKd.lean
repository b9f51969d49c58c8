/- The samples of blocks: the reference; marks. No condition. -/
import Derived.Test.YtboffmlhoddopaaKc
namespace Go.Proofs.Ytboffmlhoddopaa
open Go.RowKit Go.Fl
theorem take_one (xs : List Nat) (k : Nat) (h : k < xs.length) : xs.take k ++ [nth xs k] = xs.take (k + 1) := by
  rw [List.take_add_one]
  simp [nth, List.getD_eq_getElem?_getD, h]
theorem c_sSamplesOf_lim (A : Option Addr) (c n : Nat) (m : Int) (w : World) (h : 4096 < 16 * (n : Int)) (hl : (n : Int) ≤ 1048576) : Calls Try.prog 50 #[.slice A n c, .int .i64 m] w fun e w' => ∃ g, e = .returned (.tuple #[.slice (some ⟨g, 0, none⟩) 0 0, .int .i64 3]) ∧ Below w.heap.size w w' := by
  go_enter Try.func50, Try.ntmps50
  go_wp2
  go_ret2
  exact ⟨_, rfl, Go.Joins.below_alloc1 _ _⟩
theorem c_sSamplesOf_far (A : Option Addr) (c n : Nat) (m : Int) (w : World) (h : 16 * (n : Int) ≤ 4096) (hv : inB m 0 (16 * (n : Int)) = false) : Calls Try.prog 50 #[.slice A n c, .int .i64 m] w fun e w' => ∃ g, e = .returned (.tuple #[.slice (some ⟨g, 0, none⟩) 0 0, .int .i64 2]) ∧ Below w.heap.size w w' := by
  have HV := Lib.hid hv; clear hv
  go_enter Try.func50, Try.ntmps50
  go_wp2_with fail
  refine (c_l00In _ _ _ _ _ HV.out).mono ?_; rintro e w1 ⟨rfl, hww⟩; obtain rfl := hww.symm; clear hww
  go_wp2_with fail
  go_ret2
  exact ⟨_, rfl, Go.Joins.below_alloc1 _ _⟩
set_option maxRecDepth 20000 in
set_option maxHeartbeats 1000000 in
theorem c_sSamplesOf (A : Option Addr) (c n m : Nat) (xs : List Nat) (w : World) (hs : Sl w A xs) (hx : xs.length = 16 * n) (h : 16 * (n : Int) ≤ 4096) (hv : inB (m : Int) 0 (16 * (n : Int)) = true) :
    Calls Try.prog 50 #[.slice A n c, .int .i64 (m : Int)] w fun e w' => ∃ B d, e = .returned (.tuple #[.slice B m d, .int .i64 0]) ∧ Own w' w.heap.size B d (xs.take m) 22 ∧ Below w.heap.size w w' := by
  obtain ⟨h1, h2⟩ := inB_true' hv
  have HV := Lib.hid hv; have HS := Lib.hid hs; have HX := Lib.hid hx; clear hv hs hx
  have O1 := Lib.hid (Own.of_blk (xs := []) (Blk.newRow w [] #[] 22 _ rfl rfl) (Nat.le_refl _) (by simp [maxLen]))
  go_enter Try.func50, Try.ntmps50
  go_wp2_with fail
  refine (c_l00In _ _ _ _ _ HV.out).mono ?_; rintro e w1 ⟨rfl, hww⟩; obtain rfl := hww.symm; clear hww
  go_wp2_with fail
  go_loopw [6, 7] (fun v i wr => ∃ (k : Nat) (B : Option Addr) (d : Nat), k ≤ m ∧ i = .int .i64 k ∧ v = .slice B k d ∧ Own wr w.heap.size B d (xs.take k) 22 ∧ Below w.heap.size w wr) (fun _ i _ => m - (intOf i).toNat)
  case atStart => exact ⟨0, _, 0, by omega, rfl, rfl, O1.out, Go.Joins.below_alloc1 _ _⟩
  case round =>
    clear O1
    obtain ⟨k, B, d, hk, rfl, rfl, ho, hb⟩ := hrel
    have HSZ := Lib.hid hb.size
    by_cases hlt : k < m
    · obtain ⟨ad, rfl, hbl, c1⟩ := (HS.out.below hb).at_ (k := k) (by rw [HX.out]; omega)
      have hi : (0 : Int) ≤ k := by omega
      have hi2 : (k : Int) < m := by omega
      have HO := Lib.hid ho; clear ho
      have e1 : (k : Int) / 16 = ((k / 16 : Nat) : Int) := by omega
      have d1 : (k : Int).tdiv 16 = ((k / 16 : Nat) : Int) := by rw [Int.tdiv_eq_ediv_of_nonneg hi]; exact e1
      have e2 : (k : Int) % 16 = ((k % 16 : Nat) : Int) := by omega
      have d2 : (k : Int).tmod 16 = ((k % 16 : Nat) : Int) := by rw [Int.tmod_eq_emod_of_nonneg hi]; exact e2
      have d3 : ((k / 16 : Nat) : Int) < (n : Int) := by omega
      have d4 : ((k % 16 : Nat) : Int) < 16 := by omega
      have d5 : (0 : Int) ≤ ((k / 16 : Nat) : Int) := by omega
      have d6 : (0 : Int) ≤ ((k % 16 : Nat) : Int) := by omega
      have c2 : wr.cell? ((ad.add (k / 16 * 16)).add (k % 16)) = some (.float .f32 (nth xs k)) := by
        rw [addr_add_add, show k / 16 * 16 + k % 16 = k from by omega]; exact c1
      generalize k / 16 = p at *
      generalize k % 16 = q at *
      go_wp2_with (at_builtin; refine wpList_append_one rfl _ _ 37 rfl w.heap.size 22 Try.underlying37 info_f32e (by rw [List.length_take, HX.out]; omega) rfl HO.out rfl (by omega) HSZ.out ?_; intro A2 c2 w2 ho2' hg2' _; have HO2 := Lib.hid ho2'; have HG2 := Lib.hid hg2'; clear ho2' hg2')
      go_roundw
      case rel => exact ⟨k + 1, A2, _, by omega, by go_num, rfl, by rw [← take_one xs k (by rw [HX.out]; omega)]; exact HO2.out, hb.grown HG2.out HSZ.out HO.out.ge⟩
      case measure => simp [intOf]; omega
    · have e : k = m := by omega
      subst e
      go_wp2
      go_ret2
      exact ⟨B, d, rfl, ho, hb⟩
end Go.Proofs.Ytboffmlhoddopaa
