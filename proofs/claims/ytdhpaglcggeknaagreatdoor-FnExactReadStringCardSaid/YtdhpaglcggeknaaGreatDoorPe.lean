/- The texts of samples, in the program and in the reference. No condition. -/
import Derived.Test.YtdhpaglcggeknaaGreatDoorPd
import Derived.Test.YtdhpaglcggeknaaGreatDoorOg
import Derived.Test.YtdhpaglcggeknaaGreatDoorTf
import Derived.Lib.Join
namespace Go.Proofs.YtdhpaglcggeknaaGreatDoor
open Go.RowKit Go.Fl
/-- The text of samples. -/
def smT (xs : List Nat) : List UInt8 := Lib.join (xs.map hexT8) [32]
theorem smT_cons (x : Nat) (r : List Nat) : smT (x :: r) = hexT8 x ++ Lib.joinTail [32] (r.map hexT8) := Lib.join_cons _ _ _
theorem smT_one (x : Nat) : smT [x] = hexT8 x := Lib.join_one _ _
theorem joinTail_snoc (sep : List UInt8) (r : List (List UInt8)) (y : List UInt8) : Lib.joinTail sep (r ++ [y]) = Lib.joinTail sep r ++ (sep ++ y) := by
  simp [Lib.joinTail]
theorem smT_snoc (xs : List Nat) (y : Nat) (h : xs ≠ []) : smT (xs ++ [y]) = smT xs ++ ([32] ++ hexT8 y) := by
  match xs, h with
  | x :: r, _ =>
    rw [List.cons_append, smT_cons, smT_cons, List.map_append, List.map_cons, List.map_nil, joinTail_snoc, List.append_assoc]
theorem joinTail_length : ∀ r : List Nat, (Lib.joinTail [32] (r.map hexT8)).length = 9 * r.length
  | [] => rfl
  | x :: r => by
    have ih := joinTail_length r
    unfold Lib.joinTail at ih ⊢
    simp only [List.map_cons, List.flatten_cons, List.length_append, List.length_cons, List.length_nil, hexT8_length] at ih ⊢
    rw [ih]; omega
theorem smT_length (xs : List Nat) : (smT xs).length ≤ 9 * xs.length := by
  match xs with
  | [] => simp [smT, Lib.join_nil]
  | x :: r => rw [smT_cons, List.length_append, joinTail_length, hexT8_length, List.length_cons]; omega
theorem take_snoc_nth (xs : List Nat) (k : Nat) (h : k < xs.length) : xs.take (k + 1) = xs.take k ++ [nth xs k] := by
  rw [List.take_succ_eq_append_getElem h]
  simp [nth, h]
def txV (x : Nat) : Value := .string (bs (hexT8 x))
theorem c_join (g d n : Nat) (xs : List Nat) (w : World) (hn : xs.length = n) (hl : n ≤ 1048576) (hcap : n ≤ d) (hg : g < w.heap.size) (hc : ∀ j v, (xs.map txV)[j]? = some v → w.cell? ⟨g, j, none⟩ = some v) :
    Calls Tryz.prog 64 #[.slice (some ⟨g, 0, none⟩) n d, .string ⟨#[32]⟩] w fun e w' => e = .returned (.string (bs (smT xs))) ∧ Below w.heap.size w w' := by
  have hM : (xs.map fun x => bs (hexT8 x)).map (·.data.toList) = xs.map hexT8 := by rw [List.map_map]; rfl
  have hL : (xs.map fun x => bs (hexT8 x)).length = n := by rw [List.length_map]; exact hn
  have := Tryz.strings_Join g 0 d (xs.map fun x => bs (hexT8 x)) ⟨#[32]⟩ w (fun j y hy => by
      rw [Nat.zero_add]
      refine hc j _ ?_
      rw [List.getElem?_map] at hy ⊢
      cases hq : xs[j]? with
      | none => rw [hq] at hy; cases hy
      | some q => rw [hq] at hy; cases hy; rfl) hg (by rw [hL]; omega) (by rw [hL]; exact hcap) (by
        rw [hM]
        have := smT_length xs
        unfold smT at this
        show (Lib.join (xs.map hexT8) [32]).length ≤ _
        omega)
  rw [hL] at this
  refine this.mono fun e w' ⟨he, hb⟩ => ⟨he.trans ?_, hb⟩
  rw [hM]
  rfl
theorem info_stre : (Tryz.prog.info? 9).map (fun i => (i.zero, i.size, i.bytes)) = some (some (.string ⟨#[]⟩), 1, 16) := by kernel_rfl
set_option maxRecDepth 20000 in
set_option maxHeartbeats 1000000 in
theorem c_samplesText (A : Option Addr) (c n : Nat) (xs : List Nat) (w : World) (hs : Sl w A xs) (hn : xs.length = n) (h1 : 1 ≤ n) (hl : n ≤ 1048576) (hx : ∀ k, k < n → nth xs k < 4294967296) (hT : Tz w) :
    Calls Tryz.prog 39 #[.slice A n c] w fun e w' => e = .returned (.string (bs (smT xs))) ∧ Below w.heap.size w w' := by
  have HS := Lib.hid hs; have HX := Lib.hid hx; have HT := Lib.hid hT; have HN := Lib.hid hn; clear hs hx hT hn
  go_enter Tryz.func39, Tryz.ntmps39
  go_wp2
  go_loopw [3, 8] (fun v i wr => ∃ (k : Nat) (W : Option Addr) (d : Nat), k ≤ n ∧ i = .int .i64 k ∧ v = .slice W k d ∧ OwnR wr w.heap.size W d k ((xs.take k).map txV) 9 1 ∧ Below w.heap.size w wr) (fun _ i _ => n - (intOf i).toNat)
  case atStart => exact ⟨0, none, 0, by omega, rfl, rfl, OwnR.nil _ _ _ _, Below.refl _ _⟩
  case round =>
    obtain ⟨k, W, d, hk, rfl, rfl, ho, hb⟩ := hrel
    have HO := Lib.hid ho; clear ho
    by_cases hlt : k < n
    · obtain ⟨ad, rfl, hbl, hc⟩ := (HS.out.below hb).at_ (k := k) (by rw [HN.out]; exact hlt)
      have hi : (0 : Int) ≤ k := by omega
      have hi2 : (k : Int) < n := by omega
      have hi3 : (n : Int) ≤ 1048576 := by omega
      have HB := Lib.hid hb; clear hb
      have HZ := Lib.hid (HX.out k hlt)
      have HTS := Lib.hid (take_snoc_nth xs k (by rw [HN.out]; exact hlt))
      generalize nth xs k = x at *
      go_wp2_with fail
      refine (c_bitsText _ HZ.out _ (HT.out.on HB.out)).mono ?_; rintro e w1 ⟨rfl, b⟩
      replace HO := Lib.hid (HO.out.below b (Nat.le_refl _)); replace HB := Lib.hid (seq_below HB.out b); clear b
      have HSZ := Lib.hid HB.out.size
      go_wp2_with (at_builtin; refine wpList_append_oneR rfl _ _ 37 rfl w.heap.size 9 (.string ⟨#[]⟩) 1 16 Tryz.underlying37 info_stre rfl (by decide) rfl HO.out [.string (bs (hexT8 x))] rfl (by simp [Value.oneCell']) rfl (by omega) (by decide) HSZ.out ?_; intro A2 c2 w2 ho2 hg2 _; have HO2 := Lib.hid ho2; have HG2 := Lib.hid hg2; clear ho2 hg2)
      go_roundw
      case rel => exact ⟨k + 1, A2, c2, by omega, by go_num, rfl, by rw [HTS.out, List.map_append]; exact HO2.out, HB.out.grown HG2.out HSZ.out HO.out.ge⟩
      case measure => simp [intOf]; omega
    · have e : k = n := by omega
      subst e
      obtain ⟨g, rfl, hg1, hg2⟩ := HO.out.head h1
      have HC : Hid (∀ j v, (xs.map txV)[j]? = some v → wr.cell? ⟨g, j, none⟩ = some v) := fun j v hv => by
        refine HO.out.cell j _ ?_
        rw [List.take_of_length_le (by rw [HN.out]; exact Nat.le_refl _)]
        exact hv
      have HCap := Lib.hid HO.out.cap
      have hk0 : (0 : Int) ≤ k := by omega
      go_wp2_with fail
      refine (c_join g d _ xs _ HN.out hl HCap.out hg2 HC.out).mono ?_; rintro e w1 ⟨rfl, b⟩
      have HB := Lib.hid (seq_below hb b); clear b hb
      go_wp2_with fail
      go_ret
      exact ⟨rfl, HB.out⟩
end Go.Proofs.YtdhpaglcggeknaaGreatDoor
