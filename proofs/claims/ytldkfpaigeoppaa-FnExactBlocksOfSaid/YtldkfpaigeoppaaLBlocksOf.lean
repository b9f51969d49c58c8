/- The statement Rows.FnExactBlocksOfSaid: the law FnExactBlocksOf returns true for every input, and its arguments read as before. No condition. -/
import Derived.Test.YtldkfpaigeoppaaRows
import Derived.Test.YtldkfpaigeoppaaKm
namespace Go.Proofs.Ytldkfpaigeoppaa.fnExactBlocksOf
open Go.ChangeShapes Go.WideShapes Go.ChangeAt Go.RowKit Go.Fl

set_option maxRecDepth 20000 in
set_option maxHeartbeats 2000000 in
theorem walk_big (w : World) (A : Option Addr) (c : Nat) (xs : List Nat) (hbig : 1048576 < (xs.length : Int)) :
    Calls Try.prog 3 #[.slice A xs.length c] w fun e w' => e = .returned (.bool true) ∧ Below w.heap.size w w' := by
  generalize xs.length = n at *
  go_enter Try.func3, Try.ntmps3
  go_wp2
  go_ret
  exact ⟨rfl, Below.refl _ _⟩
set_option maxRecDepth 20000 in
set_option maxHeartbeats 2000000 in
theorem walk_ok (w : World) (A : Option Addr) (c : Nat) (xs : List Nat) (hs : Sl w A xs) (hn : (xs.length : Int) ≤ 1048576) :
    Calls Try.prog 3 #[.slice A xs.length c] w fun e w' => e = .returned (.bool true) ∧ Below w.heap.size w w' := by
  have hb := Below.refl w.heap.size w
  have HN := Lib.hid (show (xs.length : Int) ≤ 1048576 from hn); have HL := Lib.hid (show xs.length ≤ 1048576 from by omega); have HLB := Lib.hid (show xs.length ≤ 4294967296 from by omega); have HLI := Lib.hid (show (xs.length : Int) ≤ 4294967296 from by omega)
  have hp2 : ¬ (1 + (xs.length : Int) < 0) := by omega
  have HS := Lib.hid hs; clear hs
  go_enter Try.func3, Try.ntmps3
  go_wp2_with fail
  refine (c_toFloat32S _ _ _ _ (HS.out.below hb) HLB.out).mono ?_; rintro e w1 ⟨gZ, rfl, hZ, _, b⟩
  replace hb := seq_below hb b; clear b
  go_wp2_with fail
  refine (cS_any _ _ _ hZ HL.out).mono ?_; rintro e w2 ⟨A1, c1, m, ys, q, rfl, oS, rS, b⟩
  replace hb := seq_below hb b; clear b
  clear hZ; have RS := Lib.hid rS; have HM := Lib.hid rS.len; have HMI := Lib.hid (show (m : Int) ≤ 1048576 from by have := rS.len.2; omega); have hp : ¬ (1 + 16 * (m : Int) < 0) := by omega
  have hqq : (q != q) = false := by simp
  clear rS
  go_wp2_with fail
  refine (c_toFloat32S _ _ _ _ (HS.out.below hb) HLB.out).mono ?_; rintro e w3 ⟨gX, rfl, hX, hgX, b⟩
  have NX1 := Lib.hid (fun (h0 : m ≠ 0) k (hk : ownBlk A1 = some k) => Nat.ne_of_lt (Nat.lt_of_lt_of_le (oS.lt h0 k hk) hgX)); have NXB := Lib.hid (Nat.le_trans hb.size hgX); clear hgX
  replace hb := seq_below hb b; replace oS := oS.below b; clear b
  go_wp2_with fail
  refine (cI_any _ _ _ hX).mono ?_; rintro e w4 ⟨A2, c2, m2, ys2, q2, rfl, oI, rI, b⟩
  have NX2 := Lib.hid (fun (h0 : m2 ≠ 0) k (hk : ownBlk A2 = some k) => Nat.ne_of_gt (Nat.lt_of_lt_of_le hX.lt (oI.ge h0 k hk))); have NB2 := Lib.hid (fun (h0 : m ≠ 0) k (hk : ownBlk A1 = some k) => oS.lt h0 k hk); have HB2 := Lib.hid hb.size; have SZ := b.size
  replace hb := seq_below hb b; replace oS := oS.below b; replace hX := hX.below b hX.lt; clear b
  obtain ⟨e1, e2, e3⟩ := rI.same RS.out
  subst e1; subst e2; subst e3
  clear rI
  go_wp2_with fail
  refine (c_eqBlockS _ _ _ _ _ _ _ _ oI.sl oS.sl HM.out.1 HM.out.1 HM.out.2 (fun _ _ => rfl)).mono ?_; rintro e w5 ⟨rfl, b⟩
  replace hb := seq_below hb b; replace oS := oS.below b; replace hX := hX.below b hX.lt; replace oI := oI.below b; replace SZ := Nat.le_trans SZ b.size; clear b
  go_wp2_with fail
  refine (c_toFloat32S _ _ _ _ (HS.out.below hb) HLB.out).mono ?_; rintro e w6 ⟨gY, rfl, hY, _, b⟩
  replace hb := seq_below hb b; replace oS := oS.below b; replace hX := hX.below b hX.lt; replace oI := oI.below b; replace SZ := Nat.le_trans SZ b.size; clear b
  go_wp2_with fail
  refine (c_eqFloat32S _ _ _ _ _ _ _ (Sl.of_blk hX) (Sl.of_blk hY) rfl HLB.out (fun _ _ => rfl)).mono ?_; rintro e w7 ⟨rfl, b⟩
  replace hb := seq_below hb b; replace oS := oS.below b; replace hX := hX.below b hX.lt; replace oI := oI.below b; replace SZ := Nat.le_trans SZ b.size; replace hY := hY.below b hY.lt; clear b
  clear hY
  go_wp2_with fail
  refine (c_markFloat32S _ _ _ _ _ hX HLI.out (by decide) (by decide)).mono ?_; rintro e w8 ⟨rfl, _, b, hoth⟩
  replace SZ := Nat.le_trans SZ b.size; replace hb := hb.trans (b.mono NXB.out); replace oS := oS.same (fun h0 k hk => hoth k (NX1.out h0 k hk)); replace oI := oI.same (fun h0 k hk => hoth k (NX2.out h0 k hk)); clear b hX NX1 NX2 NXB hoth
  go_wp2_with fail
  refine (c_eqBlockS _ _ _ _ _ _ _ _ oI.sl oS.sl HM.out.1 HM.out.1 HM.out.2 (fun _ _ => rfl)).mono ?_; rintro e w9 ⟨rfl, b⟩
  replace hb := seq_below hb b; replace oS := oS.below b; replace oI := oI.below b; replace SZ := Nat.le_trans SZ b.size; clear b
  go_wp2_with fail
  refine (c_markBlockS_own _ _ _ _ _ _ oI HMI.out).mono ?_; rintro e w10 ⟨rfl, oJ, b⟩
  have b2 := b.mono (Nat.le_min.2 ⟨HB2.out, hb.size⟩); replace oS := oS.same (fun h0 k hk => b.block k (Nat.lt_of_lt_of_le (NB2.out h0 k hk) (Nat.le_min.2 ⟨Nat.le_refl _, SZ⟩))); replace hb := hb.trans b2; clear b b2 oI SZ
  go_wp2_with fail
  refine (c_heldBlockS _ _ _ _ _ oJ HMI.out).mono ?_; rintro e w11 ⟨rfl, b⟩
  replace hb := seq_below hb b; replace oS := oS.below b; replace oJ := oJ.below b; clear b
  go_wp2_with fail
  refine (c_toFloat32S _ _ _ _ (HS.out.below hb) HLB.out).mono ?_; rintro e w12 ⟨gW, rfl, hW, _, b⟩
  replace hb := seq_below hb b; replace oS := oS.below b; replace oJ := oJ.below b; clear b
  go_wp2_with fail
  refine (cI_any _ _ _ hW).mono ?_; rintro e w13 ⟨A3, c3, m3, ys3, q3, rfl, oH, rI, b⟩
  replace hb := seq_below hb b; replace oS := oS.below b; replace oJ := oJ.below b; replace hW := hW.below b hW.lt; clear b
  obtain ⟨e1, e2, e3⟩ := rI.same RS.out
  subst e1; subst e2; subst e3
  clear rI hW
  go_wp2_with fail
  refine (c_eqBlockS _ _ _ _ _ _ _ _ oH.sl oS.sl HM.out.1 HM.out.1 HM.out.2 (fun _ _ => rfl)).mono ?_; rintro e w14 ⟨rfl, b⟩
  replace hb := seq_below hb b; replace oS := oS.below b; replace oJ := oJ.below b; replace oH := oH.below b; clear b
  go_wp2_with fail
  refine (c_heldBlockS _ _ _ _ _ oJ HMI.out).mono ?_; rintro e w15 ⟨rfl, b⟩
  replace hb := seq_below hb b; replace oS := oS.below b; replace oJ := oJ.below b; replace oH := oH.below b; clear b
  go_wp2_with fail
  go_ret
  exact ⟨rfl, hb⟩
theorem walk (w : World) (A : Option Addr) (c : Nat) (xs : List Nat) (hs : Sl w A xs) :
    Calls Try.prog 3 #[.slice A xs.length c] w fun e w' => e = .returned (.bool true) ∧ Below w.heap.size w w' := by
  by_cases hbig : 1048576 < (xs.length : Int)
  · exact walk_big w A c xs hbig
  · exact walk_ok w A c xs hs (by omega)

theorem own : ownKnob Try.prog.godebug = none := by kernel_rfl
theorem laidOut : laidOutB Try.prog = true := by kernel_rfl
set_option maxRecDepth 100000 in
set_option maxHeartbeats 1000000 in
theorem lifted (os : Os) (started : os.Started) (H : Type) (enc : TypeId × Value → H) :
    ReturnsInHanded {} Try.checked os 3 .any (Rows.fnExactBlocksOfSpec.pre6 enc Try.prog Try.f3 [] false) (Rows.fnExactBlocksOfSpec.post enc Try.prog Try.f3 false true false false) := by
  refine law_lifted (C := Try.checked) own started (by kernel_rfl) Try.func3
    (ChangeSpec.witness6 (enc := enc) (C := Try.checked) false ⟨#[], #[.slice none 0 0], []⟩ 8 (by kernel_rfl) (by kernel_rfl) (by kernel_rfl) (by kernel_rfl))
    rfl 1 rfl (fun ds h => by match ds, h with | [d0], _ => exact ⟨rfl, rfl, rfl⟩) laidOut (of_decide_eq_true (by kernel_rfl)) 4 Try.underlying4 rfl ?_
  intro W base args ds p hval hA
  rw [Try.params3] at hA hval
  obtain ⟨v0, d0, rfl, rfl, h0⟩ := trodAll_one hA
  obtain ⟨A0, c0, xs0, rfl, hs0, _, _⟩ := open_f32s Try.underlying22 Try.underlying39 (by kernel_rfl) (hval 0 _ _ rfl rfl) h0
  exact walk W A0 c0 xs0 hs0
theorem over : Rows.fnExactBlocksOfRow.holds Try.pinned (OpenSpec.ofChange Rows.fnExactBlocksOfSpec) :=
  OpenClaim.holds_of_wide 3 Try.f3 rfl rfl rfl rfl rfl rfl rfl ⟨rfl, rfl, rfl, rfl, rfl⟩ rfl rfl rfl rfl rfl (by kernel_rfl) Try.func3 (by kernel_rfl)
    (of_decide_eq_true (by kernel_rfl)) (by unfold Func.isWrapper; first | (rw [if_pos (by decide +kernel)]; kernel_rfl) | (rw [if_neg (by decide +kernel)]; exact ⟨rfl, rfl⟩))
    (fun os started H enc _ => lifted os started H enc)
/-- THE STATEMENT. -/
theorem proved : Rows.FnExactBlocksOfSaid := over
#print axioms proved
end Go.Proofs.Ytldkfpaigeoppaa.fnExactBlocksOf
