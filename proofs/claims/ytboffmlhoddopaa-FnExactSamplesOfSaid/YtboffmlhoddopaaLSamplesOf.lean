/- The statement Rows.FnExactSamplesOfSaid: the law FnExactSamplesOf returns true for every input, and its arguments read as before. No condition. -/
import Derived.Test.YtboffmlhoddopaaRows
import Derived.Test.YtboffmlhoddopaaKf
import Derived.Test.YtboffmlhoddopaaTe
namespace Go.Proofs.Ytboffmlhoddopaa.fnExactSamplesOf
open Go.ChangeShapes Go.WideShapes Go.ChangeAt Go.RowKit Go.Fl

set_option maxRecDepth 20000 in
set_option maxHeartbeats 2000000 in
theorem walk_big (w : World) (A : Option Addr) (c n : Nat) (m : Int) (hbig : 1048576 < (n : Int)) (hm : (n : Int) ≤ 9223372036854775807) :
    Calls Try.prog 13 #[.slice A n c, .int .i64 m] w fun e w' => e = .returned (.bool true) ∧ Below w.heap.size w w' := by
  have HB := Lib.hid hbig; have HM := Lib.hid hm; clear hbig hm
  go_enter Try.func13, Try.ntmps13
  go_wp2_with fail
  refine (c_szBlockS_big _ _ _ _ HB.out HM.out).mono ?_; rintro e w1 ⟨rfl, b⟩
  go_wp2_with fail
  go_ret
  exact ⟨rfl, b⟩
set_option maxRecDepth 20000 in
set_option maxHeartbeats 2000000 in
theorem walk_lim (w : World) (A : Option Addr) (c n : Nat) (xs : List Nat) (hs : Sl w A xs) (hx : xs.length = 16 * n) (m : Int) (hv : 4096 < 16 * (n : Int)) (hn : (n : Int) ≤ 1048576) :
    Calls Try.prog 13 #[.slice A n c, .int .i64 m] w fun e w' => e = .returned (.bool true) ∧ Below w.heap.size w w' := by
  have hb := Below.refl w.heap.size w
  have HN := Lib.hid (show (n : Int) ≤ 1048576 from hn); have HL := Lib.hid (show n ≤ 1048576 from by have := HN.out; omega)
  have hpos : ¬ (1048576 - (n : Int) < 0) := by have := HN.out; omega
  have hp2 : ¬ (1 + 16 * (n : Int) < 0) := by omega
  have HS := Lib.hid hs; have HX := Lib.hid hx; clear hs hx
  have HV := Lib.hid hv; clear hv
  go_enter Try.func13, Try.ntmps13
  go_wp2_with fail
  refine (c_szBlockS _ _ _ _ HN.out).mono ?_; rintro e w1 ⟨rfl, b⟩
  replace hb := seq_below hb b; clear b
  go_wp2_with fail
  refine (c_toBlockS _ _ _ _ _ (HS.out.below hb) HX.out HL.out).mono ?_; rintro e w2 ⟨gZ, rfl, _, _, b⟩
  replace hb := seq_below hb b; clear b
  go_wp2_with fail
  refine (c_sSamplesOf_lim _ _ _ _ _ HV.out HN.out).mono ?_; rintro e w3 ⟨gS, rfl, b⟩
  replace hb := seq_below hb b; clear b
  go_wp2_with fail
  refine (c_toBlockS _ _ _ _ _ (HS.out.below hb) HX.out HL.out).mono ?_; rintro e w4 ⟨gX, rfl, hX, hgX, b⟩
  have NXB := Lib.hid (Nat.le_trans hb.size hgX); clear hgX
  replace hb := seq_below hb b; clear b
  go_wp2_with fail
  refine (c_iSamplesOf_lim _ _ _ _ _ HV.out HN.out).mono ?_; rintro e w5 ⟨rfl, hww⟩
  obtain rfl := hww.symm; clear hww
  go_wp2_with fail
  refine (c_eqFloat32S_n _ _ _ _ 0 [] [] _ (.inl rfl) (.inl rfl) rfl rfl (by decide) (fun _ _ => rfl)).mono ?_; rintro e w6 ⟨rfl, b⟩
  replace hb := seq_below hb b; replace hX := hX.below b hX.lt; clear b
  go_wp2_with fail
  refine (c_toBlockS _ _ _ _ _ (HS.out.below hb) HX.out HL.out).mono ?_; rintro e w7 ⟨gY, rfl, hY, _, b⟩
  replace hb := seq_below hb b; replace hX := hX.below b hX.lt; clear b
  go_wp2_with fail
  refine (c_eqBlockS _ _ _ _ _ _ _ _ (Sl.of_blk hX) (Sl.of_blk hY) HX.out HX.out HL.out (fun _ _ => rfl)).mono ?_; rintro e w8 ⟨rfl, b⟩
  replace hb := seq_below hb b; replace hX := hX.below b hX.lt; replace hY := hY.below b hY.lt; clear b
  clear hY
  go_wp2_with fail
  refine (c_markBlockS _ _ _ _ _ hX HX.out HN.out).mono ?_; rintro e w9 ⟨rfl, b⟩
  replace hb := hb.trans (below_grownBy b hb.size (fun k hk => by injection hk with hk; rw [← hk]; exact NXB.out)); clear b hX NXB
  go_wp2_with fail
  refine (c_eqFloat32S_n _ _ _ _ 0 [] [] _ (.inl rfl) (.inl rfl) rfl rfl (by decide) (fun _ _ => rfl)).mono ?_; rintro e w10 ⟨rfl, b⟩
  replace hb := seq_below hb b; clear b
  go_wp2_with fail
  refine (c_markFloat32S_nil _ _ _ _).mono ?_; rintro e w11 ⟨rfl, hww⟩
  obtain rfl := hww.symm; clear hww
  go_wp2_with fail
  refine (c_heldFloat32S_nil _ _ _ _).mono ?_; rintro e w12 ⟨rfl, hww⟩
  obtain rfl := hww.symm; clear hww
  go_wp2_with fail
  refine (c_toBlockS _ _ _ _ _ (HS.out.below hb) HX.out HL.out).mono ?_; rintro e w13 ⟨gW, rfl, _, _, b⟩
  replace hb := seq_below hb b; clear b
  go_wp2_with fail
  refine (c_iSamplesOf_lim _ _ _ _ _ HV.out HN.out).mono ?_; rintro e w14 ⟨rfl, hww⟩
  obtain rfl := hww.symm; clear hww
  go_wp2_with fail
  refine (c_eqFloat32S_n _ _ _ _ 0 [] [] _ (.inl rfl) (.inl rfl) rfl rfl (by decide) (fun _ _ => rfl)).mono ?_; rintro e w15 ⟨rfl, b⟩
  replace hb := seq_below hb b; clear b
  go_wp2_with fail
  refine (c_heldFloat32S_nil _ _ _ _).mono ?_; rintro e w16 ⟨rfl, hww⟩
  obtain rfl := hww.symm; clear hww
  go_wp2_with fail
  go_ret
  exact ⟨rfl, hb⟩
set_option maxRecDepth 20000 in
set_option maxHeartbeats 2000000 in
theorem walk_far (w : World) (A : Option Addr) (c n : Nat) (xs : List Nat) (hs : Sl w A xs) (hx : xs.length = 16 * n) (m : Int) (hv : 16 * (n : Int) ≤ 4096 ∧ inB m 0 (16 * (n : Int)) = false) :
    Calls Try.prog 13 #[.slice A n c, .int .i64 m] w fun e w' => e = .returned (.bool true) ∧ Below w.heap.size w w' := by
  have hb := Below.refl w.heap.size w
  have HN := Lib.hid (show (n : Int) ≤ 1048576 from by omega); have HL := Lib.hid (show n ≤ 1048576 from by have := HN.out; omega)
  have hpos : ¬ (1048576 - (n : Int) < 0) := by have := HN.out; omega
  have hp2 : ¬ (1 + 16 * (n : Int) < 0) := by omega
  have HS := Lib.hid hs; have HX := Lib.hid hx; clear hs hx
  have HV := Lib.hid hv; clear hv
  go_enter Try.func13, Try.ntmps13
  go_wp2_with fail
  refine (c_szBlockS _ _ _ _ HN.out).mono ?_; rintro e w1 ⟨rfl, b⟩
  replace hb := seq_below hb b; clear b
  go_wp2_with fail
  refine (c_toBlockS _ _ _ _ _ (HS.out.below hb) HX.out HL.out).mono ?_; rintro e w2 ⟨gZ, rfl, _, _, b⟩
  replace hb := seq_below hb b; clear b
  go_wp2_with fail
  refine (c_sSamplesOf_far _ _ _ _ _ HV.out.1 HV.out.2).mono ?_; rintro e w3 ⟨gS, rfl, b⟩
  replace hb := seq_below hb b; clear b
  go_wp2_with fail
  refine (c_toBlockS _ _ _ _ _ (HS.out.below hb) HX.out HL.out).mono ?_; rintro e w4 ⟨gX, rfl, hX, hgX, b⟩
  have NXB := Lib.hid (Nat.le_trans hb.size hgX); clear hgX
  replace hb := seq_below hb b; clear b
  go_wp2_with fail
  refine (c_iSamplesOf_far _ _ _ _ _ HV.out.1 HV.out.2).mono ?_; rintro e w5 ⟨rfl, hww⟩
  obtain rfl := hww.symm; clear hww
  go_wp2_with fail
  refine (c_eqFloat32S_n _ _ _ _ 0 [] [] _ (.inl rfl) (.inl rfl) rfl rfl (by decide) (fun _ _ => rfl)).mono ?_; rintro e w6 ⟨rfl, b⟩
  replace hb := seq_below hb b; replace hX := hX.below b hX.lt; clear b
  go_wp2_with fail
  refine (c_toBlockS _ _ _ _ _ (HS.out.below hb) HX.out HL.out).mono ?_; rintro e w7 ⟨gY, rfl, hY, _, b⟩
  replace hb := seq_below hb b; replace hX := hX.below b hX.lt; clear b
  go_wp2_with fail
  refine (c_eqBlockS _ _ _ _ _ _ _ _ (Sl.of_blk hX) (Sl.of_blk hY) HX.out HX.out HL.out (fun _ _ => rfl)).mono ?_; rintro e w8 ⟨rfl, b⟩
  replace hb := seq_below hb b; replace hX := hX.below b hX.lt; replace hY := hY.below b hY.lt; clear b
  clear hY
  go_wp2_with fail
  refine (c_markBlockS _ _ _ _ _ hX HX.out HN.out).mono ?_; rintro e w9 ⟨rfl, b⟩
  replace hb := hb.trans (below_grownBy b hb.size (fun k hk => by injection hk with hk; rw [← hk]; exact NXB.out)); clear b hX NXB
  go_wp2_with fail
  refine (c_eqFloat32S_n _ _ _ _ 0 [] [] _ (.inl rfl) (.inl rfl) rfl rfl (by decide) (fun _ _ => rfl)).mono ?_; rintro e w10 ⟨rfl, b⟩
  replace hb := seq_below hb b; clear b
  go_wp2_with fail
  refine (c_markFloat32S_nil _ _ _ _).mono ?_; rintro e w11 ⟨rfl, hww⟩
  obtain rfl := hww.symm; clear hww
  go_wp2_with fail
  refine (c_heldFloat32S_nil _ _ _ _).mono ?_; rintro e w12 ⟨rfl, hww⟩
  obtain rfl := hww.symm; clear hww
  go_wp2_with fail
  refine (c_toBlockS _ _ _ _ _ (HS.out.below hb) HX.out HL.out).mono ?_; rintro e w13 ⟨gW, rfl, _, _, b⟩
  replace hb := seq_below hb b; clear b
  go_wp2_with fail
  refine (c_iSamplesOf_far _ _ _ _ _ HV.out.1 HV.out.2).mono ?_; rintro e w14 ⟨rfl, hww⟩
  obtain rfl := hww.symm; clear hww
  go_wp2_with fail
  refine (c_eqFloat32S_n _ _ _ _ 0 [] [] _ (.inl rfl) (.inl rfl) rfl rfl (by decide) (fun _ _ => rfl)).mono ?_; rintro e w15 ⟨rfl, b⟩
  replace hb := seq_below hb b; clear b
  go_wp2_with fail
  refine (c_heldFloat32S_nil _ _ _ _).mono ?_; rintro e w16 ⟨rfl, hww⟩
  obtain rfl := hww.symm; clear hww
  go_wp2_with fail
  go_ret
  exact ⟨rfl, hb⟩
set_option maxRecDepth 20000 in
set_option maxHeartbeats 2000000 in
theorem walk_ok (w : World) (A : Option Addr) (c n : Nat) (xs : List Nat) (hs : Sl w A xs) (hx : xs.length = 16 * n) (m : Nat) (hq : 16 * (n : Int) ≤ 4096) (hv : inB (m : Int) 0 (16 * (n : Int)) = true) :
    Calls Try.prog 13 #[.slice A n c, .int .i64 (m : Int)] w fun e w' => e = .returned (.bool true) ∧ Below w.heap.size w w' := by
  have hb := Below.refl w.heap.size w
  have HN := Lib.hid (show (n : Int) ≤ 1048576 from by omega); have HL := Lib.hid (show n ≤ 1048576 from by have := HN.out; omega)
  have hpos : ¬ (1048576 - (n : Int) < 0) := by have := HN.out; omega
  have hp2 : ¬ (1 + 16 * (n : Int) < 0) := by omega
  have HS := Lib.hid hs; have HX := Lib.hid hx; clear hs hx
  obtain ⟨h1, h2⟩ := inB_true' hv
  have HV := Lib.hid hv; have HQ := Lib.hid hq; have HI := Lib.hid (show (m : Int) ≤ 4294967296 from by omega); have hp : ¬ (1 + (m : Int) < 0) := by omega
  have HT := Lib.hid (show (xs.take m).length = m from by rw [List.length_take, HX.out]; omega)
  clear hv hq
  go_enter Try.func13, Try.ntmps13
  go_wp2_with fail
  refine (c_szBlockS _ _ _ _ HN.out).mono ?_; rintro e w1 ⟨rfl, b⟩
  replace hb := seq_below hb b; clear b
  go_wp2_with fail
  refine (c_toBlockS _ _ _ _ _ (HS.out.below hb) HX.out HL.out).mono ?_; rintro e w2 ⟨gZ, rfl, hZ, _, b⟩
  replace hb := seq_below hb b; clear b
  go_wp2_with fail
  refine (c_sSamplesOf _ _ _ _ _ _ (Sl.of_blk hZ) HX.out HQ.out HV.out).mono ?_; rintro e w3 ⟨A1, c1, rfl, oS, b⟩
  replace hb := seq_below hb b; clear b
  clear hZ
  go_wp2_with fail
  refine (c_toBlockS _ _ _ _ _ (HS.out.below hb) HX.out HL.out).mono ?_; rintro e w4 ⟨gX, rfl, hX, hgX, b⟩
  have NXB := Lib.hid (Nat.le_trans hb.size hgX); have NX1 := Lib.hid (fun k (hk : ownBlk A1 = some k) => Nat.ne_of_lt (Nat.lt_of_lt_of_le (oS.lt k hk) hgX)); clear hgX
  replace hb := seq_below hb b; replace oS := oS.below b (Nat.le_refl _); clear b
  go_wp2_with fail
  refine (c_iSamplesOf _ _ _ _ _ _ (Sl.of_blk hX) HX.out HQ.out HV.out).mono ?_; rintro e w5 ⟨A2, c2, rfl, oI, b⟩
  have NIO := Lib.hid (fun k (hk : ownBlk A2 = some k) k1 (hk1 : ownBlk A1 = some k1) => Nat.ne_of_lt (Nat.lt_of_lt_of_le (oS.lt k1 hk1) (oI.ge k hk))); have NIB := Lib.hid (fun k (hk : ownBlk A2 = some k) => Nat.le_trans hb.size (oI.ge k hk)); have NX2 := Lib.hid (fun k (hk : ownBlk A2 = some k) => Nat.ne_of_gt (Nat.lt_of_lt_of_le hX.lt (oI.ge k hk)))
  replace hb := seq_below hb b; replace oS := oS.below b (Nat.le_refl _); replace hX := hX.below b hX.lt; clear b
  go_wp2_with fail
  refine (c_eqFloat32S_n _ _ _ _ m _ _ _ oI.sl oS.sl HT.out HT.out HI.out (fun _ _ => rfl)).mono ?_; rintro e w6 ⟨rfl, b⟩
  replace hb := seq_below hb b; replace oS := oS.below b (Nat.le_refl _); replace hX := hX.below b hX.lt; replace oI := oI.below b (Nat.le_refl _); clear b
  go_wp2_with fail
  refine (c_toBlockS _ _ _ _ _ (HS.out.below hb) HX.out HL.out).mono ?_; rintro e w7 ⟨gY, rfl, hY, _, b⟩
  replace hb := seq_below hb b; replace oS := oS.below b (Nat.le_refl _); replace hX := hX.below b hX.lt; replace oI := oI.below b (Nat.le_refl _); clear b
  go_wp2_with fail
  refine (c_eqBlockS _ _ _ _ _ _ _ _ (Sl.of_blk hX) (Sl.of_blk hY) HX.out HX.out HL.out (fun _ _ => rfl)).mono ?_; rintro e w8 ⟨rfl, b⟩
  replace hb := seq_below hb b; replace oS := oS.below b (Nat.le_refl _); replace hX := hX.below b hX.lt; replace oI := oI.below b (Nat.le_refl _); replace hY := hY.below b hY.lt; clear b
  clear hY
  go_wp2_with fail
  refine (c_markBlockS _ _ _ _ _ hX HX.out HN.out).mono ?_; rintro e w9 ⟨rfl, b⟩
  replace hb := hb.trans (below_grownBy b hb.size (fun k hk => by injection hk with hk; rw [← hk]; exact NXB.out)); replace oS := oS.kept b (fun k hk e => NX1.out k hk (Option.some.inj e)); replace oI := oI.kept b (fun k hk e => NX2.out k hk (Option.some.inj e)); clear b hX NXB NX1 NX2
  go_wp2_with fail
  refine (c_eqFloat32S_n _ _ _ _ m _ _ _ oI.sl oS.sl HT.out HT.out HI.out (fun _ _ => rfl)).mono ?_; rintro e w10 ⟨rfl, b⟩
  replace hb := seq_below hb b; replace oS := oS.below b (Nat.le_refl _); replace oI := oI.below b (Nat.le_refl _); clear b
  go_wp2_with fail
  refine (c_markFloat32S_own_n _ _ _ _ _ _ _ oI HT.out HI.out (by decide) (by decide)).mono ?_; rintro e w11 ⟨rfl, oJ, b⟩
  replace hb := hb.trans (below_grownBy b hb.size NIB.out); replace oS := oS.kept b (fun k hk e => NIO.out _ e.symm k hk rfl); clear b oI
  go_wp2_with fail
  refine (c_heldFloat32S_sl _ _ m _ _ oJ.sl HI.out (by decide) (by decide)).mono ?_; rintro e w12 ⟨rfl, b⟩
  replace hb := seq_below hb b; replace oS := oS.below b (Nat.le_refl _); replace oJ := oJ.below b (Nat.le_refl _); clear b
  go_wp2_with fail
  refine (c_toBlockS _ _ _ _ _ (HS.out.below hb) HX.out HL.out).mono ?_; rintro e w13 ⟨gW, rfl, hW, _, b⟩
  replace hb := seq_below hb b; replace oS := oS.below b (Nat.le_refl _); replace oJ := oJ.below b (Nat.le_refl _); clear b
  go_wp2_with fail
  refine (c_iSamplesOf _ _ _ _ _ _ (Sl.of_blk hW) HX.out HQ.out HV.out).mono ?_; rintro e w14 ⟨A3, c3, rfl, oH, b⟩
  replace hb := seq_below hb b; replace oS := oS.below b (Nat.le_refl _); replace oJ := oJ.below b (Nat.le_refl _); clear b
  clear hW
  go_wp2_with fail
  refine (c_eqFloat32S_n _ _ _ _ m _ _ _ oH.sl oS.sl HT.out HT.out HI.out (fun _ _ => rfl)).mono ?_; rintro e w15 ⟨rfl, b⟩
  replace hb := seq_below hb b; replace oS := oS.below b (Nat.le_refl _); replace oJ := oJ.below b (Nat.le_refl _); replace oH := oH.below b (Nat.le_refl _); clear b
  go_wp2_with fail
  refine (c_heldFloat32S_sl _ _ m _ _ oJ.sl HI.out (by decide) (by decide)).mono ?_; rintro e w16 ⟨rfl, b⟩
  replace hb := seq_below hb b; replace oS := oS.below b (Nat.le_refl _); replace oJ := oJ.below b (Nat.le_refl _); replace oH := oH.below b (Nat.le_refl _); clear b
  go_wp2_with fail
  go_ret
  exact ⟨rfl, hb⟩
theorem walk (w : World) (A : Option Addr) (c n : Nat) (xs : List Nat) (hs : Sl w A xs) (hx : xs.length = 16 * n) (hn : n ≤ c) (hm : c ≤ maxLen) (m : Int) (_ : (Lit.int .i64 m).wf = true) :
    Calls Try.prog 13 #[.slice A n c, .int .i64 m] w fun e w' => e = .returned (.bool true) ∧ Below w.heap.size w w' := by
  by_cases hbig : 1048576 < (n : Int)
  · exact walk_big w A c n m hbig (by unfold maxLen at hm; omega)
  by_cases hq : 4096 < 16 * (n : Int)
  · exact walk_lim w A c n xs hs hx m hq (by omega)
  cases hv : inB m 0 (16 * (n : Int))
  · exact walk_far w A c n xs hs hx m ⟨by omega, hv⟩
  · obtain ⟨m, rfl⟩ := Int.eq_ofNat_of_zero_le (inB_true' hv).1
    exact walk_ok w A c n xs hs hx m (by omega) hv

theorem own : ownKnob Try.prog.godebug = none := by kernel_rfl
theorem laidOut : laidOutB Try.prog = true := by kernel_rfl
set_option maxRecDepth 100000 in
theorem lifted (os : Os) (started : os.Started) (H : Type) (enc : TypeId × Value → H) :
    ReturnsInHanded {} Try.checked os 13 .any (Rows.fnExactSamplesOfSpec.pre6 enc Try.prog Try.f13 [] false) (Rows.fnExactSamplesOfSpec.post enc Try.prog Try.f13 false true false false) := by
  refine law_lifted (C := Try.checked) own started (by kernel_rfl) Try.func13
    (ChangeSpec.witness6 (enc := enc) (C := Try.checked) false ⟨#[], #[.slice none 0 0, .int .i64 0], []⟩ 8 (by kernel_rfl) (by kernel_rfl) (by kernel_rfl) (by kernel_rfl))
    rfl 2 rfl (fun ds h => by match ds, h with | [d0, d1], _ => exact ⟨rfl, rfl, rfl⟩) laidOut (of_decide_eq_true (by kernel_rfl)) 4 Try.underlying4 rfl ?_
  intro W base args ds p hval hA
  rw [Try.params13] at hA hval
  obtain ⟨v0, v1, d0, d1, p0, p1, rfl, rfl, rfl, h0, h1⟩ := trodAll_two hA
  obtain ⟨A0, c0, n0, xs0, rfl, hs0, hl0, hn0, hm0⟩ := open_blocks Try.underlying66 Try.underlying91 Try.underlying22 (by kernel_rfl) (by kernel_rfl) (hval 0 _ _ rfl rfl) h0
  obtain ⟨x1, rfl, _, _, wx1⟩ := open_int Try.underlying2 (hval 1 _ _ rfl rfl) h1
  exact walk W A0 c0 n0 xs0 hs0 hl0 hn0 hm0 x1 wx1
theorem over : Rows.fnExactSamplesOfRow.holds Try.pinned (OpenSpec.ofChange Rows.fnExactSamplesOfSpec) :=
  OpenClaim.holds_of_wide 13 Try.f13 rfl rfl rfl rfl rfl rfl rfl ⟨rfl, rfl, rfl, rfl, rfl⟩ rfl rfl rfl rfl rfl (by kernel_rfl) Try.func13 (by kernel_rfl)
    (of_decide_eq_true (by kernel_rfl)) (by unfold Func.isWrapper; first | (rw [if_pos (by decide +kernel)]; kernel_rfl) | (rw [if_neg (by decide +kernel)]; exact ⟨rfl, rfl⟩))
    (fun os started H enc _ => lifted os started H enc)
/-- THE STATEMENT. -/
theorem proved : Rows.FnExactSamplesOfSaid := over
#print axioms proved
end Go.Proofs.Ytboffmlhoddopaa.fnExactSamplesOf
