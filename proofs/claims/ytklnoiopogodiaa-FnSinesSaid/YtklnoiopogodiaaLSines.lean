/- The statement Rows.FnSinesSaid: the law FnSines returns true for every input, and its arguments read as before. No condition. -/
import Derived.Test.YtklnoiopogodiaaRows
import Derived.Test.YtklnoiopogodiaaJh
namespace Go.Proofs.Ytklnoiopogodiaa.fnSines
open Go.ChangeShapes Go.WideShapes Go.ChangeAt Go.RowKit Go.Fl

set_option maxRecDepth 20000 in
set_option maxHeartbeats 2000000 in
theorem walk (w : World) (A : Option Addr) (c n : Nat) (f : Nat → Int) (hs : Sb w A n f) (hn : n ≤ c) (hm : c ≤ maxLen) (B : Option Addr) (cB m : Nat) (g : Nat → Int) (hsB : Sb w B m g) (hnB : m ≤ cB) (hmB : cB ≤ maxLen) :
    Calls Try.prog 7 #[.slice A n c, .slice B m cB] w fun e w' => e = .returned (.bool true) ∧ Below w.heap.size w w' := by
  have HM := Lib.hid (show (n : Int) ≤ 9223372036854775807 ∧ (m : Int) ≤ 9223372036854775807 from by unfold maxLen at hm hmB; omega)
  clear hn hm hnB hmB
  have hb := Below.refl w.heap.size w
  by_cases hbig : 3000 < (n : Int) ∨ 3000 < (m : Int)
  · have HB := Lib.hid hbig; clear hbig
    go_enter Try.func7, Try.ntmps7
    go_wp2_with fail
    refine (c_a2Long A B n m c cB _ HM.out.1 HM.out.2).mono ?_; rintro e w1 ⟨rfl, hww⟩; obtain rfl := hww.symm; clear hww
    rw [decide_eq_true HB.out]
    go_wp2_with fail
    go_ret
    exact ⟨rfl, hb⟩
  have HB := Lib.hid hbig
  have HN := Lib.hid (show (n : Int) ≤ 3000 ∧ (m : Int) ≤ 3000 from by omega)
  have HS := Lib.hid hs; have HSB := Lib.hid hsB
  clear hbig hs hsB
  go_enter Try.func7, Try.ntmps7
  go_wp2_with fail
  refine (c_a2Long A B n m c cB _ HM.out.1 HM.out.2).mono ?_; rintro e w1 ⟨rfl, hww⟩; obtain rfl := hww.symm; clear hww
  rw [decide_eq_false HB.out]
  go_wp2_with fail
  refine (c_A2Digit A n c f 0 256 _ HS.out HN.out.1 (by decide) (by decide) (by decide)).mono ?_; rintro e w1 ⟨r0, rfl, hr0, b⟩
  replace HS := Lib.hid (HS.out.below b); replace HSB := Lib.hid (HSB.out.below b); replace hb := seq_below hb b; clear b
  go_wp2_with fail
  refine (c_A2Digit A n c f 1 9 _ HS.out HN.out.1 (by decide) (by decide) (by decide)).mono ?_; rintro e w2 ⟨r1, rfl, hr1, b⟩
  replace HSB := Lib.hid (HSB.out.below b); replace hb := seq_below hb b; clear b HS
  have hr0' : (r0 : Int) < 256 := hr0
  have hr1' : (r1 : Int) < 9 := hr1
  have hr0n : (0 : Int) ≤ (r0 : Int) := by omega
  have hr1n : (0 : Int) ≤ (r1 : Int) := by omega
  obtain ⟨x, p, y, z, a, cc, d, FF⟩ := sines_facts r0 r1 (by omega) (by omega)
  clear hr0 hr1
  have F := Lib.hid FF
  have hx := FF.hx; have hp := FF.hp; have hy := FF.hy; have hz := FF.hz
  have t1 := FF.t1; have t2 := FF.t2; have t3 := eq_of_beq FF.t3; have t4 := eq_of_beq FF.t4; have t5 := FF.t5; have t6 := FF.t6
  clear FF
  go_wp2_with fail
  refine (c_SineV x a _ F.out.sx).mono ?_; rintro e w3 ⟨rfl, b⟩
  replace HSB : Hid (Sb w3 B m g) := by first | exact Lib.hid (Sb.below HSB.out b) | exact Lib.hid (Sb.below (w := World.drewN _ _) HSB.out b)
  replace hb : Below w.heap.size w w3 := by first | exact seq_below hb b | exact seqBelowD hb b
  clear b
  go_wp2_with fail
  refine (c_SineV p a _ F.out.sp).mono ?_; rintro e w4 ⟨rfl, b⟩
  replace HSB : Hid (Sb w4 B m g) := by first | exact Lib.hid (Sb.below HSB.out b) | exact Lib.hid (Sb.below (w := World.drewN _ _) HSB.out b)
  replace hb : Below w.heap.size w w4 := by first | exact seq_below hb b | exact seqBelowD hb b
  clear b
  go_wp2_with fail
  refine (c_SineV y cc _ F.out.sy).mono ?_; rintro e w5 ⟨rfl, b⟩
  replace HSB : Hid (Sb w5 B m g) := by first | exact Lib.hid (Sb.below HSB.out b) | exact Lib.hid (Sb.below (w := World.drewN _ _) HSB.out b)
  replace hb : Below w.heap.size w w5 := by first | exact seq_below hb b | exact seqBelowD hb b
  clear b
  go_wp2_with fail
  refine (c_sSineV x a _ F.out.sx).mono ?_; rintro e w6 ⟨rfl, b⟩
  replace HSB : Hid (Sb w6 B m g) := by first | exact Lib.hid (Sb.below HSB.out b) | exact Lib.hid (Sb.below (w := World.drewN _ _) HSB.out b)
  replace hb : Below w.heap.size w w6 := by first | exact seq_below hb b | exact seqBelowD hb b
  clear b
  go_wp2_with fail
  refine (c_SineV z d _ F.out.sz).mono ?_; rintro e w7 ⟨rfl, b⟩
  replace HSB : Hid (Sb w7 B m g) := by first | exact Lib.hid (Sb.below HSB.out b) | exact Lib.hid (Sb.below (w := World.drewN _ _) HSB.out b)
  replace hb : Below w.heap.size w w7 := by first | exact seq_below hb b | exact seqBelowD hb b
  clear b
  go_wp2_with fail
  refine (c_iSineTable _).mono ?_; rintro e w8 ⟨rs, rfl, HR', b⟩; have HR := Lib.hid HR'; clear HR'
  replace HSB : Hid (Sb w8 B m g) := by first | exact Lib.hid (Sb.below HSB.out b) | exact Lib.hid (Sb.below (w := World.drewN _ _) HSB.out b)
  replace hb : Below w.heap.size w w8 := by first | exact seq_below hb b | exact seqBelowD hb b
  clear b
  go_wp2_with (first
    | (refine wpList_store_tab rfl 28 _ _ rfl rfl rfl info_tab HR.out.1 (fun w9 b9 hrT => ?_); replace HSB : Hid (Sb w9 B m g) := Lib.hid (Sb.below HSB.out b9); replace hb := seq_below hb b9; clear b9)
    | (refine wpList_load_blk rfl 28 _ rfl _ rfl hrT Try.underlying28 info_tab HR.out.1 ?_))
  have HT := Lib.hid (F.out.tt rs HR.out)
  refine (c_iTableAt rs x _ HR.out.1).mono ?_; rintro e w10 ⟨v, rfl, hv', b⟩; have HV := Lib.hid hv'; clear hv'
  have tv : ordC .f32 (cv .f32 v) (cv .f32 a) = some .eq := by rw [HV.out]; exact eq_of_beq HT.out.2
  have tq := F.out.tq
  replace HSB := Lib.hid (HSB.out.below b); replace hrT := hrT.below b hrT.lt; replace hb := seq_below hb b; clear b
  go_wp2_with fail
  refine (c_A2Digit B m cB g 0 256 _ HSB.out HN.out.2 (by decide) (by decide) (by decide)).mono ?_; rintro e w11 ⟨r2, rfl, hr2, b⟩
  replace HSB := Lib.hid (HSB.out.below b); replace hrT := hrT.below b hrT.lt; replace hb := seq_below hb b; clear b
  have hr2' : (r2 : Int) < 256 := hr2
  have hr2n : (0 : Int) ≤ (r2 : Int) := by omega
  clear hr2
  go_wp2_with fail
  refine (c_A2Digit B m cB g 1 256 _ HSB.out HN.out.2 (by decide) (by decide) (by decide)).mono ?_; rintro e w12 ⟨r3, rfl, hr3, b⟩
  replace hrT := hrT.below b hrT.lt; replace hb := seq_below hb b; clear b HSB
  have hr3' : (r3 : Int) < 256 := hr3
  have hr3n : (0 : Int) ≤ (r3 : Int) := by omega
  clear hr3
  go_wp2_with fail
  have HS0 := Lib.hid (show 0 ≤ (r2 : Int) * 65536 + (r3 : Int) ∧ (r2 : Int) * 65536 + (r3 : Int) < 4294967296 from by omega)
  generalize (r2 : Int) * 65536 + (r3 : Int) = s0 at *
  clear hr2' hr2n hr3' hr3n
  refine (c_iNoiseBlock _ _).mono ?_; rintro e w13 ⟨ns, rfl, hns', b⟩; have HNS := Lib.hid hns'; clear hns'
  replace hrT := hrT.below b hrT.lt; replace hb := seq_below hb b; clear b
  have hgT := hrT.lt
  have hTl := Lib.hid (show r0 < rs.length from by rw [HR.out.1]; omega)
  generalize w8.heap.size = gT at *
  go_wp2_with (refine wpList_store_last rfl 48 _ _ rfl rfl rfl (List.replicate 16 0) rfl info_blk HNS.out.1 rfl (fun w14 b14 hrN => ?_); replace hrT := hrT.below b14 hrT.lt; replace hb := seq_below hb b14; clear b14)
  generalize w13.heap.size = gN at *
  go_loopw [16, 19] (fun s i wr => ∃ k : Nat, k ≤ 16 ∧ i = .int .i64 k ∧ s = .int .u32 (seedAt s0 k) ∧ Below w.heap.size w wr ∧ Blk wr gT rs 28 ∧ Blk wr gN ns 48) (fun _ i _ => 16 - (intOf i).toNat)
  case atStart => exact ⟨0, by omega, rfl, rfl, hb, hrT, hrN⟩
  case round =>
    clear hb hrT hrN
    obtain ⟨k, hk, rfl, rfl, hb, hT, hN⟩ := hrel
    by_cases hlt : k < 16
    · have hi : (0 : Int) ≤ k := by omega
      have hi2 : (k : Int) < 16 := by omega
      have HSK := Lib.hid (seed_range s0 HS0.out k)
      go_wp2_with fail
      refine (c_NextNoise _ _).mono ?_; rintro e w1 ⟨r, rfl, hr, b⟩
      have HC := Lib.hid hr; clear hr
      replace hT := hT.below b hT.lt; replace hN := hN.below b hN.lt; replace hb := seq_below hb b; clear b
      have c0 := hN.cell k (by rw [HNS.out.1]; exact hlt)
      obtain ⟨q1, q2⟩ := noise_at HC.out
      have HE := Lib.hid (show sameB r (nth ns k) = true from by unfold sameB; rw [HC.out, HNS.out.2 k hlt]; simp [cfNoise])
      go_wp2_with fail
      refine (c_SameSample _ _ _).mono ?_; rintro e w2 ⟨rfl, hww⟩; obtain rfl := hww.symm; clear hww
      rw [HE.out]
      go_wp2_with fail
      go_roundw
      case rel => exact ⟨k + 1, by omega, by go_num, rfl, hb, hT, hN⟩
      case measure => simp [intOf]; omega
    · have e : k = 16 := by omega
      subst e
      have cT := hT.cell r0 hTl.out
      rw [HT.out.1] at cT
      go_wp2_with fail
      go_ret
      exact ⟨by simp, hb⟩

theorem own : ownKnob Try.prog.godebug = none := by kernel_rfl
theorem laidOut : laidOutB Try.prog = true := by kernel_rfl
set_option maxRecDepth 100000 in
theorem lifted (os : Os) (started : os.Started) (H : Type) (enc : TypeId × Value → H) :
    ReturnsInHanded {} Try.checked os 7 .any (Rows.fnSinesSpec.pre6 enc Try.prog Try.f7 [] false) (Rows.fnSinesSpec.post enc Try.prog Try.f7 false true false false) := by
  refine law_lifted (C := Try.checked) own started (by kernel_rfl) Try.func7
    (ChangeSpec.witness6 (enc := enc) (C := Try.checked) false ⟨#[], #[.slice none 0 0, .slice none 0 0], []⟩ 8 (by kernel_rfl) (by kernel_rfl) (by kernel_rfl) (by kernel_rfl))
    rfl 2 rfl (fun ds h => by match ds, h with | [d0, d1], _ => exact ⟨rfl, rfl, rfl⟩) laidOut (of_decide_eq_true (by kernel_rfl)) 4 Try.underlying4 rfl ?_
  intro W base args ds p hval hA
  rw [Try.params7] at hA hval
  obtain ⟨v0, v1, d0, d1, p0, p1, rfl, rfl, rfl, h0, h1⟩ := trodAll_two hA
  obtain ⟨A0, c0, n0, f0, rfl, hs0, hn0, hm0⟩ := open_bytes Try.underlying43 Try.underlying5 (by kernel_rfl) (hval 0 _ _ rfl rfl) h0
  obtain ⟨A1, c1, n1, f1, rfl, hs1, hn1, hm1⟩ := open_bytes Try.underlying43 Try.underlying5 (by kernel_rfl) (hval 1 _ _ rfl rfl) h1
  exact walk W A0 c0 n0 f0 hs0 hn0 hm0 A1 c1 n1 f1 hs1 hn1 hm1
theorem over : Rows.fnSinesRow.holds Try.pinned (OpenSpec.ofChange Rows.fnSinesSpec) :=
  OpenClaim.holds_of_wide 7 Try.f7 rfl rfl rfl rfl rfl rfl rfl ⟨rfl, rfl, rfl, rfl, rfl⟩ rfl rfl rfl rfl rfl (by kernel_rfl) Try.func7 (by kernel_rfl)
    (of_decide_eq_true (by kernel_rfl)) (by unfold Func.isWrapper; first | (rw [if_pos (by decide +kernel)]; kernel_rfl) | (rw [if_neg (by decide +kernel)]; exact ⟨rfl, rfl⟩))
    (fun os started H enc _ => lifted os started H enc)
/-- THE STATEMENT. -/
theorem proved : Rows.FnSinesSaid := over
#print axioms proved
end Go.Proofs.Ytklnoiopogodiaa.fnSines
