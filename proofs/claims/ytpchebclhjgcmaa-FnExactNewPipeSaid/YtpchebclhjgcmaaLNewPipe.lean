/- The statement Rows.FnExactNewPipeSaid: the law FnExactNewPipe returns true for every input, and its arguments read as before. No condition. -/
import Derived.Test.YtpchebclhjgcmaaRows
import Derived.Test.YtpchebclhjgcmaaNl
namespace Go.Proofs.Ytpchebclhjgcmaa.fnExactNewPipe
open Go.ChangeShapes Go.WideShapes Go.ChangeAt Go.RowKit Go.Fl

set_option maxRecDepth 20000 in
theorem walk_big1 (A B : Option Addr) (n c m d : Nat) (o : Bool) (keep loss : Nat) (w : World) (h : ¬ (n : Int) ≤ 1048576) :
    Calls Try.prog 8 #[.slice A n c, .slice B m d, .bool o, .float .f32 keep, .float .f32 loss] w fun e w' => e = .returned (.bool true) ∧ Below w.heap.size w w' := by
  have h1 : (1048576 : Int) < n := by omega
  go_enter Try.func8, Try.ntmps8
  go_wp2
  go_ret
  exact ⟨rfl, Below.refl _ _⟩
set_option maxRecDepth 20000 in
theorem walk_big2 (A B : Option Addr) (n c m d : Nat) (o : Bool) (keep loss : Nat) (w : World) (hn : (n : Int) ≤ 1048576) (h : ¬ (m : Int) ≤ 1048576) :
    Calls Try.prog 8 #[.slice A n c, .slice B m d, .bool o, .float .f32 keep, .float .f32 loss] w fun e w' => e = .returned (.bool true) ∧ Below w.heap.size w w' := by
  have h1 : (1048576 : Int) < m := by omega
  go_enter Try.func8, Try.ntmps8
  go_wp2
  go_ret
  exact ⟨rfl, Below.refl _ _⟩
theorem c_s (g1 g2 : Nat) (zs : List Int) (ss : List Nat) (o : Bool) (keep loss : Nat) (w : World) (h1 : Row w g1 (jl zs) 2) (h2 : Blk w g2 ss 25) (hl1 : zs.length ≤ 1048576) (hl2 : ss.length ≤ 1048576) :
    Calls Try.prog 26 #[.slice (some ⟨g1, 0, none⟩) zs.length zs.length, .slice (some ⟨g2, 0, none⟩) ss.length ss.length, .bool o, .float .f32 keep, .float .f32 loss] w (NpPost zs ss o keep loss w) := by
  cases h : npIn zs.length ss.length keep loss
  · exact c_sNewPipe_no g1 g2 zs ss o keep loss w h1 h2 hl1 hl2 h
  · exact c_sNewPipe g1 g2 zs ss o keep loss w h1 h2 hl1 hl2 h
theorem c_i (g1 g2 : Nat) (zs : List Int) (ss : List Nat) (o : Bool) (keep loss : Nat) (w : World) (h1 : Row w g1 (jl zs) 2) (h2 : Blk w g2 ss 25) (hl1 : zs.length ≤ 1048576) (hl2 : ss.length ≤ 1048576) :
    Calls Try.prog 29 #[.slice (some ⟨g1, 0, none⟩) zs.length zs.length, .slice (some ⟨g2, 0, none⟩) ss.length ss.length, .bool o, .float .f32 keep, .float .f32 loss] w (NpPost zs ss o keep loss w) := by
  cases h : npIn zs.length ss.length keep loss
  · exact c_iNewPipe_no g1 g2 zs ss o keep loss w h1 h2 hl1 hl2 h
  · exact c_iNewPipe g1 g2 zs ss o keep loss w h1 h2 hl1 hl2 h
theorem grown_chg {w w' : World} {g : Nat} (h : w.grownBy w' (some g)) : Chg w w' (fun x => x = g) := Chg.of_grown h (fun _ e => (Option.some.inj e).symm)
theorem blk_chg {w w' : World} {g : Nat} (h : Below g w w') (k : ∀ b, b ≠ g → w'.heap[b]? = w.heap[b]?) : Chg w w' (fun x => x = g) := ⟨h.os, h.tape, h.output, h.size, fun x _ hx => k x hx⟩
theorem Blk.chg {w w' : World} {g : Nat} {xs : List Nat} {t : TypeId} (h : Blk w g xs t) {S : Nat → Prop} (hc : Chg w w' S) (hd : ¬ S g) : Blk w' g xs t := by
  have hl := h.lt
  unfold Blk at *
  rw [hc.block g hl hd]; exact h
set_option maxRecDepth 20000 in
set_option maxHeartbeats 8000000 in
theorem walk_ok (A B : Option Addr) (c d : Nat) (zs : List Int) (ss : List Nat) (o : Bool) (keep loss : Nat) (w : World) (hs : Il w A zs) (ht : Sl w B ss) (hl1 : zs.length ≤ 1048576) (hl2 : ss.length ≤ 1048576) :
    Calls Try.prog 8 #[.slice A zs.length c, .slice B ss.length d, .bool o, .float .f32 keep, .float .f32 loss] w fun e w' => e = .returned (.bool true) ∧ Below w.heap.size w w' := by
  have CZ := Lib.hid (fun W (b : Below w.heap.size w W) => c_toInt64S A c zs W (hs.below b) (by omega))
  have CF := Lib.hid (fun W (b : Below w.heap.size w W) => c_toFloat32S B d ss W (ht.below b) (by omega))
  have CS := Lib.hid (fun W g1 g2 h1 h2 => c_s g1 g2 zs ss o keep loss W h1 h2 hl1 hl2)
  have CI := Lib.hid (fun W g1 g2 h1 h2 => c_i g1 g2 zs ss o keep loss W h1 h2 hl1 hl2)
  have CEJ := Lib.hid (fun W g g' (h : Row W g (jl zs) 2) (h' : Row W g' (jl zs) 2) => c_eqInt64S (some ⟨g, 0, none⟩) (some ⟨g', 0, none⟩) zs.length zs.length zs W (Il.of_row h) (Il.of_row h') (by omega))
  have CEF := Lib.hid (fun W g g' (h : Blk W g ss 25) (h' : Blk W g' ss 25) => c_eqFloat32S (some ⟨g, 0, none⟩) (some ⟨g', 0, none⟩) ss.length ss.length ss ss W (Sl.of_blk h) (Sl.of_blk h') rfl (by omega) (fun _ _ => rfl))
  have CMJ := Lib.hid (fun W g (h : Row W g (jl zs) 2) => c_markInt64S g zs.length zs 1 W h (by omega) (by decide) (by decide))
  have CMF := Lib.hid (fun W g (h : Blk W g ss 25) => c_markFloat32S g ss.length ss (1 + (zs.length : Int)) W h (by omega) (by omega) (by omega))
  have hi1 : (zs.length : Int) ≤ 1048576 := by omega
  have hi2 : (ss.length : Int) ≤ 1048576 := by omega
  have hk0 : ¬ (1 + (zs.length : Int) + (ss.length : Int) < 0) := by omega
  clear hs ht
  generalize hn : zs.length = n at *
  generalize hm : ss.length = m at *
  have HN := Lib.hid hn; have HM := Lib.hid hm; clear hn hm hl1 hl2
  have hb := Below.refl w.heap.size w
  go_enter Try.func8, Try.ntmps8
  go_wp2_with fail
  refine (CZ.out _ hb).mono ?_; rintro e w1 ⟨g1, rfl, r1, _, b⟩
  replace hb := seq_below hb b; clear b
  go_wp2_with fail
  refine (CF.out _ hb).mono ?_; rintro e w2 ⟨g2, rfl, r2, _, b⟩
  replace hb := seq_below hb b; replace r1 := r1.below b r1.lt; clear b
  go_wp2_with fail
  refine (CS.out _ g1 g2 r1 r2).mono ?_; rintro e w3 ⟨p, G1, b1, G2, b2, q, rfl, pS, nS, b⟩
  replace hb := seq_below hb b; clear b
  clear r1 r2; have NS := Lib.hid nS; clear nS
  have hqq : (q != q) = false := by simp
  go_wp2_with (refine wpList_store_newest (cells := p.cells.toArray) rfl 54 _ _ rfl rfl rfl info_pip rfl rfl (fun w4 b hrS => ?_); replace hb := seq_below hb b; replace pS := pS.below b; clear b)
  have TS := Lib.hid pS.lt; have TH := Lib.hid hrS.lt; have TB := Lib.hid hb.size
  refine (CZ.out _ hb).mono ?_; rintro e w5 ⟨g3, rfl, r3, l3, b⟩
  replace hb := seq_below hb b; replace pS := pS.below b; replace hrS := hrS.below b hrS.lt; clear b
  have L3 := Lib.hid l3; clear l3; have M3 := Lib.hid r3.lt
  go_wp2_with fail
  refine (CF.out _ hb).mono ?_; rintro e w6 ⟨g4, rfl, r4, l4, b⟩
  replace hb := seq_below hb b; replace pS := pS.below b; replace hrS := hrS.below b hrS.lt; replace r3 := r3.below b r3.lt; clear b
  have L4 := Lib.hid l4; clear l4; have M4 := Lib.hid r4.lt
  go_wp2_with fail
  refine (CI.out _ g3 g4 r3 r4).mono ?_; rintro e w7 ⟨p', H1, a1, H2, a2, q', rfl, pI, nI, b⟩
  have B7 := Lib.hid b.size
  replace hb := seq_below hb b; replace pS := pS.below b; replace hrS := hrS.below b hrS.lt; replace r3 := r3.below b r3.lt; replace r4 := r4.below b r4.lt; clear b
  obtain ⟨hE, rfl⟩ := nI.same NS.out
  have HE := Lib.hid hE; have NI := Lib.hid nI; clear hE nI; have TI := Lib.hid pI.lt; have SZ := Lib.hid (PipSz.of (p := p') (by have := NI.out.tot; omega))
  go_wp2_with (first | (refine wpList_store_newest (cells := p'.cells.toArray) rfl 54 _ _ rfl rfl rfl info_pip rfl rfl (fun w8 b hrI => ?_); replace hb := seq_below hb b; replace pS := pS.below b; replace hrS := hrS.below b hrS.lt; replace r3 := r3.below b r3.lt; replace r4 := r4.below b r4.lt; replace pI := pI.below b; clear b) | (refine wpList_load_cells rfl 54 _ rfl _ rfl hrI Try.underlying54 rfl info_pip ?_) | (refine wpList_load_cells rfl 54 _ rfl _ rfl hrS Try.underlying54 rfl info_pip ?_))
  refine (c_eqPipe _ _ _ pI.at_ pS.at_ SZ.out HE.out).mono ?_; rintro e w9 ⟨rfl, b⟩
  replace hb := seq_below hb b; replace pS := pS.below b; replace hrS := hrS.below b hrS.lt; replace r3 := r3.below b r3.lt; replace r4 := r4.below b r4.lt; replace pI := pI.below b; replace hrI := hrI.below b hrI.lt; clear b
  go_wp2_with fail
  refine (CZ.out _ hb).mono ?_; rintro e w10 ⟨g5, rfl, r5, _, b⟩
  replace hb := seq_below hb b; replace pS := pS.below b; replace hrS := hrS.below b hrS.lt; replace r3 := r3.below b r3.lt; replace r4 := r4.below b r4.lt; replace pI := pI.below b; replace hrI := hrI.below b hrI.lt; clear b
  go_wp2_with fail
  refine (CEJ.out _ _ _ r3 r5).mono ?_; rintro e w11 ⟨rfl, b⟩
  replace hb := seq_below hb b; replace pS := pS.below b; replace hrS := hrS.below b hrS.lt; replace r3 := r3.below b r3.lt; replace r4 := r4.below b r4.lt; replace pI := pI.below b; replace hrI := hrI.below b hrI.lt; clear b
  clear r5
  go_wp2_with fail
  refine (CF.out _ hb).mono ?_; rintro e w12 ⟨g6, rfl, r6, _, b⟩
  replace hb := seq_below hb b; replace pS := pS.below b; replace hrS := hrS.below b hrS.lt; replace r3 := r3.below b r3.lt; replace r4 := r4.below b r4.lt; replace pI := pI.below b; replace hrI := hrI.below b hrI.lt; clear b
  go_wp2_with fail
  refine (CEF.out _ _ _ r4 r6).mono ?_; rintro e w13 ⟨rfl, b⟩
  replace hb := seq_below hb b; replace pS := pS.below b; replace hrS := hrS.below b hrS.lt; replace r3 := r3.below b r3.lt; replace r4 := r4.below b r4.lt; replace pI := pI.below b; replace hrI := hrI.below b hrI.lt; clear b
  clear r6
  go_wp2_with fail
  refine (CMJ.out _ _ r3).mono ?_; rintro e w14 ⟨rfl, gr⟩
  have gc := grown_chg gr; clear gr
  replace hb := hb.trans (gc.below hb.size (fun k e => by have := TS.out; have := TH.out; have := TB.out; have := L3.out; have := M3.out; have := L4.out; have := M4.out; have := B7.out; have : k = g3 := e; omega))
  replace pS := pS.chg gc (fun x hx e => by have := TS.out; have := TH.out; have := TB.out; have := L3.out; have := M3.out; have := L4.out; have := M4.out; have := B7.out; have := TS.out x hx; have : x = g3 := e; omega)
  replace pI := pI.chg gc (fun x hx e => by have := TS.out; have := TH.out; have := TB.out; have := L3.out; have := M3.out; have := L4.out; have := M4.out; have := B7.out; have := pI.ge x hx; have : x = g3 := e; omega)
  replace hrS := hrS.chg gc (fun e => by have := TS.out; have := TH.out; have := TB.out; have := L3.out; have := M3.out; have := L4.out; have := M4.out; have := B7.out; have : w3.heap.size = g3 := e; omega)
  replace hrI := hrI.chg gc (fun e => by have := TS.out; have := TH.out; have := TB.out; have := L3.out; have := M3.out; have := L4.out; have := M4.out; have := B7.out; have : w7.heap.size = g3 := e; omega)
  replace r4 := Blk.chg r4 gc (fun e => by have := TS.out; have := TH.out; have := TB.out; have := L3.out; have := M3.out; have := L4.out; have := M4.out; have := B7.out; have : g4 = g3 := e; omega)
  clear gc r3
  go_wp2_with fail
  refine (CMF.out _ _ r4).mono ?_; rintro e w15 ⟨rfl, _, gb, gn⟩
  have gc := blk_chg gb gn; clear gb gn
  replace hb := hb.trans (gc.below hb.size (fun k e => by have := TS.out; have := TH.out; have := TB.out; have := L3.out; have := M3.out; have := L4.out; have := M4.out; have := B7.out; have : k = g4 := e; omega))
  replace pS := pS.chg gc (fun x hx e => by have := TS.out; have := TH.out; have := TB.out; have := L3.out; have := M3.out; have := L4.out; have := M4.out; have := B7.out; have := TS.out x hx; have : x = g4 := e; omega)
  replace pI := pI.chg gc (fun x hx e => by have := TS.out; have := TH.out; have := TB.out; have := L3.out; have := M3.out; have := L4.out; have := M4.out; have := B7.out; have := pI.ge x hx; have : x = g4 := e; omega)
  replace hrS := hrS.chg gc (fun e => by have := TS.out; have := TH.out; have := TB.out; have := L3.out; have := M3.out; have := L4.out; have := M4.out; have := B7.out; have : w3.heap.size = g4 := e; omega)
  replace hrI := hrI.chg gc (fun e => by have := TS.out; have := TH.out; have := TB.out; have := L3.out; have := M3.out; have := L4.out; have := M4.out; have := B7.out; have : w7.heap.size = g4 := e; omega)
  clear gc r4
  go_wp2_with (first | (refine wpList_load_cellsG rfl 54 _ rfl _ rfl hrI Try.underlying54 rfl info_pip ?_) | (refine wpList_load_cellsG rfl 54 _ rfl _ rfl hrS Try.underlying54 rfl info_pip ?_))
  refine (c_eqPipe _ _ _ pI.at_ pS.at_ SZ.out HE.out).mono ?_; rintro e w16 ⟨rfl, b⟩
  replace hb := seq_below hb b; replace pS := pS.below b; replace hrS := hrS.below b hrS.lt; replace pI := pI.below b; replace hrI := hrI.below b hrI.lt; clear b
  go_wp2_with (first | (refine wpList_load_cells rfl 54 _ rfl _ rfl hrI Try.underlying54 rfl info_pip ?_) | (refine wpList_load_cells rfl 54 _ rfl _ rfl hrS Try.underlying54 rfl info_pip ?_))
  refine (c_markPipe _ _ _ _ _ _ _ pI NI.out.tot).mono ?_; rintro e w17 ⟨rfl, pm, gc⟩
  replace hb := hb.trans (gc.below hb.size (fun k e => by have := TS.out; have := TH.out; have := TB.out; have := L3.out; have := M3.out; have := L4.out; have := M4.out; have := B7.out; have := pI.ge k e; omega))
  have zS := (pS.chg gc (fun x hx e => by have := TS.out; have := TH.out; have := TB.out; have := L3.out; have := M3.out; have := L4.out; have := M4.out; have := B7.out; have := TS.out x hx; have := pI.ge x e; omega)).at_
  replace hrS := hrS.chg gc (fun e => by have := TS.out; have := TH.out; have := TB.out; have := L3.out; have := M3.out; have := L4.out; have := M4.out; have := B7.out; have := pI.ge _ e; omega)
  replace hrI := hrI.chg gc (fun e => by have := TI.out _ e; omega)
  clear gc pI pS; have ZS := Lib.hid zS; have PM := Lib.hid pm; clear zS pm
  have ht0 : ¬ (1 + (totP p' : Int) < 0) := by omega
  have htt : ((1 + (totP p' : Int)) != (1 + (totP p' : Int))) = false := by simp
  go_wp2_with (first | (refine wpList_load_cells rfl 54 _ rfl _ rfl hrI Try.underlying54 rfl info_pip ?_) | (refine wpList_load_cells rfl 54 _ rfl _ rfl hrS Try.underlying54 rfl info_pip ?_))
  refine (c_heldPipe _ _ PM.out NI.out.tot).mono ?_; rintro e w18 ⟨rfl, b⟩
  replace hb := seq_below hb b; replace hrS := hrS.below b hrS.lt; replace hrI := hrI.below b hrI.lt; replace ZS := Lib.hid (ZS.out.below b); replace PM := Lib.hid (PM.out.below b); clear b
  go_wp2_with fail
  refine (CZ.out _ hb).mono ?_; rintro e w19 ⟨g7, rfl, r7, _, b⟩
  replace hb := seq_below hb b; replace hrS := hrS.below b hrS.lt; replace hrI := hrI.below b hrI.lt; replace ZS := Lib.hid (ZS.out.below b); replace PM := Lib.hid (PM.out.below b); clear b
  go_wp2_with fail
  refine (CF.out _ hb).mono ?_; rintro e w20 ⟨g8, rfl, r8, _, b⟩
  replace hb := seq_below hb b; replace hrS := hrS.below b hrS.lt; replace hrI := hrI.below b hrI.lt; replace ZS := Lib.hid (ZS.out.below b); replace PM := Lib.hid (PM.out.below b); replace r7 := r7.below b r7.lt; clear b
  go_wp2_with fail
  refine (CI.out _ g7 g8 r7 r8).mono ?_; rintro e w21 ⟨p2, J1, d1, J2, d2, q2, rfl, pJ, nJ, b⟩
  replace hb := seq_below hb b; replace hrS := hrS.below b hrS.lt; replace hrI := hrI.below b hrI.lt; replace ZS := Lib.hid (ZS.out.below b); replace PM := Lib.hid (PM.out.below b); clear b
  clear r7 r8
  obtain ⟨hE, rfl⟩ := nJ.same NS.out
  have HE2 := Lib.hid hE; have SZ2 := Lib.hid (PipSz.of (p := p2) (by have := nJ.tot; omega)); clear hE nJ
  go_wp2_with (first | (refine wpList_store_newest (cells := p2.cells.toArray) rfl 54 _ _ rfl rfl rfl info_pip rfl rfl (fun w22 b hrJ => ?_); replace hb := seq_below hb b; replace hrS := hrS.below b hrS.lt; replace hrI := hrI.below b hrI.lt; replace ZS := Lib.hid (ZS.out.below b); replace PM := Lib.hid (PM.out.below b); replace pJ := pJ.below b; clear b) | (refine wpList_load_cells rfl 54 _ rfl _ rfl hrJ Try.underlying54 rfl info_pip ?_) | (refine wpList_load_cells rfl 54 _ rfl _ rfl hrS Try.underlying54 rfl info_pip ?_))
  refine (c_eqPipe _ _ _ pJ.at_ ZS.out SZ2.out HE2.out).mono ?_; rintro e w23 ⟨rfl, b⟩
  replace hb := seq_below hb b; replace hrS := hrS.below b hrS.lt; replace hrI := hrI.below b hrI.lt; replace ZS := Lib.hid (ZS.out.below b); replace PM := Lib.hid (PM.out.below b); replace pJ := pJ.below b; replace hrJ := hrJ.below b hrJ.lt; clear b
  go_wp2_with (first | (refine wpList_load_cells rfl 54 _ rfl _ rfl hrI Try.underlying54 rfl info_pip ?_))
  refine (c_heldPipe _ _ PM.out NI.out.tot).mono ?_; rintro e w24 ⟨rfl, b⟩
  replace hb := seq_below hb b; replace hrS := hrS.below b hrS.lt; replace hrI := hrI.below b hrI.lt; replace ZS := Lib.hid (ZS.out.below b); replace PM := Lib.hid (PM.out.below b); replace pJ := pJ.below b; replace hrJ := hrJ.below b hrJ.lt; clear b
  go_wp2_with fail
  go_ret
  exact ⟨rfl, hb⟩
theorem walk (w : World) (A : Option Addr) (c : Nat) (zs : List Int) (hs : Il w A zs) (B : Option Addr) (d : Nat) (ss : List Nat) (ht : Sl w B ss) (o : Bool) (keep : Nat) (_ : (Lit.float .f32 keep).wf = true) (loss : Nat) (_ : (Lit.float .f32 loss).wf = true) :
    Calls Try.prog 8 #[.slice A zs.length c, .slice B ss.length d, .bool o, .float .f32 keep, .float .f32 loss] w fun e w' => e = .returned (.bool true) ∧ Below w.heap.size w w' := by
  by_cases h1 : (zs.length : Int) ≤ 1048576
  · by_cases h2 : (ss.length : Int) ≤ 1048576
    · exact walk_ok A B c d zs ss o keep loss w hs ht (by omega) (by omega)
    · exact walk_big2 A B zs.length c ss.length d o keep loss w h1 h2
  · exact walk_big1 A B zs.length c ss.length d o keep loss w h1

theorem own : ownKnob Try.prog.godebug = none := by kernel_rfl
theorem laidOut : laidOutB Try.prog = true := by kernel_rfl
set_option maxRecDepth 100000 in
set_option maxHeartbeats 1000000 in
theorem lifted (os : Os) (started : os.Started) (H : Type) (enc : TypeId × Value → H) :
    ReturnsInHanded {} Try.checked os 8 .any (Rows.fnExactNewPipeSpec.pre6 enc Try.prog Try.f8 [] false) (Rows.fnExactNewPipeSpec.post enc Try.prog Try.f8 false true false false) := by
  refine law_lifted (C := Try.checked) own started (by kernel_rfl) Try.func8
    (ChangeSpec.witness6 (enc := enc) (C := Try.checked) false ⟨#[], #[.slice none 0 0, .slice none 0 0, .bool false, .float .f32 0, .float .f32 0], []⟩ 8 (by kernel_rfl) (by kernel_rfl) (by kernel_rfl) (by kernel_rfl))
    rfl 5 rfl (fun ds h => by match ds, h with | [d0, d1, d2, d3, d4], _ => exact ⟨rfl, rfl, rfl⟩) laidOut (of_decide_eq_true (by kernel_rfl)) 4 Try.underlying4 rfl ?_
  intro W base args ds p hval hA
  rw [Try.params8] at hA hval
  obtain ⟨v0, v1, v2, v3, v4, d0, d1, d2, d3, d4, p0, p1, p2, p3, p4, rfl, rfl, rfl, h0, h1, h2, h3, h4⟩ := trodAll_five hA
  obtain ⟨A0, c0, zs0, rfl, hs0, _, hm0, _⟩ := open_i64s Try.underlying51 Try.underlying2 (by kernel_rfl) (hval 0 _ _ rfl rfl) h0
  obtain ⟨A1, c1, xs1, rfl, hs1, _, _⟩ := open_f32s Try.underlying22 Try.underlying25 (by kernel_rfl) (hval 1 _ _ rfl rfl) h1
  obtain ⟨x2, rfl, _, _⟩ := open_bool Try.underlying4 (hval 2 _ _ rfl rfl) h2
  obtain ⟨x3, rfl, _, _, wx3⟩ := open_float Try.underlying25 (hval 3 _ _ rfl rfl) h3
  obtain ⟨x4, rfl, _, _, wx4⟩ := open_float Try.underlying25 (hval 4 _ _ rfl rfl) h4
  exact walk W A0 c0 zs0 hs0 A1 c1 xs1 hs1 x2 x3 wx3 x4 wx4
theorem over : Rows.fnExactNewPipeRow.holds Try.pinned (OpenSpec.ofChange Rows.fnExactNewPipeSpec) :=
  OpenClaim.holds_of_wide 8 Try.f8 rfl rfl rfl rfl rfl rfl rfl ⟨rfl, rfl, rfl, rfl, rfl⟩ rfl rfl rfl rfl rfl (by kernel_rfl) Try.func8 (by kernel_rfl)
    (of_decide_eq_true (by kernel_rfl)) (by unfold Func.isWrapper; first | (rw [if_pos (by decide +kernel)]; kernel_rfl) | (rw [if_neg (by decide +kernel)]; exact ⟨rfl, rfl⟩))
    (fun os started H enc _ => lifted os started H enc)
/-- THE STATEMENT. -/
theorem proved : Rows.FnExactNewPipeSaid := over
#print axioms proved
end Go.Proofs.Ytpchebclhjgcmaa.fnExactNewPipe
