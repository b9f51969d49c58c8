/- ReadBlock, both. No condition. -/
import Derived.Test.YtdhpaglcggeknaaDoorRf
import Derived.Test.YtdhpaglcggeknaaDoorHa
import Derived.Test.YtdhpaglcggeknaaDoorC5
import Derived.Laws.Cover3
namespace Go.Proofs.YtdhpaglcggeknaaDoor
open Go.RowKit Go.Fl
/-- What ReadBlock hands back. -/
def RbE (s : List UInt8) (e : Ending) : Prop := (∃ xs, rb s = some xs ∧ xs.length = 16 ∧ e = .returned (.tuple #[.agg (fl xs), .int .i64 0])) ∨ (rb s = none ∧ e = .returned (.tuple #[.agg (fl zer), .int .i64 5]))
theorem rb_length {s : List UInt8} {xs : List Nat} (h : rb s = some xs) : xs.length = 16 := by
  unfold rb at h
  split at h
  · rename_i h1; rw [rdAll_length h, h1]
  · cases h
set_option maxRecDepth 20000 in
set_option maxHeartbeats 2000000 in
theorem c_sReadBlock (s : List UInt8) (hs : s.length ≤ 1048576) (w : World) :
    Calls Tryd.prog 19 #[.string (bs s)] w fun e w' => RbE s e ∧ Below w.heap.size w w' := by
  have hz16 : zer.length = 16 := rfl
  have q2 : Blk (w.alloc (.cells (fl zer) 25)) w.heap.size zer 25 := Blk.new _ _ _ _ rfl
  have HB0 := Lib.hid (Go.Joins.below_alloc1 w (.cells (fl zer) 25))
  have HQ2 := Lib.hid q2
  have CS := Lib.hid (fun W => c_l01ReadBlock s hs W)
  clear q2 hs
  go_enter Tryd.func19, Tryd.ntmps19
  go_wp2_with fail
  refine (CS.out _).mono ?_; rintro e w1 ⟨hr, b⟩
  have HB1 := Lib.hid (seq_below HB0.out b); have HQ3 := Lib.hid (Blk.below HQ2.out b HQ2.out.lt)
  clear b HB0 HQ2
  have hg5 : w.heap.size < w1.heap.size := HQ3.out.lt
  rcases hr with ⟨xs, hx, rfl⟩ | ⟨hx, rfl⟩
  · have HL := Lib.hid (rb_length hx); have HX := Lib.hid hx; clear hx
    go_wp2_with (first
      | (refine wpList_store_last (ys := xs) rfl 25 _ _ rfl rfl rfl zer rfl info_blk HL.out hz16 (fun w4 b4 hrS => ?_); replace HB1 := Lib.hid (seq_below HB1.out b4); replace HQ3 := Lib.hid (HQ3.out.below b4 HQ3.out.lt); have HS4 := Lib.hid hrS; clear b4 hrS)
      | (refine wpList_load_blk rfl 25 _ rfl _ rfl HS4.out Tryd.underlying25 info_blk HL.out ?_)
      | (have _ := HS4; refine wpList_store_blk rfl 25 _ _ rfl _ rfl rfl HQ3.out info_blk HL.out hz16 ?_))
    exact bodyPost_ret (results_blk_tmp rfl _ _ _ rfl rfl (HQ3.out.row xs) Tryd.underlying25 info_blk HL.out) rfl ⟨.inl ⟨xs, HX.out, HL.out, rfl⟩, below_setRow HB1.out (Nat.le_refl _) _⟩
  · have HX := Lib.hid hx; clear hx
    go_wp2_with (first
      | (refine wpList_store_last (ys := zer) rfl 25 _ _ rfl rfl rfl zer rfl info_blk hz16 hz16 (fun w4 b4 hrS => ?_); replace HB1 := Lib.hid (seq_below HB1.out b4); replace HQ3 := Lib.hid (HQ3.out.below b4 HQ3.out.lt); have HS4 := Lib.hid hrS; clear b4 hrS)
      | (have _ := HS4; refine wpList_store_blk (ys := zer) rfl 25 _ _ rfl _ rfl rfl HQ3.out info_blk hz16 hz16 ?_))
    exact bodyPost_ret (results_blk_tmp rfl _ _ _ rfl rfl (HQ3.out.row zer) Tryd.underlying25 info_blk hz16) rfl ⟨.inr ⟨HX.out, rfl⟩, below_setRow HB1.out (Nat.le_refl _) _⟩
set_option maxRecDepth 20000 in
set_option maxHeartbeats 2000000 in
theorem c_iReadBlock (s : List UInt8) (hs : s.length ≤ 1048576) (w : World) (hT : Tz w) (hE : Ev w) (hM : Mx w) :
    Calls Tryd.prog 20 #[.string (bs s)] w fun e w' => RbE s e ∧ Below w.heap.size w w' := by
  have hz16 : zer.length = 16 := rfl
  have q2 : Blk (w.alloc (.cells (fl zer) 25)) w.heap.size zer 25 := Blk.new _ _ _ _ rfl
  have hb0 := Go.Joins.below_alloc1 w (.cells (fl zer) 25)
  have HB0 := Lib.hid hb0
  have HQ2 := Lib.hid q2
  have CS := Lib.hid (fun W (h : Mx W) => c_split s (by omega) W h)
  have HT := Lib.hid (hT.on hb0); have HE := Lib.hid (hE.on hb0); have HM := Lib.hid (hM.on hb0)
  have HCN := Lib.hid (spl_count 32 s); have HSS := Lib.hid hs
  have HLE := Lib.hid (spl_le 32 s)
  have HR : Hid (rb s = if (spl 32 s).length = 16 then rdAll (spl 32 s) else none) := rfl
  clear q2 hs hT hE hM hb0
  generalize spl 32 s = ps at *
  go_enter Tryd.func20, Tryd.ntmps20
  go_wp2_with fail
  refine (CS.out _ HM.out).mono ?_; rintro e w1 ⟨g, rfl, hp, b⟩
  have HB1 := Lib.hid (seq_below HB0.out b); have HQ3 := Lib.hid (Blk.below HQ2.out b HQ2.out.lt); have HP1 := Lib.hid hp
  replace HT := Lib.hid (HT.out.on b); replace HE := Lib.hid (HE.out.on b)
  clear b hp HB0 HQ2 HM
  have hg5 : w.heap.size < w1.heap.size := HQ3.out.lt
  by_cases h16 : ps.length = 16
  · have HRR : Hid (rb s = rdAll ps) := Lib.hid (HR.out.trans (if_pos h16))
    have HN := Lib.hid h16
    clear HR
    rw [h16]
    clear h16
    go_wp2_with fail
    refine (c_readSamples g 0 16 16 ps w1 HP1.out HN.out (by decide) (fun p hp => Nat.le_trans (HLE.out p hp) (by have := HSS.out; omega)) HT.out HE.out).mono ?_; rintro e w2 ⟨hr, b⟩
    rcases hr with ⟨xs, A, c, hx, rfl, ho⟩ | ⟨hx, rfl⟩
    · have HX := Lib.hid (HRR.out.trans hx); have HL := Lib.hid (rb_length (HRR.out.trans hx))
      obtain ⟨_, hA⟩ := ho
      rcases hA with ⟨_, h0, _⟩ | ⟨gA, r, rfl, hgA, hpre, hc⟩
      · exfalso; have := HL.out; rw [h0] at this; cases this
      · replace HB1 := Lib.hid (seq_below HB1.out b); replace HQ3 := Lib.hid (HQ3.out.below b HQ3.out.lt)
        have HPR := Lib.hid hpre
        have HPT : Hid (((fll xs ++ r).drop 0).take (fll xs).length = fll xs) := Lib.hid (by simp)
        have HIN : Hid ((Tryd.prog.info? 25).map (·.size) = some (fll xs).length) := Lib.hid (by rw [info_blk, fll, List.length_map, HL.out])
        rw [HN.out]
        have hAt := fun W => run_arrayAt (P := Tryd.prog) W 25 22 16 (some ⟨gA, 0, none⟩) 16 c Tryd.underlying25 (Nat.le_refl _)
        clear b hx hpre hc HP1
        go_wp2_with (first
          | (refine wpList_load_part rfl 25 _ rfl gA 0 rfl (fll xs) HPR.out HPT.out Tryd.underlying25 rfl HIN.out ?_)
          | (refine wpList_store_blk (ys := xs) rfl 25 _ _ rfl _ rfl rfl HQ3.out info_blk HL.out hz16 ?_))
        exact bodyPost_ret (results_blk_tmp rfl _ _ _ rfl rfl (HQ3.out.row xs) Tryd.underlying25 info_blk HL.out) rfl ⟨.inl ⟨xs, HX.out, HL.out, rfl⟩, below_setRow HB1.out (Nat.le_refl _) _⟩
    · have HX := Lib.hid (HRR.out.trans hx)
      replace HB1 := Lib.hid (seq_below HB1.out b); replace HQ3 := Lib.hid (HQ3.out.below b HQ3.out.lt)
      clear b hx HP1
      go_wp2_with (refine wpList_store_blk (ys := zer) rfl 25 _ _ rfl _ rfl rfl HQ3.out info_blk hz16 hz16 ?_)
      exact bodyPost_ret (results_blk_tmp rfl _ _ _ rfl rfl (HQ3.out.row zer) Tryd.underlying25 info_blk hz16) rfl ⟨.inr ⟨HX.out, rfl⟩, below_setRow HB1.out (Nat.le_refl _) _⟩
  · have HRR : Hid (rb s = none) := Lib.hid (HR.out.trans (if_neg h16))
    have hln : (ps.length : Int) ≤ 1048577 := by have := HCN.out; have := HSS.out; omega
    clear HR
    go_wp2_with (refine wpList_store_blk (ys := zer) rfl 25 _ _ rfl _ rfl rfl HQ3.out info_blk hz16 hz16 ?_)
    exact bodyPost_ret (results_blk_tmp rfl _ _ _ rfl rfl (HQ3.out.row zer) Tryd.underlying25 info_blk hz16) rfl ⟨.inr ⟨HRR.out, rfl⟩, below_setRow HB1.out (Nat.le_refl _) _⟩
end Go.Proofs.YtdhpaglcggeknaaDoor
