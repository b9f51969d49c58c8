/- Muted strings. No condition. -/
import Derived.Test.YtpchebclhjgcmaaHi
namespace Go.Proofs.Ytpchebclhjgcmaa
open Go.RowKit Go.Fl
theorem wpList_load_cellsG {P : Program} {ops : Array Oper} {rest : List Oper} {o : Oper} {a : Act} {w : World} {Q : Exit → Act → World → Prop} (hgd : Region.wanted o (yielded ops a.tmps) = true) (ty : TypeId) (x : Operand) (ho : o.op = .load ty x) (g : Nat) (hx : a.eval x = .pointer (some ⟨g, 0, none⟩)) {cells : Array Value} {t : TypeId} (hb : Row w g cells t) {d : TypeDesc}
    (hu : P.underlying ty = some d) (hd : (match d with | .struct _ | .array _ _ => true | _ => false) = true) (hi : (P.info? ty).map (·.size) = some cells.size) (h : wpList P ops Q rest (a.put o.dst (.agg cells)) w) : wpList P ops Q (o :: rest) a w :=
  wpList_step fun K hK => by
    rw [if_pos hgd]
    exact wp_load_row ty x ho g hx t cells (0, 0) _ hb hu hd hi (hK _ _ h)
def stillF (F : Fil) : Fil := ⟨F.k, F.c0, F.c1, F.c2, 0, 0⟩
def muN (v : Bool) (n : Nat) : Nat := if v = true then n else 0
def muA (v : Bool) (a : Int) : Int := if v = true then a else 0
def muF (v : Bool) (F : Fil) : Fil := if v = true then stillF F else filZ
def muQ (v : Bool) : Int := if v = true then 0 else 1
/-- What both sides give: a string of zeros, or nothing. -/
def MutePost (v : Bool) (n : Nat) (a0 : Int) (F G : Fil) (l : Nat) (w : World) (e : Ending) (w' : World) : Prop := ∃ A' c', e = .returned (.tuple #[.agg (strC A' (muN v n) c' (muA v a0) (muF v F) (muF v G) (muN v l)).toArray, .int .i64 (muQ v)]) ∧ Own w' w.heap.size A' c' (List.replicate (muN v n) 0) 25 ∧ Below w.heap.size w w'
theorem own_of_blk_n {w : World} {g base n : Nat} {xs : List Nat} {t : TypeId} (h : Blk w g xs t) (hn : xs.length = n) (hb : base ≤ g) (hm : n ≤ maxLen) : Own w base (some ⟨g, 0, none⟩) n xs t := by
  subst hn; exact Own.of_blk h hb hm
theorem muN_le (v : Bool) (n : Nat) : muN v n ≤ n := by cases v <;> simp [muN]
theorem muN_t (n : Nat) : muN true n = n := rfl
theorem own_nil (w : World) (base : Nat) (t : TypeId) : Own w base none 0 [] t := ⟨by simp [maxLen], .inl ⟨rfl, rfl, rfl⟩⟩
theorem c_mute (g n c : Nat) (A : Option Addr) (rest : List Value) (t : TypeId) (w : World) (q : Row w g (.slice A n c :: rest).toArray t) (hn : n ≤ 1048576) :
    Calls Try.prog 66 #[.pointer (some ⟨g, 0, none⟩)] w fun e w' => e = .returned (.tuple #[]) ∧ Blk w' w.heap.size (List.replicate n 0) 25 ∧ Row w' g (.slice (some ⟨w.heap.size, 0, none⟩) n n :: rest).toArray t ∧ w.grownBy w' (some g) := by
  have hmk := fun W => run_make_row' (P := Try.prog) 22 25 (.float .f32 0) 4 Try.underlying22 info_f32e rfl .i64 .i64 n (by omega) (by omega) W
  have hZ : Blk (w.alloc (.cells (madeCells #[.float .f32 0] n) 25)) w.heap.size (List.replicate n 0) 25 := Blk.newRow _ _ _ _ _ rfl (made_fl n)
  have hq := q.alloc (.cells (madeCells #[.float .f32 0] n) 25)
  have k0 : (w.alloc (.cells (madeCells #[.float .f32 0] n) 25)).cell? ⟨g, 0, none⟩ = some (.slice A n c) := hq.cell 0 _ rfl
  have k1 : w.cell? ⟨g, 0, none⟩ = some (.slice A n c) := q.cell 0 _ rfl
  have f0 := hq.free 0
  have HLT := Lib.hid q.lt
  have HG := Lib.hid (World.grownBy_alloc w (.cells (madeCells #[.float .f32 0] n) 25) (some g))
  have HQ := Lib.hid (hq.set 0 (.slice (some ⟨w.heap.size, 0, none⟩) n n)); have HZ := Lib.hid hZ
  clear q hq hZ hn
  generalize madeCells #[.float .f32 0] n = M at *
  go_enter Try.func66, Try.ntmps66
  go_wp2
  go_end0
  exact ⟨rfl, HZ.out.other (Nat.ne_of_gt HLT.out) _, HQ.out, grownBy_setCell HG.out _ _⟩
theorem info_a2' : (Try.prog.info? 27).map (·.size) = some 2 := by kernel_rfl
set_option maxRecDepth 20000 in
set_option maxHeartbeats 2000000 in
theorem c_iMuteString (A : Option Addr) (n c : Nat) (a0 : Int) (F G : Fil) (l : Nat) (w : World) (hn : (n : Int) ≤ 1048576) :
    Calls Try.prog 25 #[.agg (strC A n c a0 F G l).toArray] w (MutePost (vsB n a0 F G l) n a0 F G l w) := by
  have hz : (strC none 0 0 0 filZ filZ 0).toArray = #[.slice none 0 0, .int .i64 0, .int .i64 0, .float .f32 0, .float .f32 0, .float .f32 0, .float .f32 0, .float .f32 0, .int .i64 0, .float .f32 0, .float .f32 0, .float .f32 0, .float .f32 0, .float .f32 0, .float .f32 0] := rfl
  obtain ⟨wa, hwa⟩ : ∃ wa, wa = (w.alloc (.cells (strC A n c a0 F G l).toArray 37)).alloc (.cells (strC none 0 0 0 filZ filZ 0).toArray 37) := ⟨_, rfl⟩
  have q1 : Row wa w.heap.size (strC A n c a0 F G l).toArray 37 := by subst hwa; exact (Row.new _ _ _ _ rfl).alloc _
  have q2 : Row wa (w.heap.size + 1) (strC none 0 0 0 filZ filZ 0).toArray 37 := by subst hwa; exact Row.new _ _ _ _ (by simp)
  have hb : Below w.heap.size w wa := by subst hwa; exact Go.Joins.below_alloc2 _ _ _
  have CV := Lib.hid (fun W => c_iValidString A n c a0 F G l W (by omega))
  have HN := Lib.hid (show n ≤ 1048576 from by omega)
  have I1 : Hid ((Try.prog.info? 37).map (·.size) = some (strC A n c a0 F G l).toArray.size) := info_str
  rw [hz] at hwa
  have HW := Lib.hid hwa
  clear hn hz hwa
  unfold MutePost
  cases hv : vsB n a0 F G l
  · rw [hv] at CV
    clear hv
    go_enter Try.func25, Try.ntmps25
    go_wp2_with (rw [← HW.out]; refine wpList_load_cells rfl 37 _ rfl _ rfl q1 Try.underlying37 rfl I1.out ?_)
    refine (CV.out _).mono ?_; rintro e w1 ⟨rfl, b⟩
    replace q2 := q2.below b q2.lt; replace hb := seq_below hb b
    go_wp2_with (refine wpList_store_own rfl 37 _ _ rfl rfl rfl hb (Nat.le_succ _) q2 info_str rfl rfl (fun w2 b2 h2 => ?_))
    exact bodyPost_ret (results_cells_tmp rfl _ _ _ rfl rfl h2 Try.underlying37 rfl info_str) rfl ⟨none, 0, rfl, own_nil _ _ _, b2⟩
  · rw [hv] at CV
    clear hv
    go_enter Try.func25, Try.ntmps25
    go_wp2_with (rw [← HW.out]; refine wpList_load_cells rfl 37 _ rfl _ rfl q1 Try.underlying37 rfl I1.out ?_)
    refine (CV.out _).mono ?_; rintro e w1 ⟨rfl, b⟩
    have hlt := q1.lt; have hlt2 := q2.lt
    have hge := b.size
    replace q1 := q1.below b q1.lt; replace q2 := q2.below b q2.lt; replace hb := seq_below hb b; clear b
    go_wp2_with fail
    refine (c_mute _ n c A _ _ _ q1 HN.out).mono ?_; rintro e w2 ⟨rfl, hZ, q1n, b⟩
    replace q1 : Row w2 w.heap.size (strC (some ⟨w1.heap.size, 0, none⟩) n n a0 F G l).toArray 37 := q1n
    replace q2 := q2.grown b (fun h => by injection h with h; omega)
    have hlt3 : w.heap.size + 1 < w1.heap.size := by omega
    replace hb := hb.trans (below_grownBy b hb.size (fun k hk => by cases hk; exact Nat.le_refl _))
    clear b q1n hge hlt hlt2 I1
    generalize w1.heap.size = gN at q1 hZ hlt3
    go_wp2_with (first
      | (have _ := m1; refine wpList_store_partK rfl 27 _ _ rfl (w.heap.size) 12 rfl [.float .f32 0, .float .f32 0] rfl q1 info_a2' rfl rfl (strC (some ⟨gN, 0, none⟩) n n a0 (stillF F) (stillF G) l) rfl (fun w4 b q1n => ?_); replace q2 := q2.grown b (fun h => by injection h with h; omega); replace hZ := hZ.grown b (fun h => by injection h with h; omega); replace hb := hb.trans (below_grownBy b hb.size (fun k hk => by cases hk; exact Nat.le_refl _)); clear b q1; have q1 : Row _ (w.heap.size) _ 37 := q1n; clear q1n)
      | (refine wpList_store_partK rfl 27 _ _ rfl (w.heap.size) 6 rfl [.float .f32 0, .float .f32 0] rfl q1 info_a2' rfl rfl (strC (some ⟨gN, 0, none⟩) n n a0 (stillF F) G l) rfl (fun w3 b q1n => ?_); replace q2 := q2.grown b (fun h => by injection h with h; omega); replace hZ := hZ.grown b (fun h => by injection h with h; omega); replace hb := hb.trans (below_grownBy b hb.size (fun k hk => by cases hk; exact Nat.le_refl _)); clear b q1; have q1 : Row _ (w.heap.size) _ 37 := q1n; clear q1n; have m1 := True.intro)
      | (refine wpList_load_cells rfl 37 _ rfl _ rfl q1 Try.underlying37 rfl info_str ?_)
      | (refine wpList_store_cells rfl 37 _ _ rfl _ rfl rfl q2 info_str rfl rfl ?_))
    exact bodyPost_ret (results_cells_tmp (cs := (strC (some ⟨gN, 0, none⟩) n n a0 (stillF F) (stillF G) l).toArray) rfl _ _ _ rfl rfl (q2.row _) Try.underlying37 rfl info_str) rfl ⟨some ⟨gN, 0, none⟩, n, rfl, (by rw [muN_t]; exact own_of_blk_n (hZ.rowOther (k := w.heap.size + 1) (by omega) _) List.length_replicate (by omega) (by have := HN.out; unfold maxLen; omega)), below_setRow hb (Nat.le_succ _) _⟩
theorem nth_rep (n k : Nat) : nth (List.replicate n 0) k = 0 := by
  simp [nth, List.getD_eq_getElem?_getD, List.getElem?_replicate]
  split <;> rfl
set_option maxRecDepth 20000 in
set_option maxHeartbeats 2000000 in
theorem c_sMuteString (A : Option Addr) (c : Nat) (xs : List Nat) (a0 : Int) (F G : Fil) (l : Nat) (w : World) (hs : Sl w A xs) (hn : (xs.length : Int) ≤ 1048576) :
    Calls Try.prog 24 #[.agg (strC A xs.length c a0 F G l).toArray] w (MutePost (vsB xs.length a0 F G l) xs.length a0 F G l w) := by
  have hz : (strC none 0 0 0 filZ filZ 0).toArray = #[.slice none 0 0, .int .i64 0, .int .i64 0, .float .f32 0, .float .f32 0, .float .f32 0, .float .f32 0, .float .f32 0, .int .i64 0, .float .f32 0, .float .f32 0, .float .f32 0, .float .f32 0, .float .f32 0, .float .f32 0] := rfl
  obtain ⟨wa, hwa⟩ : ∃ wa, wa = (w.alloc (.cells (strC A xs.length c a0 F G l).toArray 37)).alloc (.cells (strC none 0 0 0 filZ filZ 0).toArray 37) := ⟨_, rfl⟩
  have q1 : Row wa w.heap.size (strC A xs.length c a0 F G l).toArray 37 := by subst hwa; exact (Row.new _ _ _ _ rfl).alloc _
  have q2 : Row wa (w.heap.size + 1) (strC none 0 0 0 filZ filZ 0).toArray 37 := by subst hwa; exact Row.new _ _ _ _ (by simp)
  have hb : Below w.heap.size w wa := by subst hwa; exact Go.Joins.below_alloc2 _ _ _
  have CV := Lib.hid (c_sL03Ok _ A xs.length c a0 F G l wa (by omega) q1)
  have HN := Lib.hid (show xs.length ≤ 1048576 from by omega)
  have HS := Lib.hid (hs.below hb)
  rw [hz] at hwa
  have HW := Lib.hid hwa
  clear hn hz hwa hs
  unfold MutePost
  cases hv : vsB xs.length a0 F G l
  · rw [hv] at CV
    clear hv
    go_enter Try.func24, Try.ntmps24
    go_wp2_with fail
    rw [← HW.out]
    refine CV.out.mono ?_; rintro e w1 ⟨rfl, nq, rfl⟩
    replace hb := below_drewN hb nq
    replace q2 : Row (wa.drewN nq) (w.heap.size + 1) (strC none 0 0 0 filZ filZ 0).toArray 37 := q2
    go_wp2_with (refine wpList_store_own rfl 37 _ _ rfl rfl rfl hb (Nat.le_succ _) q2 info_str rfl rfl (fun w2 b2 h2 => ?_))
    exact bodyPost_ret (results_cells_tmp rfl _ _ _ rfl rfl h2 Try.underlying37 rfl info_str) rfl ⟨none, 0, rfl, own_nil _ _ _, b2⟩
  · rw [hv] at CV
    have h1 : 1 ≤ xs.length := by
      unfold vsB at hv
      rw [Bool.and_eq_true] at hv
      have := (ringOk_facts hv.1).2.1
      omega
    clear hv
    obtain ⟨ad, rfl, _, _⟩ := HS.out.at_ (k := 0) (by omega)
    go_enter Try.func24, Try.ntmps24
    go_wp2_with fail
    rw [← HW.out]
    refine CV.out.mono ?_; rintro e w1 ⟨rfl, nq, rfl⟩
    obtain ⟨w1, hw1⟩ : ∃ w1, w1 = wa.drewN nq := ⟨_, rfl⟩
    have b : Below wa.heap.size wa w1 := by subst hw1; exact below_drewN (Below.refl _ _) _
    rw [← hw1]
    have hlt := q1.lt; have hlt2 := q2.lt
    replace q1 := q1.below b q1.lt; replace q2 := q2.below b q2.lt; replace hb := seq_below hb b; replace HS := Lib.hid (HS.out.below b)
    have hge := b.size
    clear b hw1 CV HW
    go_wp2_with fail
    refine (c_sL03Copy _ _ _ _ _ _ _ _ _ q1 HS.out HN.out).mono ?_; rintro e w2 ⟨A', c', rfl, ho, b⟩
    rcases ho.2 with ⟨_, h0, _⟩ | ⟨gA, r, rfl, hgA, hp, hc⟩
    · rw [h0] at h1; simp at h1
    have hltA := hp.lt
    have hgA2 : w.heap.size + 1 < gA := by omega
    have HCM := Lib.hid ho.1; have HCC := Lib.hid hc
    replace q2 := q2.below b q2.lt; replace hb := seq_below hb b; clear b ho hgA hlt hlt2 hge q1 HS hc
    generalize hn : xs.length = n at *
    have HXN := Lib.hid hn; clear hn
    go_wp2_with (refine wpList_store_newest (cells := (strC (some ⟨gA, 0, none⟩) n c' a0 F G l).toArray) rfl 37 _ _ rfl rfl rfl info_str rfl rfl (fun w3 b4 hr => ?_); have hrA := Lib.hid (Nat.ne_of_gt hltA); have hrq := Lib.hid (Nat.ne_of_gt q2.lt); have hrb := Lib.hid hb.size; replace q2 := q2.below b4 q2.lt; replace hb := seq_below hb b4; have hp3 : PreR w3 gA xs r 25 := (show w3.heap[gA]? = _ from (b4.block gA hltA).trans hp); clear b4 hp)
    generalize w2.heap.size = g4 at *
    clear hltA
    go_loopw [5] (fun i wr => ∃ j : Nat, j ≤ n ∧ i = .int .i64 j ∧ PreR wr gA (mix (List.replicate n 0) xs j) r 25 ∧ Row wr g4 (strC (some ⟨gA, 0, none⟩) n c' a0 F G l).toArray 37 ∧ Row wr (w.heap.size + 1) (strC none 0 0 0 filZ filZ 0).toArray 37 ∧ Below w.heap.size w wr) (fun i _ => n - (intOf i).toNat)
    case atStart => exact ⟨0, by omega, rfl, by rw [mix_zero]; exact hp3, hr, q2, hb⟩
    case round =>
      clear hp3 hr q2 hb
      obtain ⟨j, hj, rfl, hp, hr, q2, hb⟩ := hrel
      have k0 : wr.cell? ⟨g4, 0, none⟩ = some (.slice (some ⟨gA, 0, none⟩) n c') := hr.cell 0 _ rfl
      by_cases hlt : j < n
      · have hml : (mix (List.replicate n 0) xs j).length = n := by rw [mix_length _ _ _ (by rw [HXN.out, List.length_replicate]), HXN.out]
        have c3 := hp.cell j (by rw [hml]; exact hlt)
        have f3 := hp.free j
        have hi : (0 : Int) ≤ j := by omega
        have hi2 : (j : Int) < n := by omega
        have hn3 : (n : Int) ≤ 1048576 := by have := HN.out; omega
        have HML := Lib.hid hml; clear hml
        go_wp2
        go_roundw
        case rel =>
          refine ⟨j + 1, by omega, by go_num, ?_, hr.other hrA.out _, q2.other (by omega) _, below_setCell hb (by omega) _⟩
          have e1 := mix_set (List.replicate n 0) xs j (by rw [HXN.out, List.length_replicate]) (by rw [HXN.out]; exact hlt)
          rw [nth_rep] at e1
          rw [← e1]
          exact hp.set _ _ (by rw [HML.out]; exact hlt)
        case measure => simp [intOf]; omega
      · have e : j = n := by omega
        subst e
        have hp4 : PreR wr gA (List.replicate j 0) r 25 := by
          have := mix_full (List.replicate j 0) xs (by rw [HXN.out, List.length_replicate])
          rw [HXN.out] at this
          rw [this] at hp; exact hp
        clear hp
        have hPW : Own wr w.heap.size (some ⟨gA, 0, none⟩) c' (List.replicate j 0) 25 := ⟨HCM.out, .inr ⟨gA, r, rfl, by omega, hp4, by rw [List.length_replicate]; exact HCC.out⟩⟩
        have hg4 : w.heap.size ≤ g4 := hrb.out
        go_wp2_with (first
          | (have _ := m1; refine wpList_store_partK rfl 27 _ _ rfl g4 12 rfl [.float .f32 0, .float .f32 0] rfl hr info_a2' rfl rfl (strC (some ⟨gA, 0, none⟩) j c' a0 (stillF F) (stillF G) l) rfl (fun w4 b q1n => ?_); replace q2 := q2.grown b (fun h => by injection h with h; exact hrq.out h.symm); replace hPW := hPW.kept b (fun k hk e => by cases e; cases hk; exact hrA.out rfl); replace hb := hb.trans (below_grownBy b hb.size (fun k hk => by cases hk; exact hg4)); clear b hr; have hr : Row _ g4 _ 37 := q1n; clear q1n)
          | (refine wpList_store_partK rfl 27 _ _ rfl g4 6 rfl [.float .f32 0, .float .f32 0] rfl hr info_a2' rfl rfl (strC (some ⟨gA, 0, none⟩) j c' a0 (stillF F) G l) rfl (fun w3 b q1n => ?_); replace q2 := q2.grown b (fun h => by injection h with h; exact hrq.out h.symm); replace hPW := hPW.kept b (fun k hk e => by cases e; cases hk; exact hrA.out rfl); replace hb := hb.trans (below_grownBy b hb.size (fun k hk => by cases hk; exact hg4)); clear b hr; have hr : Row _ g4 _ 37 := q1n; clear q1n; have m1 := True.intro)
          | (refine wpList_load_cells rfl 37 _ rfl _ rfl hr Try.underlying37 rfl info_str ?_)
          | (refine wpList_store_cells rfl 37 _ _ rfl _ rfl rfl q2 info_str rfl rfl ?_))
        have e4 : j = xs.length := HXN.out.symm
        clear HXN
        subst e4
        exact bodyPost_ret (results_cells_tmp (cs := (strC (some ⟨gA, 0, none⟩) xs.length c' a0 (stillF F) (stillF G) l).toArray) rfl _ _ _ rfl rfl (q2.row _) Try.underlying37 rfl info_str) rfl ⟨some ⟨gA, 0, none⟩, c', rfl, (by rw [muN_t]; exact hPW.kept (grownBy_setRow _ (w.heap.size + 1) _) (fun k hk e => by have h1 : gA = k := Option.some.inj hk; have h2 : k = w.heap.size + 1 := Option.some.inj e; omega)), below_setRow hb (Nat.le_succ _) _⟩
end Go.Proofs.Ytpchebclhjgcmaa
