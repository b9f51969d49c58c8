/- Filters as arguments: their cells; arrays of three and two copied; filters copied. No condition. -/
import Derived.Test.YtpchebclhjgcmaaTe
import Derived.Test.YtpchebclhjgcmaaC2
namespace Go.Fl
open Go.RowKit Go.ChangeShapes Go.WideShapes Go.WideElems
/-- A filter's cells. -/
def filC (k : Int) (c0 c1 c2 s0 s1 : Nat) : List Value := [.int .i64 k, .float .f32 c0, .float .f32 c1, .float .f32 c2, .float .f32 s0, .float .f32 s1]
section
variable {H : Type} {enc : TypeId × Value → H} {P : Program} {w : World} {base : Nat} {spare : Nat → Bool} {held : Bool} {t e : TypeId} {fuel : Nat} {cs : List Value} {x : DataW H × List MemPlace}
theorem trod_farr {n : Nat} (ht : P.underlying t = some (.array n e)) (he : P.underlying e = some (.float .f32)) (hc : P.cellsOf e = 1) (hn : P.cellsOf t = n) (hf : DataW.trod enc P w base spare held fuel t cs = some x) :
    ∃ xs : List Nat, cs = fll xs ∧ xs.length = n := by
  obtain ⟨ys, m, rfl, _, hl, hy, hget⟩ := DataW.trod_array ht hf
  rw [hn] at hl
  have key : ∀ i (hi : i < cs.length), cs[i] = .float .f32 (bitsV cs[i]) := by
    intro i hi
    have h1 := hget i (by omega)
    simp only [hc, Nat.mul_one] at h1
    have e1 : List.take 1 (List.drop i cs) = [cs[i]] := by
      rw [List.drop_eq_getElem_cons hi]; rfl
    rw [e1, List.getElem?_eq_getElem (by omega)] at h1
    exact (trod_f32 he h1).1
  refine ⟨cs.map bitsV, ?_, by simpa using hl⟩
  unfold fll
  rw [List.map_map]
  apply List.ext_getElem (by simp)
  intro i h1 h2
  rw [List.getElem_map]
  exact key i h1
theorem trod_filt {f0 f1 f2 : Field} {e1 e2 : TypeId} (ht : P.underlying t = some (.struct #[f0, f1, f2])) (o0 : f0.offset = 0) (o1 : f1.offset = 1) (o2 : f2.offset = 4) (c0 : P.cellsOf f0.type = 1) (c1 : P.cellsOf f1.type = 3) (c2 : P.cellsOf f2.type = 2) (ct : P.cellsOf t = 6)
    (hi : P.underlying f0.type = some (.int .i64)) (h3 : P.underlying f1.type = some (.array 3 e1)) (h2 : P.underlying f2.type = some (.array 2 e2)) (he1 : P.underlying e1 = some (.float .f32)) (he2 : P.underlying e2 = some (.float .f32)) (hc1 : P.cellsOf e1 = 1) (hc2 : P.cellsOf e2 = 1)
    (hf : DataW.trod enc P w base spare held fuel t cs = some x) : ∃ (k : Int) (a0 a1 a2 b0 b1 : Nat), cs = filC k a0 a1 a2 b0 b1 ∧ (Lit.int .i64 k).wf = true := by
  obtain ⟨ys, m, _, _, hl, hlen, hfs⟩ := DataW.trod_struct ht hf
  rw [ct] at hl
  match cs, hl with
  | [v0, v1, v2, v3, v4, v5], _ =>
    match ys, hlen with
    | [y0, y1, y2], _ =>
      have q0 := hfs 0 f0 rfl
      have q1 := hfs 1 f1 rfl
      have q2 := hfs 2 f2 rfl
      rw [o0, c0] at q0; rw [o1, c1] at q1; rw [o2, c2] at q2
      have q0' : DataW.trod enc P w base spare held m f0.type [v0] = some y0 := q0
      have q1' : DataW.trod enc P w base spare held m f1.type [v1, v2, v3] = some y1 := q1
      have q2' : DataW.trod enc P w base spare held m f2.type [v4, v5] = some y2 := q2
      obtain ⟨n, e3, _, hw⟩ := DataW.trod_int hi q0'
      obtain ⟨l1, g1, g2⟩ := trod_farr h3 he1 hc1 c1 q1'
      obtain ⟨l2, g3, g4⟩ := trod_farr h2 he2 hc2 c2 q2'
      match l1, g2, l2, g4 with
      | [a0, a1, a2], _, [b0, b1], _ =>
        cases e3
        simp only [fll, List.map_cons, List.map_nil, List.cons.injEq, and_true] at g1 g3
        obtain ⟨rfl, rfl, rfl⟩ := g1
        obtain ⟨rfl, rfl⟩ := g3
        exact ⟨n, a0, a1, a2, b0, b1, rfl, hw⟩
theorem open_filt {r : Reach} {b0 : Nat} {v : Value} {d : DataW H} {ps : List MemPlace} {f0 f1 f2 : Field} {e1 e2 : TypeId} (ht : P.underlying t = some (.struct #[f0, f1, f2])) (o0 : f0.offset = 0) (o1 : f1.offset = 1) (o2 : f2.offset = 4) (c0 : P.cellsOf f0.type = 1) (c1 : P.cellsOf f1.type = 3) (c2 : P.cellsOf f2.type = 2) (ct : P.cellsOf t = 6)
    (hi : P.underlying f0.type = some (.int .i64)) (h3 : P.underlying f1.type = some (.array 3 e1)) (h2 : P.underlying f2.type = some (.array 2 e2)) (he1 : P.underlying e1 = some (.float .f32)) (he2 : P.underlying e2 = some (.float .f32)) (hc1 : P.cellsOf e1 = 1) (hc2 : P.cellsOf e2 = 1)
    (hval : Value.okWide P w r b0 t v) (hd : DataW.Trod enc P w base spare held t v d ps) : ∃ (k : Int) (a0 a1 a2 b0 b1 : Nat), v = .agg (filC k a0 a1 a2 b0 b1).toArray ∧ (Lit.int .i64 k).wf = true := by
  simp only [Value.okWide, ht] at hval
  obtain ⟨cs, rfl, hz, _⟩ := hval
  obtain ⟨fuel, hf⟩ := hd
  obtain ⟨k, a0, a1, a2, b0, b1, h, hw⟩ := trod_filt ht o0 o1 o2 c0 c1 c2 ct hi h3 h2 he1 he2 hc1 hc2 hf
  refine ⟨k, a0, a1, a2, b0, b1, ?_, hw⟩
  have h' : cs.toList = filC k a0 a1 a2 b0 b1 := h
  rw [← h']
end
end Go.Fl
namespace Go.Proofs.Ytpchebclhjgcmaa
open Go.RowKit Go.Fl
theorem info_a3 : (Try.prog.info? 26).map (·.size) = some 3 := by kernel_rfl
set_option maxHeartbeats 1000000 in
theorem c_toFloat32A3 (xs : List Nat) (w : World) (hx : xs.length = 3) :
    Calls Try.prog 87 #[.agg (fl xs)] w fun e w' => e = .returned (.agg (fl xs)) ∧ Below w.heap.size w w' := by
  have HX := Lib.hid hx; clear hx
  go_enter Try.func87, Try.ntmps87
  go_wp2
  go_loopw [4] (fun i wr => ∃ k : Nat, k ≤ 3 ∧ i = .int .i64 k ∧ Below w.heap.size w wr ∧ Blk wr w.heap.size xs 26 ∧ Blk wr (w.heap.size + 1) (List.replicate 3 0) 26 ∧ Blk wr (w.heap.size + 1 + 1) (mix xs (List.replicate 3 0) k) 26) (fun i _ => 3 - (intOf i).toNat)
  case atStart =>
    refine ⟨0, by omega, rfl, ?_, ?_, ?_, ?_⟩
    · exact Go.Joins.below_alloc3 _ _ _ _
    · exact ((Blk.new _ _ _ _ rfl).alloc _).alloc _
    · refine (Blk.newRow _ _ _ _ _ ?_ ?_).alloc _
      · simp
      · rfl
    · refine Blk.newRow _ _ _ _ _ ?_ ?_
      · simp
      · rw [mix_zero]; rfl
  case round =>
    obtain ⟨k, hk, rfl, hb, h1, h2, h3⟩ := hrel
    have hsz := hb.size
    by_cases hlt : k < 3
    · have c1 := h1.cell k (by rw [HX.out]; exact hlt)
      have c3 := h3.cell k (by rw [mix_length _ _ _ (by rw [HX.out, List.length_replicate]), List.length_replicate]; exact hlt)
      have f3 := h3.free k
      have hi : (0 : Int) ≤ k := by omega
      have hi2 : (k : Int) < 3 := by omega
      have hn1 : w.heap.size ≠ w.heap.size + 1 + 1 := by omega
      have hn2 : w.heap.size + 1 ≠ w.heap.size + 1 + 1 := by omega
      go_wp2
      go_roundw
      case rel =>
        refine ⟨k + 1, by omega, by go_num, below_setCell hb (by omega) _, h1.other (by omega) _, h2.other (by omega) _, ?_⟩
        rw [← mix_set _ _ _ (by rw [HX.out, List.length_replicate]) (by rw [List.length_replicate]; exact hlt)]
        exact h3.set _ _
      case measure => simp [intOf]; omega
    · have e : k = 3 := by omega
      subst e
      have h4 : Blk wr (w.heap.size + 1 + 1) xs 26 := by
        have := mix_full xs (List.replicate 3 0) (by rw [HX.out, List.length_replicate])
        rw [List.length_replicate] at this
        rw [this] at h3; exact h3
      clear h3
      go_wp2_with (first | (refine wpList_load_blk rfl 26 _ rfl _ rfl h4 Try.underlying26 info_a3 HX.out ?_) | (refine wpList_store_blk rfl 26 _ _ rfl _ rfl rfl h2 info_a3 HX.out rfl ?_))
      exact bodyPost_ret (results_blk rfl _ _ _ rfl (h2.row xs) Try.underlying26 info_a3 HX.out) rfl ⟨rfl, below_setRow hb (by omega) _⟩
theorem info_a2 : (Try.prog.info? 27).map (·.size) = some 2 := by kernel_rfl
set_option maxHeartbeats 1000000 in
theorem c_toFloat32A2 (xs : List Nat) (w : World) (hx : xs.length = 2) :
    Calls Try.prog 88 #[.agg (fl xs)] w fun e w' => e = .returned (.agg (fl xs)) ∧ Below w.heap.size w w' := by
  have HX := Lib.hid hx; clear hx
  go_enter Try.func88, Try.ntmps88
  go_wp2
  go_loopw [4] (fun i wr => ∃ k : Nat, k ≤ 2 ∧ i = .int .i64 k ∧ Below w.heap.size w wr ∧ Blk wr w.heap.size xs 27 ∧ Blk wr (w.heap.size + 1) (List.replicate 2 0) 27 ∧ Blk wr (w.heap.size + 1 + 1) (mix xs (List.replicate 2 0) k) 27) (fun i _ => 2 - (intOf i).toNat)
  case atStart =>
    refine ⟨0, by omega, rfl, ?_, ?_, ?_, ?_⟩
    · exact Go.Joins.below_alloc3 _ _ _ _
    · exact ((Blk.new _ _ _ _ rfl).alloc _).alloc _
    · refine (Blk.newRow _ _ _ _ _ ?_ ?_).alloc _
      · simp
      · rfl
    · refine Blk.newRow _ _ _ _ _ ?_ ?_
      · simp
      · rw [mix_zero]; rfl
  case round =>
    obtain ⟨k, hk, rfl, hb, h1, h2, h3⟩ := hrel
    have hsz := hb.size
    by_cases hlt : k < 2
    · have c1 := h1.cell k (by rw [HX.out]; exact hlt)
      have c3 := h3.cell k (by rw [mix_length _ _ _ (by rw [HX.out, List.length_replicate]), List.length_replicate]; exact hlt)
      have f3 := h3.free k
      have hi : (0 : Int) ≤ k := by omega
      have hi2 : (k : Int) < 2 := by omega
      have hn1 : w.heap.size ≠ w.heap.size + 1 + 1 := by omega
      have hn2 : w.heap.size + 1 ≠ w.heap.size + 1 + 1 := by omega
      go_wp2
      go_roundw
      case rel =>
        refine ⟨k + 1, by omega, by go_num, below_setCell hb (by omega) _, h1.other (by omega) _, h2.other (by omega) _, ?_⟩
        rw [← mix_set _ _ _ (by rw [HX.out, List.length_replicate]) (by rw [List.length_replicate]; exact hlt)]
        exact h3.set _ _
      case measure => simp [intOf]; omega
    · have e : k = 2 := by omega
      subst e
      have h4 : Blk wr (w.heap.size + 1 + 1) xs 27 := by
        have := mix_full xs (List.replicate 2 0) (by rw [HX.out, List.length_replicate])
        rw [List.length_replicate] at this
        rw [this] at h3; exact h3
      clear h3
      go_wp2_with (first | (refine wpList_load_blk rfl 27 _ rfl _ rfl h4 Try.underlying27 info_a2 HX.out ?_) | (refine wpList_store_blk rfl 27 _ _ rfl _ rfl rfl h2 info_a2 HX.out rfl ?_))
      exact bodyPost_ret (results_blk rfl _ _ _ rfl (h2.row xs) Try.underlying27 info_a2 HX.out) rfl ⟨rfl, below_setRow hb (by omega) _⟩
theorem c_toA3 (a b c : Nat) (w : World) : Calls Try.prog 87 #[.agg #[.float .f32 a, .float .f32 b, .float .f32 c]] w fun e w' => e = .returned (.agg #[.float .f32 a, .float .f32 b, .float .f32 c]) ∧ Below w.heap.size w w' := c_toFloat32A3 [a, b, c] w rfl
theorem c_toA2 (a b : Nat) (w : World) : Calls Try.prog 88 #[.agg #[.float .f32 a, .float .f32 b]] w fun e w' => e = .returned (.agg #[.float .f32 a, .float .f32 b]) ∧ Below w.heap.size w w' := c_toFloat32A2 [a, b] w rfl
theorem info_filt : (Try.prog.info? 35).map (·.size) = some 6 := by kernel_rfl
set_option maxHeartbeats 1000000 in
theorem c_toFilter (k : Int) (c0 c1 c2 s0 s1 : Nat) (w : World) :
    Calls Try.prog 46 #[.agg (filC k c0 c1 c2 s0 s1).toArray] w fun e w' => e = .returned (.agg (filC k c0 c1 c2 s0 s1).toArray) ∧ Below w.heap.size w w' := by
  unfold filC
  obtain ⟨C1, hC1⟩ : ∃ C : Array Value, C = #[.int .i64 k, .float .f32 c0, .float .f32 c1, .float .f32 c2, .float .f32 s0, .float .f32 s1] := ⟨_, rfl⟩
  obtain ⟨C2, hC2⟩ : ∃ C : Array Value, C = #[.int .i64 0, .float .f32 0, .float .f32 0, .float .f32 0, .float .f32 0, .float .f32 0] := ⟨_, rfl⟩
  obtain ⟨C3, hC3⟩ : ∃ C : Array Value, C = #[.int .i64 k, .float .f32 0, .float .f32 0, .float .f32 0, .float .f32 0, .float .f32 0] := ⟨_, rfl⟩
  have q1 : Row (((w.alloc (.cells C1 29)).alloc (.cells C2 35)).alloc (.cells C3 35)) w.heap.size C1 29 := ((Row.new _ _ _ _ rfl).alloc _).alloc _
  have q2 : Row (((w.alloc (.cells C1 29)).alloc (.cells C2 35)).alloc (.cells C3 35)) (w.heap.size + 1) C2 35 := (Row.new _ _ _ _ (by simp)).alloc _
  have q3 : Row (((w.alloc (.cells C1 29)).alloc (.cells C2 35)).alloc (.cells C3 35)) (w.heap.size + 1 + 1) C3 35 := Row.new _ _ _ _ (by simp)
  have hb : Below w.heap.size w (((w.alloc (.cells C1 29)).alloc (.cells C2 35)).alloc (.cells C3 35)) := Go.Joins.below_alloc3 _ _ _ _
  subst hC1; subst hC2; subst hC3
  have Q1 := Lib.hid q1; have Q2 := Lib.hid q2; have Q3 := Lib.hid q3; have HB := Lib.hid hb
  clear q1 q2 q3 hb
  go_enter Try.func46, Try.ntmps46
  go_wp2_with fail
  refine (c_toA3 _ _ _ _).mono ?_; rintro e w1 ⟨rfl, b⟩
  have q1 := Q1.out.below b Q1.out.lt; have q2 := Q2.out.below b Q2.out.lt; have q3 := Q3.out.below b Q3.out.lt; have hb := seq_below HB.out b
  clear b Q1 Q2 Q3 HB
  have p4 := q1.cell 4 _ rfl; have p5 := q1.cell 5 _ rfl
  have r1 := q3.cell 1 _ rfl; have z1 := q3.free 1; have r2 := q3.cell 2 _ rfl; have z2 := q3.free 2; have r3 := q3.cell 3 _ rfl; have z3 := q3.free 3
  have n1 : w.heap.size ≠ w.heap.size + 1 + 1 := by omega
  go_wp2_with fail
  have q2' := ((q2.other (b := w.heap.size + 1 + 1) (off := 1) (by omega) (.float .f32 c0)).other (b := w.heap.size + 1 + 1) (off := 2) (by omega) (.float .f32 c1)).other (b := w.heap.size + 1 + 1) (off := 3) (by omega) (.float .f32 c2)
  have q3' := ((q3.set 1 (.float .f32 c0)).set 2 (.float .f32 c1)).set 3 (.float .f32 c2)
  have hb' := below_setCell (below_setCell (below_setCell hb (b := w.heap.size + 1 + 1) (off := 1) (by omega) (.float .f32 c0)) (b := w.heap.size + 1 + 1) (off := 2) (by omega) (.float .f32 c1)) (b := w.heap.size + 1 + 1) (off := 3) (by omega) (.float .f32 c2)
  clear p4 p5 r1 r2 r3 z1 z2 z3 q1 q2 q3 hb
  refine (c_toA2 _ _ _).mono ?_; rintro e w2 ⟨rfl, b⟩
  have q2 := q2'.below b q2'.lt; have q3 := q3'.below b q3'.lt; have hb := seq_below hb' b
  clear b q2' q3' hb'
  have r4 := q3.cell 4 _ rfl; have z4 := q3.free 4; have r5 := q3.cell 5 _ rfl; have z5 := q3.free 5
  have q3' := (q3.set 4 (.float .f32 s0)).set 5 (.float .f32 s1)
  have q2' := (q2.other (b := w.heap.size + 1 + 1) (off := 4) (by omega) (.float .f32 s0)).other (b := w.heap.size + 1 + 1) (off := 5) (by omega) (.float .f32 s1)
  have hb' := below_setCell (below_setCell hb (b := w.heap.size + 1 + 1) (off := 4) (by omega) (.float .f32 s0)) (b := w.heap.size + 1 + 1) (off := 5) (by omega) (.float .f32 s1)
  go_wp2_with (first
    | (refine wpList_load_cells (cells := #[.int .i64 k, .float .f32 c0, .float .f32 c1, .float .f32 c2, .float .f32 s0, .float .f32 s1]) rfl 35 _ rfl _ rfl q3' Try.underlying35 rfl info_filt ?_)
    | (refine wpList_store_cells (cells := #[.int .i64 k, .float .f32 c0, .float .f32 c1, .float .f32 c2, .float .f32 s0, .float .f32 s1]) rfl 35 _ _ rfl _ rfl rfl q2' info_filt rfl rfl ?_))
  exact bodyPost_ret (results_cells rfl _ _ _ rfl (q2'.row _) Try.underlying35 rfl info_filt) rfl ⟨rfl, below_setRow hb' (by omega) _⟩
end Go.Proofs.Ytpchebclhjgcmaa
