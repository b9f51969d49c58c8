/- Tables of 257 sines. Written by gensf.py. No condition. -/
import Derived.Test.YtklnoiopogodiaaSe
namespace Go.Proofs.Ytklnoiopogodiaa
open Go.RowKit Go.Fl

theorem tz : Try.zeroCells28 = fl (List.replicate 257 0) := by kernel_rfl
theorem info_tab : (Try.prog.info? 28).map (·.size) = some 257 := by kernel_rfl
theorem tz_size : (Try.prog.info? 28).map (·.size) = some Try.zeroCells28.size := by kernel_rfl
theorem tz_one : Try.zeroCells28.toList.all (·.oneCell') = true := by kernel_rfl
set_option maxRecDepth 10000 in
set_option maxHeartbeats 4000000 in
theorem c_eqTable (xs ys : List Nat) (w : World) (hx : xs.length = 257) (hy : ys.length = 257) (h : ∀ j, j < 257 → cv .f32 (nth xs j) = cv .f32 (nth ys j)) :
    Calls Try.prog 14 #[.agg (fl xs), .agg (fl ys)] w fun e w' => e = .returned (.bool true) ∧ Below w.heap.size w w' := by
  have h1 : Blk ((w.alloc (.cells (fl xs) 28)).alloc (.cells (fl ys) 28)) w.heap.size xs 28 := (Blk.new _ _ _ _ rfl).alloc _
  have h2 : Blk ((w.alloc (.cells (fl xs) 28)).alloc (.cells (fl ys) 28)) (w.heap.size + 1) ys 28 := Blk.new _ _ _ _ (by simp)
  have hb : Below w.heap.size w ((w.alloc (.cells (fl xs) 28)).alloc (.cells (fl ys) 28)) := Go.Joins.below_alloc2 _ _ _
  have HX := Lib.hid hx; have HY := Lib.hid hy; have H := Lib.hid h; clear hx hy h
  go_enter Try.func14, Try.ntmps14
  go_wp2
  generalize hW : (w.alloc (.cells (fl xs) 28)).alloc (.cells (fl ys) 28) = W at *
  clear hW
  go_loopw [5] (fun i wr => ∃ k : Nat, k ≤ 257 ∧ i = .int .i64 k ∧ Below w.heap.size w wr ∧ Blk wr w.heap.size xs 28 ∧ Blk wr (w.heap.size + 1) ys 28) (fun i _ => 257 - (intOf i).toNat)
  case atStart => exact ⟨0, by omega, rfl, hb, h1, h2⟩
  case round =>
    clear hb h1 h2
    obtain ⟨k, hk, rfl, hb, h1, h2⟩ := hrel
    by_cases hlt : k < 257
    · have c1 := h1.cell k (by rw [HX.out]; exact hlt)
      have c2 := h2.cell k (by rw [HY.out]; exact hlt)
      have hi : (0 : Int) ≤ k := by omega
      have hi2 : (k : Int) < 257 := by omega
      have HK := Lib.hid (H.out k hlt)
      go_wp2
      go_region_with (go_at_call 11; refine (c_same32 _ _ _ _ _ HK.out).mono ?_; rintro e w' ⟨rfl, n, rfl⟩)
      all_goals go_wp2
      all_goals go_roundw
      all_goals first
        | exact ⟨k + 1, by omega, by go_num, below_drewN hb _, h1.drewN _, h2.drewN _⟩
        | (simp [intOf]; omega)
    · have e : k = 257 := by omega
      subst e
      go_wp2
      go_ret
      exact ⟨rfl, hb⟩
def TabTo (c : Nat → CF) (k : Nat) (ys : List Nat) : Prop := ys.length = 257 ∧ ∀ j, j < k → cv .f32 (nth ys j) = c j
theorem TabTo.zero (c : Nat → CF) (ys : List Nat) (h : ys.length = 257) : TabTo c 0 ys := ⟨h, fun j hj => by omega⟩
theorem TabTo.set {c : Nat → CF} {k : Nat} {ys : List Nat} (h : TabTo c k ys) (hk : k < 257) {x : Nat} (hx : cv .f32 x = c k) : TabTo c (k + 1) (ys.set k x) := by
  refine ⟨by simp [h.1], fun j hj => ?_⟩
  by_cases e : j = k
  · subst e
    unfold nth
    rw [List.getD_eq_getElem?_getD, List.getElem?_set_self (by rw [h.1]; exact hk)]
    exact hx
  · unfold nth
    rw [List.getD_eq_getElem?_getD, List.getElem?_set_ne (by omega)]
    have := h.2 j (by omega)
    unfold nth at this
    rw [List.getD_eq_getElem?_getD] at this
    exact this
def tabC (j : Nat) : CF := sineC (cop .quo .f32 (cv .f32 (floatOfInt .f32 (j : Int))) (cv .f32 1132462080))
theorem tab_at {r j : Nat} {w : World} (h : cv .f32 r = sineC (cv .f32 (fval .quo .f32 (floatOfInt .f32 (j : Int)) 1132462080 w))) : cv .f32 r = tabC j := by
  rw [h, cv_fval]; rfl
theorem Row.rowOther {w : World} {g : Nat} {cs : Array Value} {t : TypeId} (h : Row w g cs t) {k : Nat} (hk : g ≠ k) (ds : Array Value) : Row (w.setRow k ds) g cs t := by
  unfold Row
  rw [setRow_other w k g ds hk]; exact h
section
variable {P : Program} {ops : Array Oper} {rest : List Oper} {o : Oper} {a : Act} {Q : Exit → Act → World → Prop}
theorem wpList_store_tab (hgd : o.guard = none) (ty : TypeId) (x y : Operand) (ho : o.op = .store ty x y) {w0 : World} (hx : a.eval x = .pointer (some ⟨w0.heap.size, 0, none⟩)) {ys : List Nat} (hy : a.eval y = .agg (fl ys)) {t : TypeId}
    (hi : (P.info? ty).map (·.size) = some 257) (hn : ys.length = 257) (h : ∀ w', Below w0.heap.size w0 w' → Blk w' w0.heap.size ys t → wpList P ops Q rest (a.put o.dst undef) w') : wpList P ops Q (o :: rest) a (w0.alloc (.cells Try.zeroCells28 t)) :=
  wpList_store_blk hgd ty x y ho _ hx hy (Blk.newRow w0 (List.replicate 257 0) _ t _ rfl tz) hi hn (List.length_replicate ..) (h _ (below_setRow (Go.Joins.below_alloc1 _ _) (Nat.le_refl _) _) ((Blk.newRow w0 (List.replicate 257 0) _ t _ rfl tz).row ys))
end
theorem c_sSineTable (w : World) : Calls Try.prog 12 #[] w fun e w' => ∃ rs, e = .returned (.agg (fl rs)) ∧ TabTo tabC 257 rs ∧ Below w.heap.size w w' := by
  have q1 : Row ((w.alloc (.cells Try.zeroCells28 28)).alloc (.cells Try.zeroCells28 28)) w.heap.size Try.zeroCells28 28 := (Row.new _ _ _ _ rfl).alloc _
  have q2 : Row ((w.alloc (.cells Try.zeroCells28 28)).alloc (.cells Try.zeroCells28 28)) (w.heap.size + 1) Try.zeroCells28 28 := Row.new _ _ _ _ (by simp)
  have q3 : Below w.heap.size w ((w.alloc (.cells Try.zeroCells28 28)).alloc (.cells Try.zeroCells28 28)) := Go.Joins.below_alloc2 _ _ _
  go_enter Try.func12, Try.ntmps12
  go_wp2_with (refine wpList_store_cells rfl 28 _ _ rfl _ rfl rfl q2 tz_size rfl tz_one ?_; generalize hW : ((w.alloc (.cells Try.zeroCells28 28)).alloc (.cells Try.zeroCells28 28)).setRow (w.heap.size + 1) Try.zeroCells28 = W; replace q3 : Below w.heap.size w W := (by rw [← hW]; exact below_setRow q3 (by omega) _); replace q1 : Row W w.heap.size Try.zeroCells28 28 := (by rw [← hW]; exact Row.rowOther q1 (by omega) _); replace q2 : Row W (w.heap.size + 1) Try.zeroCells28 28 := (by rw [← hW]; exact q2.row _); clear hW)
  unfold Row at q1 q2
  rw [tz] at q1 q2
  replace q1 : Blk W w.heap.size (List.replicate 257 0) 28 := q1
  replace q2 : Blk W (w.heap.size + 1) (List.replicate 257 0) 28 := q2
  go_loopw [2] (fun i wr => ∃ (k : Nat) (ys : List Nat), k ≤ 257 ∧ i = .int .i64 k ∧ Below w.heap.size w wr ∧ Blk wr w.heap.size (List.replicate 257 0) 28 ∧ Blk wr (w.heap.size + 1) ys 28 ∧ TabTo tabC k ys) (fun i _ => 257 - (intOf i).toNat)
  case atStart => exact ⟨0, _, by omega, rfl, q3, q1, q2, TabTo.zero _ _ (List.length_replicate ..)⟩
  case round =>
    clear q1 q2 q3
    obtain ⟨k, ys, hk, rfl, hb, hR, h0, hd⟩ := hrel
    have hsz := hb.size
    by_cases hlt : k < 257
    · have hi : (0 : Int) ≤ k := by omega
      have hi2 : (k : Int) < 257 := by omega
      have hi3 : (k : Int) ≤ 256 := by omega
      have HD := Lib.hid hd; clear hd
      go_wp2_with fail
      refine (c_l01Sine _ _).mono ?_; rintro e w1 ⟨r, rfl, hr, b⟩
      have HC := Lib.hid (tab_at hr); clear hr
      replace b := below_drop b
      replace h0 := h0.below b h0.lt; replace hR := hR.below b hR.lt; replace hb := seq_below hb b; clear b
      have c0 := h0.cell k (by rw [HD.out.1]; exact hlt)
      have f0 := h0.free k
      go_wp2
      go_roundw
      case rel => exact ⟨k + 1, ys.set k _, by omega, by go_num, below_setCell hb (by omega) _, hR.other (by omega) _, h0.set _ _, HD.out.set hlt HC.out⟩
      case measure => simp [intOf]; omega
    · have e : k = 257 := by omega
      subst e
      have hl := Lib.hid hd.1; have HD := Lib.hid hd; clear hd
      go_wp2_with (first | (refine wpList_load_blk rfl 28 _ rfl _ rfl h0 Try.underlying28 info_tab hl.out ?_) | (refine wpList_store_blk rfl 28 _ _ rfl _ rfl rfl hR info_tab hl.out (List.length_replicate ..) ?_))
      exact bodyPost_ret (results_blk rfl _ _ _ rfl (hR.row ys) Try.underlying28 info_tab hl.out) rfl ⟨ys, rfl, HD.out, below_setRow hb (by omega) _⟩
theorem c_iSineTable (w : World) : Calls Try.prog 13 #[] w fun e w' => ∃ rs, e = .returned (.agg (fl rs)) ∧ TabTo tabC 257 rs ∧ Below w.heap.size w w' := by
  have q1 : Row ((w.alloc (.cells Try.zeroCells28 28)).alloc (.cells Try.zeroCells28 28)) w.heap.size Try.zeroCells28 28 := (Row.new _ _ _ _ rfl).alloc _
  have q2 : Row ((w.alloc (.cells Try.zeroCells28 28)).alloc (.cells Try.zeroCells28 28)) (w.heap.size + 1) Try.zeroCells28 28 := Row.new _ _ _ _ (by simp)
  have q3 : Below w.heap.size w ((w.alloc (.cells Try.zeroCells28 28)).alloc (.cells Try.zeroCells28 28)) := Go.Joins.below_alloc2 _ _ _
  go_enter Try.func13, Try.ntmps13
  go_wp2_with fail
  generalize hW : (w.alloc (.cells Try.zeroCells28 28)).alloc (.cells Try.zeroCells28 28) = W at *
  clear hW
  unfold Row at q1 q2
  rw [tz] at q1 q2
  replace q1 : Blk W w.heap.size (List.replicate 257 0) 28 := q1
  replace q2 : Blk W (w.heap.size + 1) (List.replicate 257 0) 28 := q2
  go_loopw [3] (fun i wr => ∃ (k : Nat) (ys : List Nat), k ≤ 257 ∧ i = .int .i64 k ∧ Below w.heap.size w wr ∧ Blk wr w.heap.size (List.replicate 257 0) 28 ∧ Blk wr (w.heap.size + 1) ys 28 ∧ TabTo tabC k ys) (fun i _ => 257 - (intOf i).toNat)
  case atStart => exact ⟨0, _, by omega, rfl, q3, q1, q2, TabTo.zero _ _ (List.length_replicate ..)⟩
  case round =>
    clear q1 q2 q3
    obtain ⟨k, ys, hk, rfl, hb, hR, h0, hd⟩ := hrel
    have hsz := hb.size
    by_cases hlt : k < 257
    · have hi : (0 : Int) ≤ k := by omega
      have hi2 : (k : Int) < 257 := by omega
      have hi3 : (k : Int) ≤ 256 := by omega
      have HD := Lib.hid hd; clear hd
      go_wp2_with fail
      refine (c_SineOf _ _).mono ?_; rintro e w1 ⟨r, rfl, hr, b⟩
      have HC := Lib.hid (tab_at hr); clear hr
      replace b := below_drop b
      replace h0 := h0.below b h0.lt; replace hR := hR.below b hR.lt; replace hb := seq_below hb b; clear b
      have c0 := h0.cell k (by rw [HD.out.1]; exact hlt)
      have f0 := h0.free k
      go_wp2
      go_roundw
      case rel => exact ⟨k + 1, ys.set k _, by omega, by go_num, below_setCell hb (by omega) _, hR.other (by omega) _, h0.set _ _, HD.out.set hlt HC.out⟩
      case measure => simp [intOf]; omega
    · have e : k = 257 := by omega
      subst e
      have hl := Lib.hid hd.1; have HD := Lib.hid hd; clear hd
      go_wp2_with (first | (refine wpList_load_blk rfl 28 _ rfl _ rfl h0 Try.underlying28 info_tab hl.out ?_) | (refine wpList_store_blk rfl 28 _ _ rfl _ rfl rfl hR info_tab hl.out (List.length_replicate ..) ?_))
      exact bodyPost_ret (results_blk rfl _ _ _ rfl (hR.row ys) Try.underlying28 info_tab hl.out) rfl ⟨ys, rfl, HD.out, below_setRow hb (by omega) _⟩
end Go.Proofs.Ytklnoiopogodiaa
