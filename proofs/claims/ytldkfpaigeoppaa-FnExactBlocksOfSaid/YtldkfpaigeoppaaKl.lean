/- BlocksOf, in the program: the loop over slices.Chunk. No condition. -/
import Derived.Test.YtldkfpaigeoppaaKj
namespace Go.Proofs.Ytldkfpaigeoppaa
open Go.RowKit Go.Fl Go.Shelf
theorem flat_range (xs : List Nat) : ∀ p, 16 * p ≤ xs.length + 15 → (List.range p).flatMap (fullB xs) = padB xs (min (16 * p) xs.length)
  | 0, _ => by simp [padB_zero]
  | p + 1, h => by
    rw [List.range_succ, List.flatMap_append, flat_range xs p (by omega)]
    have e : min (16 * p) xs.length = 16 * p := by omega
    rw [e]
    simp only [List.flatMap_cons, List.flatMap_nil, List.append_nil]
    exact padB_chunk (by omega)
theorem flat_len (xs : List Nat) : ∀ pre : List Nat, (pre.flatMap (fullB xs)).length = 16 * pre.length
  | [] => rfl
  | p :: pre => by
    rw [List.flatMap_cons, List.length_append, fullB_length, flat_len xs pre, List.length_cons]; omega
theorem news_at (w : World) (t : TypeId) (news : List Value) : ∀ (j : Nat) (u : Value), news[j]? = some u → (w.alloc (.cells news.toArray t)).cell? ((⟨w.heap.size, 0, none⟩ : Addr).add j) = some u := by
  intro j u hu
  have e2 : (⟨w.heap.size, 0, none⟩ : Addr).add j = ⟨w.heap.size, j, none⟩ := by unfold Addr.add; split <;> simp_all
  rw [e2, Go.Joins.cell_of_block (heap_alloc_new w _)]
  simpa using hu
theorem len_cons {n : Nat} {l : List Nat} (h : l.length = n + 1) : ∃ x r, l = x :: r ∧ r.length = n := by
  match l, h with
  | x :: r, h => exact ⟨x, r, rfl, by simpa using h⟩
theorem fold16 (ys : List Nat) (h : ys.length = 16) : Array.foldl (fun (cs : Array Value) (x : Value × Nat) => cs.setIfInBounds x.snd x.fst) #[.float .f32 0, .float .f32 0, .float .f32 0, .float .f32 0, .float .f32 0, .float .f32 0, .float .f32 0, .float .f32 0, .float .f32 0, .float .f32 0, .float .f32 0, .float .f32 0, .float .f32 0, .float .f32 0, .float .f32 0, .float .f32 0] (fl ys).zipIdx 0 16 = fl ys := by
  obtain ⟨y0, r0, rfl, h0⟩ := len_cons h
  obtain ⟨y1, r1, rfl, h1⟩ := len_cons h0
  obtain ⟨y2, r2, rfl, h2⟩ := len_cons h1
  obtain ⟨y3, r3, rfl, h3⟩ := len_cons h2
  obtain ⟨y4, r4, rfl, h4⟩ := len_cons h3
  obtain ⟨y5, r5, rfl, h5⟩ := len_cons h4
  obtain ⟨y6, r6, rfl, h6⟩ := len_cons h5
  obtain ⟨y7, r7, rfl, h7⟩ := len_cons h6
  obtain ⟨y8, r8, rfl, h8⟩ := len_cons h7
  obtain ⟨y9, r9, rfl, h9⟩ := len_cons h8
  obtain ⟨y10, r10, rfl, h10⟩ := len_cons h9
  obtain ⟨y11, r11, rfl, h11⟩ := len_cons h10
  obtain ⟨y12, r12, rfl, h12⟩ := len_cons h11
  obtain ⟨y13, r13, rfl, h13⟩ := len_cons h12
  obtain ⟨y14, r14, rfl, h14⟩ := len_cons h13
  obtain ⟨y15, r15, rfl, h15⟩ := len_cons h14
  obtain rfl := List.eq_nil_of_length_eq_zero h15
  simp [fl]
attribute [local go_sem] Oper.semAt_some
theorem info_f32k : (Try.prog.info? 39).map (·.size) = some 1 := by kernel_rfl
theorem info_blkk : (Try.prog.info? 41).map (·.size) = some 16 := by kernel_rfl
theorem c_iBlocksOf_no (A : Option Addr) (c : Nat) (xs : List Nat) (w : World) (h : (4096 : Int) < xs.length) :
    Calls Try.prog 11 #[.slice A xs.length c] w (BkPost xs w) := by
  have HR : Hid (BkRel xs 0 [] 3) := Lib.hid (.inr ⟨by omega, rfl, rfl, rfl⟩)
  generalize hn : xs.length = n at *
  go_enter Try.func11, Try.ntmps11
  go_wp2
  go_ret2
  exact ⟨none, 0, 0, [], 3, rfl, ⟨rfl, .inl rfl⟩, HR.out, Below.refl _ _⟩
set_option maxRecDepth 100000 in
set_option maxHeartbeats 2000000 in
theorem c_iBlocksOf (ad : Addr) (c : Nat) (xs : List Nat) (w : World) (hs : Sl w (some ad) xs) (hc : (xs.length : Int) ≤ c) (hl : (xs.length : Int) ≤ 4096) :
    Calls Try.prog 11 #[.slice (some ad) xs.length c] w (BkPost xs w) := by
  have HR : Hid (BkRel xs ((xs.length + 15) / 16) (padB xs xs.length) 0) := Lib.hid (.inl ⟨by omega, rfl, rfl, rfl⟩)
  have HF : Hid ((List.range ((xs.length + 15) / 16)).flatMap (fullB xs) = padB xs xs.length) := Lib.hid (by
    rw [flat_range xs _ (by omega)]
    congr 1; omega)
  have HS := Lib.hid hs; clear hs
  obtain ⟨i0, hi, hz0, hz1, hz2⟩ := info_parts info_blkf
  generalize hn : xs.length = n at *
  have HN := Lib.hid hn; clear hn
  refine (callsIn_wide (n := 3)).1 ?_
  refine callsIn_of_wp_marks Try.func11 rfl trivial ?_ rfl
  simp only [Try.ntmps11, List.size_toArray, List.length_cons, List.length_nil, Nat.reduceAdd, Nat.reduceSub, Array.replicate_succ, Array.replicate_zero, List.push_toArray, List.append_toArray, List.nil_append, List.cons_append]
  gi_wp2
  refine ⟨trivial, (chunk_in 2 _ _ _ _).mono ?_⟩
  rintro e w' ⟨rfl, rfl⟩
  gi_wp2
  have bO := Boxed.new w 23 (.slice none 0 0)
  have bS := Boxed.new (w.alloc (.cells #[.slice none 0 0] 23)) 22 (.slice (some ad) n c)
  have bN := Boxed.new ((w.alloc (.cells #[.slice none 0 0] 23)).alloc (.cells #[.slice (some ad) n c] 22)) 3 (.int .i64 16)
  rw [World.size_alloc] at bS bN
  rw [World.size_alloc] at bN
  have hB0 : Below w.heap.size w (((w.alloc (.cells #[.slice none 0 0] 23)).alloc (.cells #[.slice (some ad) n c] 22)).alloc (.cells #[.int .i64 16] 3)) := Go.Joins.below_alloc3 _ _ _ _
  obtain ⟨w3, hw3⟩ : ∃ w3, w3 = ((w.alloc (.cells #[.slice none 0 0] 23)).alloc (.cells #[.slice (some ad) n c] 22)).alloc (.cells #[.int .i64 16] 3) := ⟨_, rfl⟩
  have hz3 : w3.heap.size = w.heap.size + 3 := by rw [hw3]; simp
  have c1 := (bS.alloc (.cells #[.int .i64 16] 3)).cell
  have c2 := bN.cell
  have d0 := (bO.alloc (.cells #[.slice (some ad) n c] 22)).alloc (.cells #[.int .i64 16] 3)
  have d1 := bS.alloc (.cells #[.int .i64 16] 3)
  have d2 := bN
  rw [← hw3] at hB0 c1 c2 d0 d1 d2 ⊢
  clear bO bS bN hw3
  refine wpIn_rangeFunc_ownG rfl (by decide) (gf := 39) (lb := #[.pointer (some ⟨w.heap.size + 1, 0, none⟩), .pointer (some ⟨w.heap.size + 1 + 1, 0, none⟩)]) rfl trivial (enters_of Try.func39 (by kernel_rfl) rfl)
    (chunk_stops 2 (by decide) (w.heap.size + 1) (w.heap.size + 1 + 1) n c ad hl hc w3 (by omega) (by omega) c1 c2) kpB_t
    (fun W l o o' hl2 hW _ _ => ⟨(grownBy_putObj' W l o').block _ (by have := (Array.getElem?_eq_some_iff.1 hW).1; omega) (fun e => by cases e; omega), (grownBy_putObj' W l o').block _ (by have := (Array.getElem?_eq_some_iff.1 hW).1; omega) (fun e => by cases e; omega)⟩) (Below.refl _ _) (fun _ => rfl)
    (fun pre W => ((∃ v, Boxed W w.heap.size 23 v ∧ W.ownsRow w.heap.size 41 16 v pre.length (fll (pre.flatMap (fullB xs))) ∧ True) ∧ Below w.heap.size w W) ∧ (Boxed W (w.heap.size + 1) 22 (.slice (some ad) n c) ∧ Boxed W (w.heap.size + 1 + 1) 3 (.int .i64 16)))
    (fun _ _ _ => False)
    (OwnFrom.and (OwnFrom.and (Go.Own.from (holdsRow_own w.heap.size w.heap.size 23 41 16 (fun (pre : List Nat) => pre.length) (fun (pre : List Nat) => fll (pre.flatMap (fullB xs))) (fun _ _ => True)) _) (ownFrom_below (Nat.le_refl _) (by omega))) (OwnFrom.and (Go.Own.from (boxed_own _ _ _) _) (Go.Own.from (boxed_own _ _ _) _)))
    (fun _ _ _ _ _ hs _ _ => hs)
    ⟨⟨⟨_, d0, World.ownsRow_nil _ _ _ _, trivial⟩, hB0⟩, d1, d2⟩
    (fun p => { tmps := #[.slice (some ad) n c, undef, .slice none 0 0, .int .i64 0, .pointer (some ⟨w.heap.size, 0, none⟩), (.slice (some (ad.add (16 * p))) (min 16 (n - 16 * p)) (min 16 (n - 16 * p))), undef, .slice (some ad) n c, .int .i64 (n : Int), .bool (decide ((4096 : Int) < (n : Int))), .slice (some ad) n c, .func (.func 39) #[] #[.pointer (some ⟨w.heap.size + 1, 0, none⟩), .pointer (some ⟨w.heap.size + 1 + 1, 0, none⟩)], (.slice (some (ad.add (16 * p))) (min 16 (n - 16 * p)) (min 16 (n - 16 * p))), undef, undef, undef, undef, undef, undef, undef, undef], defers := [] }) ?assign ?body ?done ?stop
  case assign =>
    intro l x W K hK
    unfold encP
    gi_wp2
    exact hK
  case body =>
    rintro l pre p W ⟨⟨⟨v, hv, hrow, -⟩, hB⟩, hS, hN⟩ hlt
    have HSW := Lib.hid (HS.out.below hB)
    have hc1 := hv.cell
    have HV := Lib.hid hv; have HROW := Lib.hid hrow; have HB := Lib.hid hB; have HBS := Lib.hid hS; have HBN := Lib.hid hN
    have HBZ := Lib.hid hv.lt
    have HLT := Lib.hid (show pre.length ≤ 300 from by omega)
    have HOB := Lib.hid (fun k (hk : v.ownBlock = some k) => (World.ownsRow.lt hrow k hk).2)
    have HWS := Lib.hid hB.size
    clear hv hrow hB hS hN hlt
    have hfs : (fl (fullB xs p)).size = 16 := by rw [fl_size, fullB_length]
    have hfold := fold16 (fullB xs p) (fullB_length xs p)
    rw [← HN.out]
    gi_wp2_with (first
      | (refine wpListIn_copy_part rfl _ _ 22 22 rfl 39 Try.underlying22 info_f32k W.heap.size ad xs p rfl rfl (heap_alloc_new W _) ((Sl.below HSW.out (Go.Joins.below_alloc1 W _))) ?_; intro w4 g4 r4; have hv4 := (HV.out.alloc (.cells (fl (List.replicate 16 0)) 41)).kept g4 (fun e => Nat.ne_of_lt HBZ.out (Option.some.inj e)); have c4 := hv4.cell; have HV4 := Lib.hid hv4; have HR4 := Lib.hid r4; have HG4 := Lib.hid g4; have HROW4 := Lib.hid ((HROW.out.alloc (.cells (fl (List.replicate 16 0)) 41)).kept g4 (by
            cases hvb : v.ownBlock with
            | none => exact .inl rfl
            | some k => exact .inr (fun e => Nat.ne_of_lt (HOB.out k hvb) (Option.some.inj e)))); have HSZ4 := Lib.hid (Nat.le_trans HWS.out (Nat.le_trans (by simp) g4.size)); clear hv4 r4 g4)
      | (refine wpListIn_load_row16 rfl 41 _ rfl W.heap.size rfl HR4.out Try.underlying41 info_blkk (fullB_length xs p) ?_)
      | (gi_at_builtin; refine wpListIn_append_own _ rfl _ _ 23 rfl w.heap.size 41 i0 (.agg (fl (List.replicate 16 0))) 16 64 Try.underlying23 hi hz0 hz1 hz2 rfl (by decide) _ _ _ rfl (HROW4.out.alloc _) ⟨w4.heap.size, 0, none⟩ 1 1 (fll (fullB xs p)) rfl (by rw [fll_len, fullB_length]) (news_at w4 _ _) (fll_one _) (by have := HLT.out; unfold maxLen; omega) (by have := HLT.out; omega) (by have := HSZ4.out; simp; omega) ?_; intro v' w5 hown' hgrow _; obtain ⟨g', cap', rfl⟩ := ownsRow_succ hown'; obtain ⟨hv1, hv2, hr2, hk2, hb2⟩ := HV4.out.appended (by decide) HROW4.out HSZ4.out (Nat.le_refl _) hown' hgrow; have hc5 := hv1.cell; have hf5 := hv1.frozen; have HGR := Lib.hid hgrow; clear hgrow))
    have b1 := ((HBS.out.alloc (.cells (fl (List.replicate 16 0)) 41)).kept HG4.out (fun e => Nat.ne_of_lt HBS.out.lt (Option.some.inj e)))
    have b2 := ((HBN.out.alloc (.cells (fl (List.replicate 16 0)) 41)).kept HG4.out (fun e => Nat.ne_of_lt HBN.out.lt (Option.some.inj e)))
    have e1 := ((b1.alloc (.cells (fll (fullB xs p)).toArray 41)).kept HGR.out (b1.not_row (by decide) HROW4.out)).other (B' := w.heap.size) (by omega) (.slice (some ⟨g', 0, none⟩) (pre.length + 1) cap')
    have e2 := ((b2.alloc (.cells (fll (fullB xs p)).toArray 41)).kept HGR.out (b2.not_row (by decide) HROW4.out)).other (B' := w.heap.size) (by omega) (.slice (some ⟨g', 0, none⟩) (pre.length + 1) cap')
    have k1 : KeepsOthers W w4 := (KeepsOthers.alloc W _).trans (KeepsOthers.of_grownBy HG4.out (fun j o ej ho => by
      obtain rfl := Option.some.inj ej
      rw [heap_alloc_new W] at ho
      cases ho; rfl))
    have k2 : Below w.heap.size W w4 := ((Below.refl w.heap.size W).alloc HWS.out _).grown HG4.out (by have := HWS.out; simp; omega) (fun j ej => by obtain rfl := Option.some.inj ej; exact HWS.out)
    refine ⟨(k1.trans hk2).from _, ⟨e1.trans HBS.out.symm, e2.trans HBN.out.symm⟩, ⟨⟨_, hv2, ?_, trivial⟩, HB.out.trans (k2.trans hb2)⟩, by rw [HN.out]; exact e1, e2⟩
    have e3 : (pre ++ [p]).length = pre.length + 1 := by simp
    have e4 : fll ((pre ++ [p]).flatMap (fullB xs)) = fll (pre.flatMap (fullB xs)) ++ fll (fullB xs p) := by rw [List.flatMap_append, fll_append]; simp
    rw [e3, e4]
    exact hr2
  case done =>
    rintro D ys W hD rfl ⟨⟨⟨v, hv, hrow, -⟩, hB⟩, _⟩ hK
    have hD2 : w.heap.size ≤ D := by omega
    have hrow2 := ownsRow_putObj hrow (.deferred none) hK rfl
    rw [List.length_range, HF.out] at hrow2
    obtain ⟨A', c', rfl, hr3⟩ := OwnR.of_row (by rw [List.length_range] at hrow; exact hrow)
    have HO := Lib.hid (BO.of (A := A') (c := c') hrow2 (padB_length (by rw [HN.out]; exact Nat.le_refl _)))
    have HBB := Lib.hid (hB.trans (belowK_b (w := w) (Nat.le_refl _) W D _ (.deferred none) hD2 hK rfl rfl))
    have hc := hv.cell
    clear hrow hrow2 hr3
    gi_wp2
    refine ⟨by simp, .inl ⟨_, _, rfl, run_takeDeferred hK, ?_⟩⟩
    exact ⟨_, results_tmp2 rfl _ _ _, A', c', _, _, 0, rfl, HO.out, HR.out, HBB.out⟩
  case stop =>
    rintro D c pre W _ _ h _
    exact h.elim
end Go.Proofs.Ytldkfpaigeoppaa
