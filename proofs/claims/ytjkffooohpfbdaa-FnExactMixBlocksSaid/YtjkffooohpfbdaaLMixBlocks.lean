/- The statement Rows.FnExactMixBlocksSaid: the law FnExactMixBlocks returns true for every input, and its arguments read as before. No condition. -/
import Derived.Test.YtjkffooohpfbdaaRows
import Derived.Test.YtjkffooohpfbdaaCb
import Derived.Test.YtjkffooohpfbdaaSt
namespace Go.Proofs.Ytjkffooohpfbdaa.fnExactMixBlocks
open Go.ChangeShapes Go.WideShapes Go.ChangeAt Go.RowKit Go.Fl

set_option maxHeartbeats 1000000 in
theorem walk (w : World) (xs : List Nat) (hx : xs.length = 16) (_ : ∀ x ∈ xs, x < 4294967296) (ys : List Nat) (hy : ys.length = 16) (_ : ∀ x ∈ ys, x < 4294967296) :
    Calls Try.prog 3 #[.agg (fl xs), .agg (fl ys)] w fun e w' => e = .returned (.bool true) ∧ Below w.heap.size w w' := by
  have h1 : Blk ((w.alloc (.cells (fl xs) 23)).alloc (.cells (fl ys) 23)) w.heap.size xs 23 := (Blk.new _ _ _ _ rfl).alloc _
  have h2 : Blk ((w.alloc (.cells (fl xs) 23)).alloc (.cells (fl ys) 23)) (w.heap.size + 1) ys 23 := Blk.new _ _ _ _ (by simp)
  have hb := Go.Joins.below_alloc2 w (.cells (fl xs) 23) (.cells (fl ys) 23)
  have HX := Lib.hid hx; have HY := Lib.hid hy; clear hx hy
  go_enter Try.func3, Try.ntmps3
  go_upto_region 1 with fail
  generalize hW : (w.alloc (.cells (fl xs) 23)).alloc (.cells (fl ys) 23) = W at *
  clear hW
  go_cut [5] (fun s wx => ∃ (g : Nat) (rs : List Nat), s = .pointer (some ⟨g, 0, none⟩) ∧ Blk wx g rs 24 ∧ Hid (DoneTo (cfMixBlocks xs ys) 16 rs) ∧ Below W.heap.size W wx)
  case first =>
    have s0 := (Below.refl W.heap.size W).drew
    refine wp_region_road (S := fun w' => Below W.heap.size W w') (.held 0 (.held 2 (.two 1 5 (.two 3 5 (.two 4 5 (.one 5 (.one 6 .nil)) (.one 4 (.one 6 .nil))) (.one 3 (.one 4 (.one 6 .nil)))) (.one 1 (.one 3 (.one 4 (.one 6 .nil))))))) (by kernel_rfl) (by kernel_rfl) (by kernel_rfl) (fun _ _ d _ _ h => by cases d <;> exact h) s0 ?_
    refine wpRoad_held rfl (yields_load_blk rfl _ _ rfl _ rfl h1 (fun _ h => h) Try.underlying23 info_a16 HX.out) ?_
    refine wpRoad_held rfl (yields_load_blk rfl _ _ rfl _ rfl h2 (fun _ h => h) Try.underlying23 info_a16 HY.out) ?_
    refine wpRoad_two rfl rfl rfl rfl (fun K hK => ?_) (fun K hK => ?_)
    · go_wp2_with fail
      refine (c_toBlock _ _ HX.out).mono ?_; rintro e v0 ⟨rfl, b⟩
      have s1 := seq_below s0 b
      clear b
      refine hK _ _ ⟨s1, ?_⟩; clear hK
      refine wpRoad_two rfl rfl rfl rfl (fun K hK => ?_) (fun K hK => ?_)
      · go_wp2_with fail
        refine (c_toBlock _ _ HY.out).mono ?_; rintro e v1 ⟨rfl, b⟩
        have s2 := seq_below s1 b
        clear b
        refine hK _ _ ⟨s2, ?_⟩; clear hK
        refine wpRoad_two rfl rfl rfl rfl (fun K hK => ?_) (fun K hK => ?_)
        · go_wp2_with fail
          refine (c_sMixBlocks _ _ _ HX.out HY.out).mono ?_; rintro e v2 ⟨rs, rfl, HR', b⟩
          have s3 := seq_below s2 b
          clear b
          have HR := Lib.hid HR'; clear HR'
          refine hK _ _ ⟨s3, ?_⟩; clear hK
          refine wpRoad_one rfl rfl (fun K hK => ?_)
          go_wp2_with fail
          have hA : Blk (v2.alloc (.cells #[.float .f32 0, .float .f32 0, .float .f32 0, .float .f32 0, .float .f32 0, .float .f32 0, .float .f32 0, .float .f32 0, .float .f32 0, .float .f32 0, .float .f32 0, .float .f32 0, .float .f32 0, .float .f32 0, .float .f32 0, .float .f32 0] 24)) v2.heap.size (List.replicate 16 0) 24 := Blk.newRow v2 (List.replicate 16 0) _ 24 _ rfl rfl
          have hG := s3.size
          have s4 := seq_below s3 (below_allocs1 v2 (.cells #[.float .f32 0, .float .f32 0, .float .f32 0, .float .f32 0, .float .f32 0, .float .f32 0, .float .f32 0, .float .f32 0, .float .f32 0, .float .f32 0, .float .f32 0, .float .f32 0, .float .f32 0, .float .f32 0, .float .f32 0, .float .f32 0] 24))
          refine ⟨s4, ?_⟩
          refine wpRoad_one rfl rfl (fun K hK => ?_)
          refine wp_store_blk 24 _ _ rfl _ rfl rfl hA info_blk HR.out.1 rfl ?_
          refine hK _ _ ⟨below_setRow s4 (by first | omega | exact hG) _, ?_⟩; clear hK
          refine wpRoad_nil ?_
          go_wp2_with fail
          go_meet
          exact ⟨_, rs, rfl, hA.row rs, HR, below_setRow s4 (by first | omega | exact hG) _⟩
        · go_wp2_with fail
          have hA : Blk (v1.alloc (.cells #[.float .f32 0, .float .f32 0, .float .f32 0, .float .f32 0, .float .f32 0, .float .f32 0, .float .f32 0, .float .f32 0, .float .f32 0, .float .f32 0, .float .f32 0, .float .f32 0, .float .f32 0, .float .f32 0, .float .f32 0, .float .f32 0] 24)) v1.heap.size (List.replicate 16 0) 24 := Blk.newRow v1 (List.replicate 16 0) _ 24 _ rfl rfl
          have hG := s2.size
          have s3 := seq_below s2 (below_allocs1 v1 (.cells #[.float .f32 0, .float .f32 0, .float .f32 0, .float .f32 0, .float .f32 0, .float .f32 0, .float .f32 0, .float .f32 0, .float .f32 0, .float .f32 0, .float .f32 0, .float .f32 0, .float .f32 0, .float .f32 0, .float .f32 0, .float .f32 0] 24))
          refine ⟨s3, ?_⟩
          refine wpRoad_one rfl rfl (fun K hK => ?_)
          go_wp2_with fail
          refine (c_sMixBlocks _ _ _ HX.out HY.out).mono ?_; rintro e v3 ⟨rs, rfl, HR', b⟩
          have s4 := seq_below s3 b
          replace hA := hA.below b hA.lt
          clear b
          have HR := Lib.hid HR'; clear HR'
          refine hK _ _ ⟨s4, ?_⟩; clear hK
          refine wpRoad_one rfl rfl (fun K hK => ?_)
          refine wp_store_blk 24 _ _ rfl _ rfl rfl hA info_blk HR.out.1 rfl ?_
          refine hK _ _ ⟨below_setRow s4 (by first | omega | exact hG) _, ?_⟩; clear hK
          refine wpRoad_nil ?_
          go_wp2_with fail
          go_meet
          exact ⟨_, rs, rfl, hA.row rs, HR, below_setRow s4 (by first | omega | exact hG) _⟩
      · go_wp2_with fail
        have hA : Blk (v0.alloc (.cells #[.float .f32 0, .float .f32 0, .float .f32 0, .float .f32 0, .float .f32 0, .float .f32 0, .float .f32 0, .float .f32 0, .float .f32 0, .float .f32 0, .float .f32 0, .float .f32 0, .float .f32 0, .float .f32 0, .float .f32 0, .float .f32 0] 24)) v0.heap.size (List.replicate 16 0) 24 := Blk.newRow v0 (List.replicate 16 0) _ 24 _ rfl rfl
        have hG := s1.size
        have s2 := seq_below s1 (below_allocs1 v0 (.cells #[.float .f32 0, .float .f32 0, .float .f32 0, .float .f32 0, .float .f32 0, .float .f32 0, .float .f32 0, .float .f32 0, .float .f32 0, .float .f32 0, .float .f32 0, .float .f32 0, .float .f32 0, .float .f32 0, .float .f32 0, .float .f32 0] 24))
        refine ⟨s2, ?_⟩
        refine wpRoad_one rfl rfl (fun K hK => ?_)
        go_wp2_with fail
        refine (c_toBlock _ _ HY.out).mono ?_; rintro e v2 ⟨rfl, b⟩
        have s3 := seq_below s2 b
        replace hA := hA.below b hA.lt
        clear b
        refine hK _ _ ⟨s3, ?_⟩; clear hK
        refine wpRoad_one rfl rfl (fun K hK => ?_)
        go_wp2_with fail
        refine (c_sMixBlocks _ _ _ HX.out HY.out).mono ?_; rintro e v3 ⟨rs, rfl, HR', b⟩
        have s4 := seq_below s3 b
        replace hA := hA.below b hA.lt
        clear b
        have HR := Lib.hid HR'; clear HR'
        refine hK _ _ ⟨s4, ?_⟩; clear hK
        refine wpRoad_one rfl rfl (fun K hK => ?_)
        refine wp_store_blk 24 _ _ rfl _ rfl rfl hA info_blk HR.out.1 rfl ?_
        refine hK _ _ ⟨below_setRow s4 (by first | omega | exact hG) _, ?_⟩; clear hK
        refine wpRoad_nil ?_
        go_wp2_with fail
        go_meet
        exact ⟨_, rs, rfl, hA.row rs, HR, below_setRow s4 (by first | omega | exact hG) _⟩
    · go_wp2_with fail
      have hA : Blk (W.drew.alloc (.cells #[.float .f32 0, .float .f32 0, .float .f32 0, .float .f32 0, .float .f32 0, .float .f32 0, .float .f32 0, .float .f32 0, .float .f32 0, .float .f32 0, .float .f32 0, .float .f32 0, .float .f32 0, .float .f32 0, .float .f32 0, .float .f32 0] 24)) W.drew.heap.size (List.replicate 16 0) 24 := Blk.newRow W.drew (List.replicate 16 0) _ 24 _ rfl rfl
      have hG := s0.size
      have s1 := seq_below s0 (below_allocs1 W.drew (.cells #[.float .f32 0, .float .f32 0, .float .f32 0, .float .f32 0, .float .f32 0, .float .f32 0, .float .f32 0, .float .f32 0, .float .f32 0, .float .f32 0, .float .f32 0, .float .f32 0, .float .f32 0, .float .f32 0, .float .f32 0, .float .f32 0] 24))
      refine ⟨s1, ?_⟩
      refine wpRoad_one rfl rfl (fun K hK => ?_)
      go_wp2_with fail
      refine (c_toBlock _ _ HX.out).mono ?_; rintro e v1 ⟨rfl, b⟩
      have s2 := seq_below s1 b
      replace hA := hA.below b hA.lt
      clear b
      refine hK _ _ ⟨s2, ?_⟩; clear hK
      refine wpRoad_one rfl rfl (fun K hK => ?_)
      go_wp2_with fail
      refine (c_toBlock _ _ HY.out).mono ?_; rintro e v2 ⟨rfl, b⟩
      have s3 := seq_below s2 b
      replace hA := hA.below b hA.lt
      clear b
      refine hK _ _ ⟨s3, ?_⟩; clear hK
      refine wpRoad_one rfl rfl (fun K hK => ?_)
      go_wp2_with fail
      refine (c_sMixBlocks _ _ _ HX.out HY.out).mono ?_; rintro e v3 ⟨rs, rfl, HR', b⟩
      have s4 := seq_below s3 b
      replace hA := hA.below b hA.lt
      clear b
      have HR := Lib.hid HR'; clear HR'
      refine hK _ _ ⟨s4, ?_⟩; clear hK
      refine wpRoad_one rfl rfl (fun K hK => ?_)
      refine wp_store_blk 24 _ _ rfl _ rfl rfl hA info_blk HR.out.1 rfl ?_
      refine hK _ _ ⟨below_setRow s4 (by first | omega | exact hG) _, ?_⟩; clear hK
      refine wpRoad_nil ?_
      go_wp2_with fail
      go_meet
      exact ⟨_, rs, rfl, hA.row rs, HR, below_setRow s4 (by first | omega | exact hG) _⟩
  case rest =>
    obtain ⟨gS, rS, rfl, hS, HS, s1⟩ := hcut
    replace h1 := h1.below s1 h1.lt; replace h2 := h2.below s1 h2.lt; replace hb := seq_below hb s1; clear s1
    skip
    go_upto_region 2 with fail
    go_cut [6] (fun s wx => ∃ (g : Nat) (rs : List Nat), s = .pointer (some ⟨g, 0, none⟩) ∧ Blk wx g rs 24 ∧ Hid (DoneTo (cfMixBlocks xs ys) 16 rs) ∧ Below wc.heap.size wc wx)
    case first =>
      have s0 := (Below.refl wc.heap.size wc).drew
      refine wp_region_road (S := fun w' => Below wc.heap.size wc w') (.held 0 (.held 2 (.two 1 5 (.two 3 5 (.two 4 5 (.one 5 (.one 6 .nil)) (.one 4 (.one 6 .nil))) (.one 3 (.one 4 (.one 6 .nil)))) (.one 1 (.one 3 (.one 4 (.one 6 .nil))))))) (by kernel_rfl) (by kernel_rfl) (by kernel_rfl) (fun _ _ d _ _ h => by cases d <;> exact h) s0 ?_
      refine wpRoad_held rfl (yields_load_blk rfl _ _ rfl _ rfl h1 (fun _ h => h) Try.underlying23 info_a16 HX.out) ?_
      refine wpRoad_held rfl (yields_load_blk rfl _ _ rfl _ rfl h2 (fun _ h => h) Try.underlying23 info_a16 HY.out) ?_
      refine wpRoad_two rfl rfl rfl rfl (fun K hK => ?_) (fun K hK => ?_)
      · go_wp2_with fail
        refine (c_toBlock _ _ HX.out).mono ?_; rintro e v0 ⟨rfl, b⟩
        have s1 := seq_below s0 b
        clear b
        refine hK _ _ ⟨s1, ?_⟩; clear hK
        refine wpRoad_two rfl rfl rfl rfl (fun K hK => ?_) (fun K hK => ?_)
        · go_wp2_with fail
          refine (c_toBlock _ _ HY.out).mono ?_; rintro e v1 ⟨rfl, b⟩
          have s2 := seq_below s1 b
          clear b
          refine hK _ _ ⟨s2, ?_⟩; clear hK
          refine wpRoad_two rfl rfl rfl rfl (fun K hK => ?_) (fun K hK => ?_)
          · go_wp2_with fail
            refine (c_iMixBlocks _ _ _ HX.out HY.out).mono ?_; rintro e v2 ⟨rs, rfl, HR', b⟩
            have s3 := seq_below s2 b
            clear b
            have HR := Lib.hid HR'; clear HR'
            refine hK _ _ ⟨s3, ?_⟩; clear hK
            refine wpRoad_one rfl rfl (fun K hK => ?_)
            go_wp2_with fail
            have hA : Blk (v2.alloc (.cells #[.float .f32 0, .float .f32 0, .float .f32 0, .float .f32 0, .float .f32 0, .float .f32 0, .float .f32 0, .float .f32 0, .float .f32 0, .float .f32 0, .float .f32 0, .float .f32 0, .float .f32 0, .float .f32 0, .float .f32 0, .float .f32 0] 24)) v2.heap.size (List.replicate 16 0) 24 := Blk.newRow v2 (List.replicate 16 0) _ 24 _ rfl rfl
            have hG := s3.size
            have s4 := seq_below s3 (below_allocs1 v2 (.cells #[.float .f32 0, .float .f32 0, .float .f32 0, .float .f32 0, .float .f32 0, .float .f32 0, .float .f32 0, .float .f32 0, .float .f32 0, .float .f32 0, .float .f32 0, .float .f32 0, .float .f32 0, .float .f32 0, .float .f32 0, .float .f32 0] 24))
            refine ⟨s4, ?_⟩
            refine wpRoad_one rfl rfl (fun K hK => ?_)
            refine wp_store_blk 24 _ _ rfl _ rfl rfl hA info_blk HR.out.1 rfl ?_
            refine hK _ _ ⟨below_setRow s4 (by first | omega | exact hG) _, ?_⟩; clear hK
            refine wpRoad_nil ?_
            go_wp2_with fail
            go_meet
            exact ⟨_, rs, rfl, hA.row rs, HR, below_setRow s4 (by first | omega | exact hG) _⟩
          · go_wp2_with fail
            have hA : Blk (v1.alloc (.cells #[.float .f32 0, .float .f32 0, .float .f32 0, .float .f32 0, .float .f32 0, .float .f32 0, .float .f32 0, .float .f32 0, .float .f32 0, .float .f32 0, .float .f32 0, .float .f32 0, .float .f32 0, .float .f32 0, .float .f32 0, .float .f32 0] 24)) v1.heap.size (List.replicate 16 0) 24 := Blk.newRow v1 (List.replicate 16 0) _ 24 _ rfl rfl
            have hG := s2.size
            have s3 := seq_below s2 (below_allocs1 v1 (.cells #[.float .f32 0, .float .f32 0, .float .f32 0, .float .f32 0, .float .f32 0, .float .f32 0, .float .f32 0, .float .f32 0, .float .f32 0, .float .f32 0, .float .f32 0, .float .f32 0, .float .f32 0, .float .f32 0, .float .f32 0, .float .f32 0] 24))
            refine ⟨s3, ?_⟩
            refine wpRoad_one rfl rfl (fun K hK => ?_)
            go_wp2_with fail
            refine (c_iMixBlocks _ _ _ HX.out HY.out).mono ?_; rintro e v3 ⟨rs, rfl, HR', b⟩
            have s4 := seq_below s3 b
            replace hA := hA.below b hA.lt
            clear b
            have HR := Lib.hid HR'; clear HR'
            refine hK _ _ ⟨s4, ?_⟩; clear hK
            refine wpRoad_one rfl rfl (fun K hK => ?_)
            refine wp_store_blk 24 _ _ rfl _ rfl rfl hA info_blk HR.out.1 rfl ?_
            refine hK _ _ ⟨below_setRow s4 (by first | omega | exact hG) _, ?_⟩; clear hK
            refine wpRoad_nil ?_
            go_wp2_with fail
            go_meet
            exact ⟨_, rs, rfl, hA.row rs, HR, below_setRow s4 (by first | omega | exact hG) _⟩
        · go_wp2_with fail
          have hA : Blk (v0.alloc (.cells #[.float .f32 0, .float .f32 0, .float .f32 0, .float .f32 0, .float .f32 0, .float .f32 0, .float .f32 0, .float .f32 0, .float .f32 0, .float .f32 0, .float .f32 0, .float .f32 0, .float .f32 0, .float .f32 0, .float .f32 0, .float .f32 0] 24)) v0.heap.size (List.replicate 16 0) 24 := Blk.newRow v0 (List.replicate 16 0) _ 24 _ rfl rfl
          have hG := s1.size
          have s2 := seq_below s1 (below_allocs1 v0 (.cells #[.float .f32 0, .float .f32 0, .float .f32 0, .float .f32 0, .float .f32 0, .float .f32 0, .float .f32 0, .float .f32 0, .float .f32 0, .float .f32 0, .float .f32 0, .float .f32 0, .float .f32 0, .float .f32 0, .float .f32 0, .float .f32 0] 24))
          refine ⟨s2, ?_⟩
          refine wpRoad_one rfl rfl (fun K hK => ?_)
          go_wp2_with fail
          refine (c_toBlock _ _ HY.out).mono ?_; rintro e v2 ⟨rfl, b⟩
          have s3 := seq_below s2 b
          replace hA := hA.below b hA.lt
          clear b
          refine hK _ _ ⟨s3, ?_⟩; clear hK
          refine wpRoad_one rfl rfl (fun K hK => ?_)
          go_wp2_with fail
          refine (c_iMixBlocks _ _ _ HX.out HY.out).mono ?_; rintro e v3 ⟨rs, rfl, HR', b⟩
          have s4 := seq_below s3 b
          replace hA := hA.below b hA.lt
          clear b
          have HR := Lib.hid HR'; clear HR'
          refine hK _ _ ⟨s4, ?_⟩; clear hK
          refine wpRoad_one rfl rfl (fun K hK => ?_)
          refine wp_store_blk 24 _ _ rfl _ rfl rfl hA info_blk HR.out.1 rfl ?_
          refine hK _ _ ⟨below_setRow s4 (by first | omega | exact hG) _, ?_⟩; clear hK
          refine wpRoad_nil ?_
          go_wp2_with fail
          go_meet
          exact ⟨_, rs, rfl, hA.row rs, HR, below_setRow s4 (by first | omega | exact hG) _⟩
      · go_wp2_with fail
        have hA : Blk (wc.drew.alloc (.cells #[.float .f32 0, .float .f32 0, .float .f32 0, .float .f32 0, .float .f32 0, .float .f32 0, .float .f32 0, .float .f32 0, .float .f32 0, .float .f32 0, .float .f32 0, .float .f32 0, .float .f32 0, .float .f32 0, .float .f32 0, .float .f32 0] 24)) wc.drew.heap.size (List.replicate 16 0) 24 := Blk.newRow wc.drew (List.replicate 16 0) _ 24 _ rfl rfl
        have hG := s0.size
        have s1 := seq_below s0 (below_allocs1 wc.drew (.cells #[.float .f32 0, .float .f32 0, .float .f32 0, .float .f32 0, .float .f32 0, .float .f32 0, .float .f32 0, .float .f32 0, .float .f32 0, .float .f32 0, .float .f32 0, .float .f32 0, .float .f32 0, .float .f32 0, .float .f32 0, .float .f32 0] 24))
        refine ⟨s1, ?_⟩
        refine wpRoad_one rfl rfl (fun K hK => ?_)
        go_wp2_with fail
        refine (c_toBlock _ _ HX.out).mono ?_; rintro e v1 ⟨rfl, b⟩
        have s2 := seq_below s1 b
        replace hA := hA.below b hA.lt
        clear b
        refine hK _ _ ⟨s2, ?_⟩; clear hK
        refine wpRoad_one rfl rfl (fun K hK => ?_)
        go_wp2_with fail
        refine (c_toBlock _ _ HY.out).mono ?_; rintro e v2 ⟨rfl, b⟩
        have s3 := seq_below s2 b
        replace hA := hA.below b hA.lt
        clear b
        refine hK _ _ ⟨s3, ?_⟩; clear hK
        refine wpRoad_one rfl rfl (fun K hK => ?_)
        go_wp2_with fail
        refine (c_iMixBlocks _ _ _ HX.out HY.out).mono ?_; rintro e v3 ⟨rs, rfl, HR', b⟩
        have s4 := seq_below s3 b
        replace hA := hA.below b hA.lt
        clear b
        have HR := Lib.hid HR'; clear HR'
        refine hK _ _ ⟨s4, ?_⟩; clear hK
        refine wpRoad_one rfl rfl (fun K hK => ?_)
        refine wp_store_blk 24 _ _ rfl _ rfl rfl hA info_blk HR.out.1 rfl ?_
        refine hK _ _ ⟨below_setRow s4 (by first | omega | exact hG) _, ?_⟩; clear hK
        refine wpRoad_nil ?_
        go_wp2_with fail
        go_meet
        exact ⟨_, rs, rfl, hA.row rs, HR, below_setRow s4 (by first | omega | exact hG) _⟩
    case rest =>
      obtain ⟨gI, rI, rfl, hI, HI, s1⟩ := hcut
      replace hS := hS.below s1 hS.lt; replace hb := seq_below hb s1; clear s1 h1 h2
      go_wp2_with (first | (refine wpList_load_blk rfl 24 _ rfl _ rfl hI Try.underlying24 info_blk HI.out.1 ?_) | (refine wpList_load_blk rfl 24 _ rfl _ rfl hS Try.underlying24 info_blk HS.out.1 ?_) | (go_at_call 18; refine (c_eqBlock _ _ _ HI.out.1 HS.out.1 (fun j hj => (HI.out.2 j hj).trans (HS.out.2 j hj).symm)).mono ?_; rintro e w7 ⟨rfl, b7⟩))
      go_ret
      exact ⟨rfl, seq_below hb b7⟩

theorem own : ownKnob Try.prog.godebug = none := by kernel_rfl
theorem laidOut : laidOutB Try.prog = true := by kernel_rfl
set_option maxRecDepth 100000 in
theorem lifted (os : Os) (started : os.Started) (H : Type) (enc : TypeId × Value → H) :
    ReturnsInHanded {} Try.checked os 3 .any (Rows.fnExactMixBlocksSpec.pre6 enc Try.prog Try.f3 [] false) (Rows.fnExactMixBlocksSpec.post enc Try.prog Try.f3 false true false false) := by
  refine law_lifted (C := Try.checked) own started (by kernel_rfl) Try.func3
    (ChangeSpec.witness6 (enc := enc) (C := Try.checked) false ⟨#[], #[.agg (Array.replicate 16 (.float .f32 0)), .agg (Array.replicate 16 (.float .f32 0))], []⟩ 8 (by kernel_rfl) (by kernel_rfl) (by kernel_rfl) (by kernel_rfl))
    rfl 2 rfl (fun ds h => by match ds, h with | [d0, d1], _ => exact ⟨rfl, rfl, rfl⟩) laidOut (of_decide_eq_true (by kernel_rfl)) 4 Try.underlying4 rfl ?_
  intro W base args ds p hval hA
  rw [Try.params3] at hA hval
  obtain ⟨v0, v1, d0, d1, p0, p1, rfl, rfl, rfl, h0, h1⟩ := trodAll_two hA
  obtain ⟨xs0, rfl, hl0, hw0⟩ := open_farr (n := 16) Try.underlying23 Try.underlying22 (by kernel_rfl) (by kernel_rfl) (hval 0 _ _ rfl rfl) h0
  obtain ⟨xs1, rfl, hl1, hw1⟩ := open_farr (n := 16) Try.underlying23 Try.underlying22 (by kernel_rfl) (by kernel_rfl) (hval 1 _ _ rfl rfl) h1
  exact walk W xs0 hl0 hw0 xs1 hl1 hw1
theorem over : Rows.fnExactMixBlocksRow.holds Try.pinned (OpenSpec.ofChange Rows.fnExactMixBlocksSpec) :=
  OpenClaim.holds_of_wide 3 Try.f3 rfl rfl rfl rfl rfl rfl rfl ⟨rfl, rfl, rfl, rfl, rfl⟩ rfl rfl rfl rfl rfl (by kernel_rfl) Try.func3 (by kernel_rfl)
    (of_decide_eq_true (by kernel_rfl)) (by unfold Func.isWrapper; first | (rw [if_pos (by decide +kernel)]; kernel_rfl) | (rw [if_neg (by decide +kernel)]; exact ⟨rfl, rfl⟩))
    (fun os started H enc _ => lifted os started H enc)
/-- THE STATEMENT. -/
theorem proved : Rows.FnExactMixBlocksSaid := over
#print axioms proved
end Go.Proofs.Ytjkffooohpfbdaa.fnExactMixBlocks
