/- The statement Rows.FnExactFromShortsSaid: the law FnExactFromShorts returns true for every input, and its arguments read as before. No condition. -/
import Derived.Test.YtjkffooohpfbdaaRows
import Derived.Test.YtjkffooohpfbdaaCa
namespace Go.Proofs.Ytjkffooohpfbdaa.fnExactFromShorts
open Go.ChangeShapes Go.WideShapes Go.ChangeAt Go.RowKit Go.Fl

theorem walk (w : World) (xs : List Int) (hx : xs.length = 16) (_ : ∀ x ∈ xs, (Lit.int .i16 x).wf = true) :
    Calls Try.prog 7 #[.agg (il xs)] w fun e w' => e = .returned (.bool true) ∧ Below w.heap.size w w' := by
  have h1 : Bli (w.alloc (.cells (il xs) 36)) w.heap.size xs 36 := Bli.new _ _ _ _ rfl
  have hb := below_allocs1 w (.cells (il xs) 36)
  have HX := Lib.hid hx; clear hx
  go_enter Try.func7, Try.ntmps7
  go_wp2_with (first
    | (refine wpList_load_bli rfl 36 _ rfl _ rfl h1 Try.underlying36 info_i16a HX.out ?_)
    | (go_at_call 26; refine (c_toInt16A16 _ _ HX.out).mono ?_; rintro e w1 ⟨rfl, b1⟩)
    | (go_at_call 25; refine (c_sFromShorts _ _ HX.out).mono ?_; rintro e w2 ⟨rS, rfl, HrS', b2⟩; have HrS := Lib.hid HrS'; clear HrS')
    | (refine wpList_store_last rfl 24 _ _ rfl rfl rfl (List.replicate 16 0) rfl info_blk HrS.out.1 rfl (fun w3 b3 hrS => ?_); have s1 := seq_below (seq_below b1 b2) b3; clear b1 b2 b3; replace h1 := h1.below s1 h1.lt; replace hb := seq_below hb s1; clear s1)
    | (go_at_call 27; refine (c_iFromShorts _ _ HX.out).mono ?_; rintro e w2 ⟨rI, rfl, HrI', b2⟩; have HrI := Lib.hid HrI'; clear HrI')
    | (refine wpList_store_last rfl 24 _ _ rfl rfl rfl (List.replicate 16 0) rfl info_blk HrI.out.1 rfl (fun w3 b3 hrI => ?_); have s1 := seq_below (seq_below b1 b2) b3; clear b1 b2 b3; replace h1 := h1.below s1 h1.lt; replace hb := seq_below hb s1; replace hrS := hrS.below s1 hrS.lt; clear s1)
    | (refine wpList_load_blk rfl 24 _ rfl _ rfl hrI Try.underlying24 info_blk HrI.out.1 ?_)
    | (refine wpList_load_blk rfl 24 _ rfl _ rfl hrS Try.underlying24 info_blk HrS.out.1 ?_)
    | (go_at_call 18; refine (c_eqBlock _ _ _ HrI.out.1 HrS.out.1 (fun j hj => (HrI.out.2 j hj).trans (HrS.out.2 j hj).symm)).mono ?_; rintro e w7 ⟨rfl, b7⟩))
  go_ret
  exact ⟨rfl, seq_below hb b7⟩

theorem own : ownKnob Try.prog.godebug = none := by kernel_rfl
theorem laidOut : laidOutB Try.prog = true := by kernel_rfl
set_option maxRecDepth 100000 in
theorem lifted (os : Os) (started : os.Started) (H : Type) (enc : TypeId × Value → H) :
    ReturnsInHanded {} Try.checked os 7 .any (Rows.fnExactFromShortsSpec.pre6 enc Try.prog Try.f7 [] false) (Rows.fnExactFromShortsSpec.post enc Try.prog Try.f7 false true false false) := by
  refine law_lifted (C := Try.checked) own started (by kernel_rfl) Try.func7
    (ChangeSpec.witness6 (enc := enc) (C := Try.checked) false ⟨#[], #[.agg (Array.replicate 16 (.int .i16 0))], []⟩ 8 (by kernel_rfl) (by kernel_rfl) (by kernel_rfl) (by kernel_rfl))
    rfl 1 rfl (fun ds h => by match ds, h with | [d0], _ => exact ⟨rfl, rfl, rfl⟩) laidOut (of_decide_eq_true (by kernel_rfl)) 4 Try.underlying4 rfl ?_
  intro W base args ds p hval hA
  rw [Try.params7] at hA hval
  obtain ⟨v0, d0, rfl, rfl, h0⟩ := trodAll_one hA
  obtain ⟨xs0, rfl, hl0, hw0⟩ := open_iarr (n := 16) Try.underlying36 Try.underlying35 (by kernel_rfl) (by kernel_rfl) (hval 0 _ _ rfl rfl) h0
  exact walk W xs0 hl0 hw0
theorem over : Rows.fnExactFromShortsRow.holds Try.pinned (OpenSpec.ofChange Rows.fnExactFromShortsSpec) :=
  OpenClaim.holds_of_wide 7 Try.f7 rfl rfl rfl rfl rfl rfl rfl ⟨rfl, rfl, rfl, rfl, rfl⟩ rfl rfl rfl rfl rfl (by kernel_rfl) Try.func7 (by kernel_rfl)
    (of_decide_eq_true (by kernel_rfl)) (by unfold Func.isWrapper; first | (rw [if_pos (by decide +kernel)]; kernel_rfl) | (rw [if_neg (by decide +kernel)]; exact ⟨rfl, rfl⟩))
    (fun os started H enc _ => lifted os started H enc)
/-- THE STATEMENT. -/
theorem proved : Rows.FnExactFromShortsSaid := over
#print axioms proved
end Go.Proofs.Ytjkffooohpfbdaa.fnExactFromShorts
