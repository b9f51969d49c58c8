/- The statement Rows.FnExactToShortsSaid: the law FnExactToShorts returns true for every input, and its arguments read as before. No condition. -/
import Derived.Test.YtjkffooohpfbdaaRows
import Derived.Test.YtjkffooohpfbdaaCa
namespace Go.Proofs.Ytjkffooohpfbdaa.fnExactToShorts
open Go.ChangeShapes Go.WideShapes Go.ChangeAt Go.RowKit Go.Fl

theorem walk (w : World) (xs : List Nat) (hx : xs.length = 16) (_ : ∀ x ∈ xs, x < 4294967296) :
    Calls Try.prog 12 #[.agg (fl xs)] w fun e w' => e = .returned (.bool true) ∧ Below w.heap.size w w' := by
  have h1 : Blk (w.alloc (.cells (fl xs) 23)) w.heap.size xs 23 := Blk.new _ _ _ _ rfl
  have hb := below_allocs1 w (.cells (fl xs) 23)
  have HX := Lib.hid hx; clear hx
  go_enter Try.func12, Try.ntmps12
  go_wp2_with (first
    | (refine wpList_load_blk rfl 23 _ rfl _ rfl h1 Try.underlying23 info_a16 HX.out ?_)
    | (go_at_call 16; refine (c_toBlock _ _ HX.out).mono ?_; rintro e w1 ⟨rfl, b1⟩)
    | (go_at_call 37; refine (c_sToShorts _ _ HX.out).mono ?_; rintro e w2 ⟨rS, rfl, HrS', b2⟩; have HrS := Lib.hid HrS'; clear HrS')
    | (refine wpList_store_lasti rfl 36 _ _ rfl rfl rfl (List.replicate 16 0) rfl info_i16a HrS.out.1 rfl (fun w3 b3 hrS => ?_); have s1 := seq_below (seq_below b1 b2) b3; clear b1 b2 b3; replace h1 := h1.below s1 h1.lt; replace hb := seq_below hb s1; clear s1)
    | (go_at_call 38; refine (c_iToShorts _ _ HX.out).mono ?_; rintro e w2 ⟨rI, rfl, HrI', b2⟩; have HrI := Lib.hid HrI'; clear HrI')
    | (refine wpList_store_lasti rfl 36 _ _ rfl rfl rfl (List.replicate 16 0) rfl info_i16a HrI.out.1 rfl (fun w3 b3 hrI => ?_); have s1 := seq_below (seq_below b1 b2) b3; clear b1 b2 b3; replace h1 := h1.below s1 h1.lt; replace hb := seq_below hb s1; replace hrS := hrS.below s1 hrS.lt; clear s1)
    | (refine wpList_load_bli rfl 36 _ rfl _ rfl hrI Try.underlying36 info_i16a HrI.out.1 ?_)
    | (refine wpList_load_bli rfl 36 _ rfl _ rfl hrS Try.underlying36 info_i16a HrS.out.1 ?_)
    | (go_at_call 39; refine (c_eqInt16A16 _ _ _ HrI.out.1 HrS.out.1 (fun j hj => (HrI.out.2 j hj).trans (HrS.out.2 j hj).symm)).mono ?_; rintro e w7 ⟨rfl, b7⟩))
  go_ret
  exact ⟨rfl, seq_below hb b7⟩

theorem own : ownKnob Try.prog.godebug = none := by kernel_rfl
theorem laidOut : laidOutB Try.prog = true := by kernel_rfl
set_option maxRecDepth 100000 in
theorem lifted (os : Os) (started : os.Started) (H : Type) (enc : TypeId × Value → H) :
    ReturnsInHanded {} Try.checked os 12 .any (Rows.fnExactToShortsSpec.pre6 enc Try.prog Try.f12 [] false) (Rows.fnExactToShortsSpec.post enc Try.prog Try.f12 false true false false) := by
  refine law_lifted (C := Try.checked) own started (by kernel_rfl) Try.func12
    (ChangeSpec.witness6 (enc := enc) (C := Try.checked) false ⟨#[], #[.agg (Array.replicate 16 (.float .f32 0))], []⟩ 8 (by kernel_rfl) (by kernel_rfl) (by kernel_rfl) (by kernel_rfl))
    rfl 1 rfl (fun ds h => by match ds, h with | [d0], _ => exact ⟨rfl, rfl, rfl⟩) laidOut (of_decide_eq_true (by kernel_rfl)) 4 Try.underlying4 rfl ?_
  intro W base args ds p hval hA
  rw [Try.params12] at hA hval
  obtain ⟨v0, d0, rfl, rfl, h0⟩ := trodAll_one hA
  obtain ⟨xs0, rfl, hl0, hw0⟩ := open_farr (n := 16) Try.underlying23 Try.underlying22 (by kernel_rfl) (by kernel_rfl) (hval 0 _ _ rfl rfl) h0
  exact walk W xs0 hl0 hw0
theorem over : Rows.fnExactToShortsRow.holds Try.pinned (OpenSpec.ofChange Rows.fnExactToShortsSpec) :=
  OpenClaim.holds_of_wide 12 Try.f12 rfl rfl rfl rfl rfl rfl rfl ⟨rfl, rfl, rfl, rfl, rfl⟩ rfl rfl rfl rfl rfl (by kernel_rfl) Try.func12 (by kernel_rfl)
    (of_decide_eq_true (by kernel_rfl)) (by unfold Func.isWrapper; first | (rw [if_pos (by decide +kernel)]; kernel_rfl) | (rw [if_neg (by decide +kernel)]; exact ⟨rfl, rfl⟩))
    (fun os started H enc _ => lifted os started H enc)
/-- THE STATEMENT. -/
theorem proved : Rows.FnExactToShortsSaid := over
#print axioms proved
end Go.Proofs.Ytjkffooohpfbdaa.fnExactToShorts
