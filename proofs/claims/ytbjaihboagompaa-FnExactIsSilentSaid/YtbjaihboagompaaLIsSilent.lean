/- The statement Rows.FnExactIsSilentSaid: the law FnExactIsSilent returns true for every input, and its arguments read as before. No condition. -/
import Derived.Test.YtbjaihboagompaaRows
import Derived.Test.YtbjaihboagompaaC3
namespace Go.Proofs.Ytbjaihboagompaa.fnExactIsSilent
open Go.ChangeShapes Go.WideShapes Go.ChangeAt Go.RowKit Go.Fl

theorem walk (w : World) (xs : List Nat) (hx : xs.length = 16) (_ : ∀ x ∈ xs, x < 4294967296) :
    Calls Try.prog 6 #[.agg (fl xs)] w fun e w' => e = .returned (.bool true) ∧ Below w.heap.size w w' := by
  have h1 : Blk (w.alloc (.cells (fl xs) 31)) w.heap.size xs 31 := Blk.new _ _ _ _ rfl
  have hb := Go.Joins.below_alloc1 w (.cells (fl xs) 31)
  have HX := Lib.hid hx; clear hx
  go_enter Try.func6, Try.ntmps6
  go_wp2_with (first | (refine wpList_load_blk rfl 31 _ rfl _ rfl h1 Try.underlying31 info_a16 HX.out ?_) | (go_at_call 21; refine (c_toBlock _ _ HX.out).mono ?_; rintro e w' ⟨rfl, b⟩; replace h1 := h1.below b h1.lt; replace hb := seq_below hb b; clear b) | (go_at_call 20; refine (c_sIsSilent _ _ HX.out).mono ?_; rintro e w' ⟨rfl, b⟩; replace h1 := h1.below b h1.lt; replace hb := seq_below hb b; clear b) | (go_at_call 22; refine (c_iIsSilent _ _ HX.out).mono ?_; rintro e w' ⟨rfl, b⟩; replace hb := seq_below hb b; clear b h1))
  all_goals (go_ret; exact ⟨rfl, hb⟩)

theorem own : ownKnob Try.prog.godebug = none := by kernel_rfl
theorem laidOut : laidOutB Try.prog = true := by kernel_rfl
set_option maxRecDepth 100000 in
theorem lifted (os : Os) (started : os.Started) (H : Type) (enc : TypeId × Value → H) :
    ReturnsInHanded {} Try.checked os 6 .any (Rows.fnExactIsSilentSpec.pre6 enc Try.prog Try.f6 [] false) (Rows.fnExactIsSilentSpec.post enc Try.prog Try.f6 false true false false) := by
  refine law_lifted (C := Try.checked) own started (by kernel_rfl) Try.func6
    (ChangeSpec.witness6 (enc := enc) (C := Try.checked) false ⟨#[], #[.agg (Array.replicate 16 (.float .f32 0))], []⟩ 8 (by kernel_rfl) (by kernel_rfl) (by kernel_rfl) (by kernel_rfl))
    rfl 1 rfl (fun ds h => by match ds, h with | [d0], _ => exact ⟨rfl, rfl, rfl⟩) laidOut (of_decide_eq_true (by kernel_rfl)) 4 Try.underlying4 rfl ?_
  intro W base args ds p hval hA
  rw [Try.params6] at hA hval
  obtain ⟨v0, d0, rfl, rfl, h0⟩ := trodAll_one hA
  obtain ⟨xs0, rfl, hl0, hw0⟩ := open_farr (n := 16) Try.underlying31 Try.underlying24 (by kernel_rfl) (by kernel_rfl) (hval 0 _ _ rfl rfl) h0
  exact walk W xs0 hl0 hw0
theorem over : Rows.fnExactIsSilentRow.holds Try.pinned (OpenSpec.ofChange Rows.fnExactIsSilentSpec) :=
  OpenClaim.holds_of_wide 6 Try.f6 rfl rfl rfl rfl rfl rfl rfl ⟨rfl, rfl, rfl, rfl, rfl⟩ rfl rfl rfl rfl rfl (by kernel_rfl) Try.func6 (by kernel_rfl)
    (of_decide_eq_true (by kernel_rfl)) (by unfold Func.isWrapper; first | (rw [if_pos (by decide +kernel)]; kernel_rfl) | (rw [if_neg (by decide +kernel)]; exact ⟨rfl, rfl⟩))
    (fun os started H enc _ => lifted os started H enc)
/-- THE STATEMENT. -/
theorem proved : Rows.FnExactIsSilentSaid := over
#print axioms proved
end Go.Proofs.Ytbjaihboagompaa.fnExactIsSilent
