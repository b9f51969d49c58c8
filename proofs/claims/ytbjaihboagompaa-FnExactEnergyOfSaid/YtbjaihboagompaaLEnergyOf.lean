/- The statement Rows.FnExactEnergyOfSaid: the law FnExactEnergyOf returns true for every input, and its arguments read as before. No condition. -/
import Derived.Test.YtbjaihboagompaaRows
import Derived.Test.YtbjaihboagompaaC4
namespace Go.Proofs.Ytbjaihboagompaa.fnExactEnergyOf
open Go.ChangeShapes Go.WideShapes Go.ChangeAt Go.RowKit Go.Fl

theorem walk (w : World) (xs : List Nat) (hx : xs.length = 16) (_ : ∀ x ∈ xs, x < 4294967296) :
    Calls Try.prog 12 #[.agg (fl xs)] w fun e w' => e = .returned (.bool true) ∧ Below w.heap.size w w' := by
  have h1 : Blk (w.alloc (.cells (fl xs) 31)) w.heap.size xs 31 := Blk.new _ _ _ _ rfl
  have hb := Go.Joins.below_alloc1 w (.cells (fl xs) 31)
  have HX := Lib.hid hx; clear hx
  go_enter Try.func12, Try.ntmps12
  go_wp2_with (first | (refine wpList_load_blk rfl 31 _ rfl _ rfl h1 Try.underlying31 info_a16 HX.out ?_) | (go_at_call 21; refine (c_toBlock _ _ HX.out).mono ?_; rintro e w' ⟨rfl, b⟩; replace h1 := h1.below b h1.lt; replace hb := seq_below hb b; clear b) | (go_at_call 33; refine (c_sEnergyOf _ _ HX.out).mono ?_; rintro e w' ⟨rS, rfl, HS, b⟩; replace HS := Lib.hid HS; replace h1 := h1.below b h1.lt; replace hb := seq_below hb b; clear b) | (go_at_call 34; refine (c_iEnergyOf _ _ HX.out).mono ?_; rintro e w' ⟨rI, rfl, HI, b⟩; replace HI := Lib.hid HI; replace hb := seq_below hb b; clear b h1) | (go_at_call 17; refine (c_same32 _ _ _ _ _ (HI.out.trans HS.out.symm)).mono ?_; rintro e w' ⟨rfl, n, rfl⟩))
  go_ret
  exact ⟨rfl, by first | exact hb | exact below_drewN hb _⟩

theorem own : ownKnob Try.prog.godebug = none := by kernel_rfl
theorem laidOut : laidOutB Try.prog = true := by kernel_rfl
set_option maxRecDepth 100000 in
theorem lifted (os : Os) (started : os.Started) (H : Type) (enc : TypeId × Value → H) :
    ReturnsInHanded {} Try.checked os 12 .any (Rows.fnExactEnergyOfSpec.pre6 enc Try.prog Try.f12 [] false) (Rows.fnExactEnergyOfSpec.post enc Try.prog Try.f12 false true false false) := by
  refine law_lifted (C := Try.checked) own started (by kernel_rfl) Try.func12
    (ChangeSpec.witness6 (enc := enc) (C := Try.checked) false ⟨#[], #[.agg (Array.replicate 16 (.float .f32 0))], []⟩ 8 (by kernel_rfl) (by kernel_rfl) (by kernel_rfl) (by kernel_rfl))
    rfl 1 rfl (fun ds h => by match ds, h with | [d0], _ => exact ⟨rfl, rfl, rfl⟩) laidOut (of_decide_eq_true (by kernel_rfl)) 4 Try.underlying4 rfl ?_
  intro W base args ds p hval hA
  rw [Try.params12] at hA hval
  obtain ⟨v0, d0, rfl, rfl, h0⟩ := trodAll_one hA
  obtain ⟨xs0, rfl, hl0, hw0⟩ := open_farr (n := 16) Try.underlying31 Try.underlying24 (by kernel_rfl) (by kernel_rfl) (hval 0 _ _ rfl rfl) h0
  exact walk W xs0 hl0 hw0
theorem over : Rows.fnExactEnergyOfRow.holds Try.pinned (OpenSpec.ofChange Rows.fnExactEnergyOfSpec) :=
  OpenClaim.holds_of_wide 12 Try.f12 rfl rfl rfl rfl rfl rfl rfl ⟨rfl, rfl, rfl, rfl, rfl⟩ rfl rfl rfl rfl rfl (by kernel_rfl) Try.func12 (by kernel_rfl)
    (of_decide_eq_true (by kernel_rfl)) (by unfold Func.isWrapper; first | (rw [if_pos (by decide +kernel)]; kernel_rfl) | (rw [if_neg (by decide +kernel)]; exact ⟨rfl, rfl⟩))
    (fun os started H enc _ => lifted os started H enc)
/-- THE STATEMENT. -/
theorem proved : Rows.FnExactEnergyOfSaid := over
#print axioms proved
end Go.Proofs.Ytbjaihboagompaa.fnExactEnergyOf
