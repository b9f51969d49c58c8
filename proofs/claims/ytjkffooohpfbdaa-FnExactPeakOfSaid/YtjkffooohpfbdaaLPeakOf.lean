/- The statement Rows.FnExactPeakOfSaid: the law FnExactPeakOf returns true for every input, and its arguments read as before. No condition. -/
import Derived.Test.YtjkffooohpfbdaaRows
import Derived.Test.YtjkffooohpfbdaaCb
namespace Go.Proofs.Ytjkffooohpfbdaa.fnExactPeakOf
open Go.ChangeShapes Go.WideShapes Go.ChangeAt Go.RowKit Go.Fl

theorem walk (w : World) (xs : List Nat) (hx : xs.length = 16) (_ : ∀ x ∈ xs, x < 4294967296) :
    Calls Try.prog 9 #[.agg (fl xs)] w fun e w' => e = .returned (.bool true) ∧ Below w.heap.size w w' := by
  have h1 : Blk (w.alloc (.cells (fl xs) 23)) w.heap.size xs 23 := Blk.new _ _ _ _ rfl
  have hb := below_allocs1 w (.cells (fl xs) 23)
  have HX := Lib.hid hx; clear hx
  go_enter Try.func9, Try.ntmps9
  go_wp2_with (first
    | (refine wpList_load_blk rfl 23 _ rfl _ rfl h1 Try.underlying23 info_a16 HX.out ?_)
    | (go_at_call 16; refine (c_toBlock _ _ HX.out).mono ?_; rintro e w1 ⟨rfl, b1⟩)
    | (go_at_call 30; refine (c_sPeakOf _ _ HX.out).mono ?_; rintro e w2 ⟨rS, rfl, HS', b2⟩; have HS := Lib.hid HS'; clear HS'; have s1 := seq_below b1 b2; clear b1 b2; replace h1 := h1.below s1 h1.lt; replace hb := seq_below hb s1; clear s1)
    | (go_at_call 31; refine (c_iPeakOf _ _ HX.out).mono ?_; rintro e w2 ⟨rI, rfl, HI', b2⟩; have HI := Lib.hid HI'; clear HI'; have s1 := seq_below b1 b2; clear b1 b2; replace hb := seq_below hb s1; clear s1)
    | (go_at_call 32; refine (c_same32 _ _ _ _ _ (HI.out.trans HS.out.symm)).mono ?_; rintro e w' ⟨rfl, n, rfl⟩))
  go_ret
  exact ⟨rfl, by first | exact hb | exact below_drewN hb _⟩

theorem own : ownKnob Try.prog.godebug = none := by kernel_rfl
theorem laidOut : laidOutB Try.prog = true := by kernel_rfl
set_option maxRecDepth 100000 in
theorem lifted (os : Os) (started : os.Started) (H : Type) (enc : TypeId × Value → H) :
    ReturnsInHanded {} Try.checked os 9 .any (Rows.fnExactPeakOfSpec.pre6 enc Try.prog Try.f9 [] false) (Rows.fnExactPeakOfSpec.post enc Try.prog Try.f9 false true false false) := by
  refine law_lifted (C := Try.checked) own started (by kernel_rfl) Try.func9
    (ChangeSpec.witness6 (enc := enc) (C := Try.checked) false ⟨#[], #[.agg (Array.replicate 16 (.float .f32 0))], []⟩ 8 (by kernel_rfl) (by kernel_rfl) (by kernel_rfl) (by kernel_rfl))
    rfl 1 rfl (fun ds h => by match ds, h with | [d0], _ => exact ⟨rfl, rfl, rfl⟩) laidOut (of_decide_eq_true (by kernel_rfl)) 4 Try.underlying4 rfl ?_
  intro W base args ds p hval hA
  rw [Try.params9] at hA hval
  obtain ⟨v0, d0, rfl, rfl, h0⟩ := trodAll_one hA
  obtain ⟨xs0, rfl, hl0, hw0⟩ := open_farr (n := 16) Try.underlying23 Try.underlying22 (by kernel_rfl) (by kernel_rfl) (hval 0 _ _ rfl rfl) h0
  exact walk W xs0 hl0 hw0
theorem over : Rows.fnExactPeakOfRow.holds Try.pinned (OpenSpec.ofChange Rows.fnExactPeakOfSpec) :=
  OpenClaim.holds_of_wide 9 Try.f9 rfl rfl rfl rfl rfl rfl rfl ⟨rfl, rfl, rfl, rfl, rfl⟩ rfl rfl rfl rfl rfl (by kernel_rfl) Try.func9 (by kernel_rfl)
    (of_decide_eq_true (by kernel_rfl)) (by unfold Func.isWrapper; first | (rw [if_pos (by decide +kernel)]; kernel_rfl) | (rw [if_neg (by decide +kernel)]; exact ⟨rfl, rfl⟩))
    (fun os started H enc _ => lifted os started H enc)
/-- THE STATEMENT. -/
theorem proved : Rows.FnExactPeakOfSaid := over
#print axioms proved
end Go.Proofs.Ytjkffooohpfbdaa.fnExactPeakOf
