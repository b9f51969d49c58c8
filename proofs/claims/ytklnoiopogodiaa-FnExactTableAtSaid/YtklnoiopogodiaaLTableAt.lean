/- The statement Rows.FnExactTableAtSaid: the law FnExactTableAt returns true for every input, and its arguments read as before. No condition. -/
import Derived.Test.YtklnoiopogodiaaRows
import Derived.Test.YtklnoiopogodiaaSi
namespace Go.Proofs.Ytklnoiopogodiaa.fnExactTableAt
open Go.ChangeShapes Go.WideShapes Go.ChangeAt Go.RowKit Go.Fl

set_option maxRecDepth 10000 in
theorem walk (w : World) (xs : List Nat) (hx : xs.length = 257) (_ : ∀ x ∈ xs, x < 4294967296) (a : Nat) (_ : (Lit.float .f32 a).wf = true) :
    Calls Try.prog 6 #[.agg (fl xs), .float .f32 a] w fun e w' => e = .returned (.bool true) ∧ Below w.heap.size w w' := by
  have h1 : Blk (w.alloc (.cells (fl xs) 27)) w.heap.size xs 27 := Blk.new _ _ _ _ rfl
  have hb := Go.Joins.below_alloc1 w (.cells (fl xs) 27)
  have HX := Lib.hid hx; clear hx
  go_enter Try.func6, Try.ntmps6
  go_wp2_with (first
    | (refine wpList_load_blk rfl 27 _ rfl _ rfl h1 Try.underlying27 info_a257 HX.out ?_)
    | (go_at_call 19; refine (c_toTable _ _ HX.out).mono ?_; rintro e w1 ⟨rfl, b1⟩)
    | (go_at_call 18; refine (c_sTableAt _ _ _ HX.out).mono ?_; rintro e w2 ⟨rS, rfl, HS', b2⟩; have HS := Lib.hid HS'; clear HS'; have s1 := seq_below b1 b2; clear b1 b2; replace h1 := h1.below s1 h1.lt; replace hb := seq_below hb s1; clear s1)
    | (go_at_call 20; refine (c_iTableAt _ _ _ HX.out).mono ?_; rintro e w2 ⟨rI, rfl, HI', b2⟩; have HI := Lib.hid HI'; clear HI'; have s1 := seq_below b1 b2; clear b1 b2; replace hb := seq_below hb s1; clear s1)
    | (go_at_call 11; refine (c_same32 _ _ _ _ _ (HI.out.trans HS.out.symm)).mono ?_; rintro e w' ⟨rfl, n, rfl⟩))
  go_ret
  exact ⟨rfl, by first | exact hb | exact below_drewN hb _⟩

theorem own : ownKnob Try.prog.godebug = none := by kernel_rfl
theorem laidOut : laidOutB Try.prog = true := by kernel_rfl
set_option maxRecDepth 100000 in
theorem lifted (os : Os) (started : os.Started) (H : Type) (enc : TypeId × Value → H) :
    ReturnsInHanded {} Try.checked os 6 .any (Rows.fnExactTableAtSpec.pre6 enc Try.prog Try.f6 [] false) (Rows.fnExactTableAtSpec.post enc Try.prog Try.f6 false true false false) := by
  refine law_lifted (C := Try.checked) own started (by kernel_rfl) Try.func6
    (ChangeSpec.witness6 (enc := enc) (C := Try.checked) false ⟨#[], #[.agg (Array.replicate 257 (.float .f32 0)), .float .f32 0], []⟩ 8 (by kernel_rfl) (by kernel_rfl) (by kernel_rfl) (by kernel_rfl))
    rfl 2 rfl (fun ds h => by match ds, h with | [d0, d1], _ => exact ⟨rfl, rfl, rfl⟩) laidOut (of_decide_eq_true (by kernel_rfl)) 4 Try.underlying4 rfl ?_
  intro W base args ds p hval hA
  rw [Try.params6] at hA hval
  obtain ⟨v0, v1, d0, d1, p0, p1, rfl, rfl, rfl, h0, h1⟩ := trodAll_two hA
  obtain ⟨xs0, rfl, hl0, hw0⟩ := open_farr (n := 257) Try.underlying27 Try.underlying22 (by kernel_rfl) (by kernel_rfl) (hval 0 _ _ rfl rfl) h0
  obtain ⟨x1, rfl, _, _, wx1⟩ := open_float Try.underlying22 (hval 1 _ _ rfl rfl) h1
  exact walk W xs0 hl0 hw0 x1 wx1
theorem over : Rows.fnExactTableAtRow.holds Try.pinned (OpenSpec.ofChange Rows.fnExactTableAtSpec) :=
  OpenClaim.holds_of_wide 6 Try.f6 rfl rfl rfl rfl rfl rfl rfl ⟨rfl, rfl, rfl, rfl, rfl⟩ rfl rfl rfl rfl rfl (by kernel_rfl) Try.func6 (by kernel_rfl)
    (of_decide_eq_true (by kernel_rfl)) (by unfold Func.isWrapper; first | (rw [if_pos (by decide +kernel)]; kernel_rfl) | (rw [if_neg (by decide +kernel)]; exact ⟨rfl, rfl⟩))
    (fun os started H enc _ => lifted os started H enc)
/-- THE STATEMENT. -/
theorem proved : Rows.FnExactTableAtSaid := over
#print axioms proved
end Go.Proofs.Ytklnoiopogodiaa.fnExactTableAt
