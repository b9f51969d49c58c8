/- The statement Rows.FnExactSineOfSaid: the law FnExactSineOf returns true for every input, and its arguments read as before. No condition. -/
import Derived.Test.YtklnoiopogodiaaRows
import Derived.Test.YtklnoiopogodiaaSd
namespace Go.Proofs.Ytklnoiopogodiaa.fnExactSineOf
open Go.ChangeShapes Go.WideShapes Go.ChangeAt Go.RowKit Go.Fl

theorem walk (w : World) (a : Nat) (_ : (Lit.float .f32 a).wf = true) :
    Calls Try.prog 3 #[.float .f32 a] w fun e w' => e = .returned (.bool true) ∧ Below w.heap.size w w' := by
  go_enter Try.func3, Try.ntmps3
  go_wp2_with (first
    | (go_at_call 31; refine (c_l01Sine _ _).mono ?_; rintro e w1 ⟨rS, rfl, HS', b1⟩; have HS := Lib.hid HS'; clear HS')
    | (go_at_call 10; refine (c_SineOf _ _).mono ?_; rintro e w2 ⟨rI, rfl, HI', b2⟩; have HI := Lib.hid HI'; clear HI'; have hb := seq_below b1 b2; clear b1 b2)
    | (go_at_call 11; refine (c_same32 _ _ _ _ _ (HI.out.trans HS.out.symm)).mono ?_; rintro e w' ⟨rfl, n, rfl⟩)
    | go_in)
  go_ret
  exact ⟨rfl, by first | exact hb | exact below_drewN hb _⟩

theorem own : ownKnob Try.prog.godebug = none := by kernel_rfl
theorem laidOut : laidOutB Try.prog = true := by kernel_rfl
set_option maxRecDepth 100000 in
theorem lifted (os : Os) (started : os.Started) (H : Type) (enc : TypeId × Value → H) :
    ReturnsInHanded {} Try.checked os 3 .any (Rows.fnExactSineOfSpec.pre6 enc Try.prog Try.f3 [] false) (Rows.fnExactSineOfSpec.post enc Try.prog Try.f3 false true false false) := by
  refine law_lifted (C := Try.checked) own started (by kernel_rfl) Try.func3
    (ChangeSpec.witness6 (enc := enc) (C := Try.checked) false ⟨#[], #[.float .f32 0], []⟩ 8 (by kernel_rfl) (by kernel_rfl) (by kernel_rfl) (by kernel_rfl))
    rfl 1 rfl (fun ds h => by match ds, h with | [d0], _ => exact ⟨rfl, rfl, rfl⟩) laidOut (of_decide_eq_true (by kernel_rfl)) 4 Try.underlying4 rfl ?_
  intro W base args ds p hval hA
  rw [Try.params3] at hA hval
  obtain ⟨v0, d0, rfl, rfl, h0⟩ := trodAll_one hA
  obtain ⟨x0, rfl, _, _, wx0⟩ := open_float Try.underlying22 (hval 0 _ _ rfl rfl) h0
  exact walk W x0 wx0
theorem over : Rows.fnExactSineOfRow.holds Try.pinned (OpenSpec.ofChange Rows.fnExactSineOfSpec) :=
  OpenClaim.holds_of_wide 3 Try.f3 rfl rfl rfl rfl rfl rfl rfl ⟨rfl, rfl, rfl, rfl, rfl⟩ rfl rfl rfl rfl rfl (by kernel_rfl) Try.func3 (by kernel_rfl)
    (of_decide_eq_true (by kernel_rfl)) (by unfold Func.isWrapper; first | (rw [if_pos (by decide +kernel)]; kernel_rfl) | (rw [if_neg (by decide +kernel)]; exact ⟨rfl, rfl⟩))
    (fun os started H enc _ => lifted os started H enc)
/-- THE STATEMENT. -/
theorem proved : Rows.FnExactSineOfSaid := over
#print axioms proved
end Go.Proofs.Ytklnoiopogodiaa.fnExactSineOf
