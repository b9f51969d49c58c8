/- Rings: valid or not. No condition. -/
import Derived.Test.YtpchebclhjgcmaaSn
namespace Go.Fl
open Go.RowKit
/-- A whole row out of an old block. -/
theorem yields_load_cells {P : Program} {ops : Array Oper} {S : World → Prop} {o : Oper} {a : Act} {w0 : World} (hgd : o.guard = none) (ty : TypeId) (x : Operand) (ho : o.op = .load ty x) (g : Nat) (hx : a.eval x = .pointer (some ⟨g, 0, none⟩)) {cs : Array Value} {t : TypeId} (hb : w0.heap[g]? = some (.cells cs t)) (hlt : g < w0.heap.size) (hS : ∀ w, S w → Below w0.heap.size w0 w)
    {d : TypeDesc} (hu : P.underlying ty = some d) (hd : (match d with | .struct _ | .array _ _ => true | _ => false) = true) (hi : (P.info? ty).map (·.size) = some cs.size) : YieldsIf P ops S o (.agg cs) a :=
  .inl ⟨by simp [Region.wanted, hgd], fun w hw => by
    unfold execOp
    have hb' : w.heap[g]? = some (.cells cs t) := by rw [(hS w hw).block g hlt]; exact hb
    simp only [ho, hx, Instr.loadAt, Instr.sureAddr, Sem.run_bind, Sem.run_pure, Result.andThen_ok, run_loadVar_row w g t ty cs (0, 0) _ hb' hu hd hi]⟩
end Go.Fl
namespace Go.Proofs.Ytpchebclhjgcmaa
open Go.RowKit Go.Fl
theorem ret_boolx {a b : Bool} (h : a = b) : Ending.returned (.bool a) = .returned (.bool b) := by rw [h]
def inB (a b c : Int) : Bool := decide (b ≤ a) && decide (a ≤ c)
theorem c_within (a b c : Int) (v : Bool) (w : World) (h : inB a b c = v) : Calls Try.prog 69 #[.int .i64 a, .int .i64 b, .int .i64 c] w fun e w' => e = .returned (.bool v) ∧ w' = w := by
  by_cases h1 : b ≤ a <;> by_cases h2 : a ≤ c
  · have e : v = true := by rw [← h]; simp [inB, h1, h2]
    subst e; clear h
    go_enter Try.func69, Try.ntmps69
    go_wp2
    all_goals (go_ret; exact ⟨rfl, rfl⟩)
  all_goals
    have e : v = false := by rw [← h]; simp [inB]; omega
    subst e; clear h
    go_enter Try.func69, Try.ntmps69
    go_wp2
    all_goals (go_ret; exact ⟨rfl, rfl⟩)
theorem c_l00In (a b c : Int) (v : Bool) (w : World) (h : inB a b c = v) : Calls Try.prog 67 #[.int .i64 a, .int .i64 b, .int .i64 c] w fun e w' => e = .returned (.bool v) ∧ w' = w := by
  by_cases h1 : b ≤ a <;> by_cases h2 : a ≤ c
  · have e : v = true := by rw [← h]; simp [inB, h1, h2]
    subst e; clear h
    go_enter Try.func67, Try.ntmps67
    go_wp2
    all_goals (go_ret; exact ⟨rfl, rfl⟩)
  all_goals
    have e : v = false := by rw [← h]; simp [inB]; omega
    subst e; clear h
    go_enter Try.func67, Try.ntmps67
    go_wp2
    all_goals (go_ret; exact ⟨rfl, rfl⟩)
theorem c_length (A : Option Addr) (n c : Nat) (w : World) : Calls Try.prog 95 #[.slice A n c] w fun e w' => e = .returned (.int .i64 n) ∧ w' = w := by
  go_enter Try.func95, Try.ntmps95
  go_wp2
  go_ret
  exact ⟨rfl, rfl⟩
def ringOk (n : Nat) (at0 : Int) : Bool := inB n 1 1024 && inB at0 0 ((n : Int) - 1)
set_option maxRecDepth 20000 in
theorem c_sL02Ring (A : Option Addr) (n c g : Nat) (at0 : Int) (w : World) (hn : (n : Int) ≤ 4294967296) (hr : Row w g #[.slice A n c, .int .i64 at0] 34) : Calls Try.prog 92 #[.pointer (some ⟨g, 0, none⟩)] w fun e w' => e = .returned (.bool (ringOk n at0)) ∧ w' = w := by
  have k0 := hr.cell 0 _ rfl; have k1 := hr.cell 1 _ rfl
  clear hr
  have h0 : (0 : Int) ≤ n := by omega
  cases hv : inB n 1 1024
  · have HR := Lib.hid (show false = ringOk n at0 from by unfold ringOk; rw [hv]; rfl)
    go_enter Try.func92, Try.ntmps92
    go_wp2_with (go_at_call 67; refine (c_l00In _ _ _ _ _ hv).mono ?_; rintro e w1 ⟨rfl, rfl⟩)
    go_ret
    exact ⟨ret_boolx HR.out, rfl⟩
  · cases hv2 : inB at0 0 ((n : Int) - 1)
    all_goals
      have HR := Lib.hid (show _ = ringOk n at0 from by unfold ringOk; rw [hv, hv2])
      go_enter Try.func92, Try.ntmps92
      go_wp2_with (first | (have _ := mI; go_at_call 67; refine (c_l00In _ _ _ _ _ hv2).mono ?_; rintro e w1 ⟨rfl, rfl⟩) | (go_at_call 67; refine (c_l00In _ _ _ _ _ hv).mono ?_; rintro e w1 ⟨rfl, rfl⟩; have mI := True.intro))
      go_ret
      exact ⟨ret_boolx HR.out, rfl⟩
set_option maxRecDepth 20000 in
theorem c_iValidRing (A : Option Addr) (n c : Nat) (at0 : Int) (w : World) (hn : (n : Int) ≤ 4294967296) : Calls Try.prog 53 #[.agg #[.slice A n c, .int .i64 at0]] w fun e w' => e = .returned (.bool (ringOk n at0)) ∧ Below w.heap.size w w' := by
  have h0 : (0 : Int) ≤ n := by omega
  cases hv : inB n 1 1024
  · have HR := Lib.hid (show false = ringOk n at0 from by unfold ringOk; rw [hv]; rfl)
    go_enter Try.func53, Try.ntmps53
    go_wp2
    go_quiet (((first | (go_at_call 95; exact Calls.quiet_of_same (c_length _ _ _ _)) | (go_at_call 69; exact Calls.quiet_of_same (c_within _ _ _ _ _ hv)))))
    go_wp2
    go_ret
    exact ⟨ret_boolx HR.out, below_drewN (Go.Joins.below_alloc1 _ _) _⟩
  · cases hv2 : inB at0 0 ((n : Int) - 1)
    all_goals
      have HR := Lib.hid (show _ = ringOk n at0 from by unfold ringOk; rw [hv, hv2])
      go_enter Try.func53, Try.ntmps53
      go_wp2
      go_quiet (((first | (go_at_call 95; exact Calls.quiet_of_same (c_length _ _ _ _)) | (go_at_call 69; first | exact Calls.quiet_of_same (c_within _ _ _ _ _ hv) | exact Calls.quiet_of_same (c_within _ _ _ _ _ hv2)))))
      go_wp2
      go_ret
      exact ⟨ret_boolx HR.out, below_drewN (Go.Joins.below_alloc1 _ _) _⟩
end Go.Proofs.Ytpchebclhjgcmaa
