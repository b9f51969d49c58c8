/- Rings: valid or not. No condition. -/
import Derived.Test.YtldkfpaigeoppaaSn
namespace Go.Fl
open Go.RowKit
/-- A whole row out of an old block. -/
theorem yields_load_cells {P : Program} {ops : Array Oper} {S : World → Prop} {o : Oper} {a : Act} {w0 : World} (hgd : o.guard = none) (ty : TypeId) (x : Operand) (ho : o.op = .load ty x) (g : Nat) (hx : a.eval x = .pointer (some ⟨g, 0, none⟩)) {cs : Array Value} {t : TypeId} (hb : w0.heap[g]? = some (.cells cs t)) (hlt : g < w0.heap.size) (hS : ∀ w, S w → Below w0.heap.size w0 w)
    {d : TypeDesc} (hu : P.underlying ty = some d) (hd : (match d with | .struct _ | .array _ _ => true | _ => false) = true) (hi : (P.info? ty).map (·.size) = some cs.size) : YieldsIf P ops S o (.agg cs) a :=
  .inl ⟨by simp [Region.wanted, hgd], fun w hw => by
    unfold execOp
    have hb' : w.heap[g]? = some (.cells cs t) := by rw [(hS w hw).block g hlt]; exact hb
    simp only [ho, hx, Instr.loadAt, Instr.sureAddr, Sem.run_bind, Sem.run_pure, Result.andThen_ok, run_loadVar_row w g t ty cs (0, 0) _ hb' hu hd hi]⟩
end Go.Fl
namespace Go.Proofs.Ytldkfpaigeoppaa
open Go.RowKit Go.Fl
theorem ret_boolx {a b : Bool} (h : a = b) : Ending.returned (.bool a) = .returned (.bool b) := by rw [h]
def inB (a b c : Int) : Bool := decide (b ≤ a) && decide (a ≤ c)
theorem c_within (a b c : Int) (v : Bool) (w : World) (h : inB a b c = v) : Calls Try.prog 33 #[.int .i64 a, .int .i64 b, .int .i64 c] w fun e w' => e = .returned (.bool v) ∧ w' = w := by
  by_cases h1 : b ≤ a <;> by_cases h2 : a ≤ c
  · have e : v = true := by rw [← h]; simp [inB, h1, h2]
    subst e; clear h
    go_enter Try.func33, Try.ntmps33
    go_wp2
    all_goals (go_ret; exact ⟨rfl, rfl⟩)
  all_goals
    have e : v = false := by rw [← h]; simp [inB]; omega
    subst e; clear h
    go_enter Try.func33, Try.ntmps33
    go_wp2
    all_goals (go_ret; exact ⟨rfl, rfl⟩)
theorem c_l00In (a b c : Int) (v : Bool) (w : World) (h : inB a b c = v) : Calls Try.prog 32 #[.int .i64 a, .int .i64 b, .int .i64 c] w fun e w' => e = .returned (.bool v) ∧ w' = w := by
  by_cases h1 : b ≤ a <;> by_cases h2 : a ≤ c
  · have e : v = true := by rw [← h]; simp [inB, h1, h2]
    subst e; clear h
    go_enter Try.func32, Try.ntmps32
    go_wp2
    all_goals (go_ret; exact ⟨rfl, rfl⟩)
  all_goals
    have e : v = false := by rw [← h]; simp [inB]; omega
    subst e; clear h
    go_enter Try.func32, Try.ntmps32
    go_wp2
    all_goals (go_ret; exact ⟨rfl, rfl⟩)
def ringOk (n : Nat) (at0 : Int) : Bool := inB n 1 1024 && inB at0 0 ((n : Int) - 1)
end Go.Proofs.Ytldkfpaigeoppaa
