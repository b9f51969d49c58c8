/- Contracts: integers of samples, arrays of integers, noise, peaks. No condition. -/
import Derived.Test.YtdhpaglcggeknaaDoorC9
import Derived.Laws.ResultCell
namespace Go.Proofs.YtdhpaglcggeknaaDoor
open Go.RowKit Go.Fl

theorem results_blk_tmp {P : Program} {fn : Func} {p u : Tmp} {ty : TypeId} (h : fn.results = #[.cell p ty, .tmp u]) (tmps : Array Value) (w : World) (g : Nat) {xs : List Nat} {t : TypeId} {n : Nat} {e : TypeId} {v : Value}
    (hp : tmps.getD p undef = .pointer (some ⟨g, 0, none⟩)) (hv : tmps.getD u undef = v) (hb : Blk w g xs t) (hu : P.underlying ty = some (.array n e)) (hi : (P.info? ty).map (·.size) = some n) (hn : xs.length = n) :
    (results fn tmps).run P w = .ok (.tuple #[.agg (fl xs), v]) w := by
  rw [results_cell_tmp h, hp, hv]
  simp only [asAddr, Sem.run_pure, Result.andThen_ok, run_loadVar_row w g t ty (fl xs) (0, 0) _ hb hu rfl (by rw [hi, fl_size, hn])]

/-! ### Noise -/
def nextS (a : Int) : Int := (1974033781 * a % 4294967296 + 907633385) % 4294967296
def noiseC (a : Int) : CF := cop .quo .f32 (cv .f32 (floatOfInt .f32 ((1974033781 * a + 907633385) % 4294967296 / 256 - 8388608))) (cv .f32 1258291200)
def seedAt (s : Int) : Nat → Int
  | 0 => s
  | k + 1 => nextS (seedAt s k)
def cfNoise (s : Int) (i : Nat) : CF := noiseC (seedAt s i)

/-! ### Shorts -/
end Go.Proofs.YtdhpaglcggeknaaDoor
