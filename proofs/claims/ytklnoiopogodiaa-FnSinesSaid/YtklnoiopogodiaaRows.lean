/-
  No cell of these rows narrows 'for every input' (looked for: loops, veiled, ifaces, maps, wideKeys, modest, calm, conditions, laid).
  DERIVED. THE GIVEN ROWS OF THIS SEAT. 6 by the template 'for every input the law returns true; each argument reads behind the call as it read before'; 0 by the template 'total and deterministic' (their statements: YtklnoiopogodiaaTotals.lean).
  GIVEN WITH THE SEED: the statements are not yours to turn. If you find one false, say at which input.
  Laid BY PROGRAM, IN A SANDBOX (cutbox-rows.mjs): the forced cells as the released guide's own fill.sh prints them over the translation 36a3201a53626f7f… (all of the seat's roots in one cut). By AI agents, Wed Nov 11 2026. No macro, syntax, notation, axiom, sorry.
-/
import Derived.Test.YtklnoiopogodiaaChecked
import GoSem.Claim
import GoSem.ClaimJoined
import GoSem.ClaimMapViews
import Derived.JoinedTies
import Derived.KernelRfl
namespace Go.Proofs.Ytklnoiopogodiaa
/- THE CELL 'sum', in the pinned program and in every row, IS THE sha256 OF THE DUMP (.gsa) THAT YtklnoiopogodiaaProg.lean LOADS. Nothing in Lean hashes anything: it is a label: what it is worth is what the hold of that sum in a sandbox is worth. -/
noncomputable def Try.pinned : Pinned := { name := "ytklnoiopogodiaa", sum := "36a3201a53626f7fcdf02ec63bfc82567b33d085444520e44eac56c7857daddb", checked := Try.checked }
namespace Rows
def none {H : Type} : Left H := { results := [], args := [] }

/-- 'laws.FnExactSineOf': WHATEVER THE INPUT: true; the input reads as it did. -/
def fnExactSineOfSpec : ChangeSpec := { name := "fnExactSineOf", fn := fun _ => fun
  | [d] => { results := [.lit (.bool true)], args := [d] }
  | _ => none }
def fnExactSineOfRow : OpenClaim := { program := "ytklnoiopogodiaa", sum := "36a3201a53626f7fcdf02ec63bfc82567b33d085444520e44eac56c7857daddb", func := "loop.example/g01173/laws.FnExactSineOf", spec := "fnExactSineOf", inPlace := ["math.Float64frombits", "math.archFloor", "math.Float64bits", "math.archTrunc"], apart := false }
def FnExactSineOfSaid : Prop := fnExactSineOfRow.holds Try.pinned (OpenSpec.ofChange fnExactSineOfSpec)

/-- ITS FALSE NEIGHBOUR: 'it returns false'. Refute it at one input. -/
def fnExactSineOfWrong : ChangeSpec := { name := "fnExactSineOf", fn := fun _ => fun
  | [d] => { results := [.lit (.bool false)], args := [d] }
  | _ => none }
def FnExactSineOfWrongFalsely : Prop := fnExactSineOfRow.holds Try.pinned (OpenSpec.ofChange fnExactSineOfWrong)

/-- 'laws.FnExactSineTable': WHATEVER THE INPUT: true; the input reads as it did. -/
def fnExactSineTableSpec : ChangeSpec := { name := "fnExactSineTable", fn := fun _ => fun
  | [] => { results := [.lit (.bool true)], args := [] }
  | _ => none }
def fnExactSineTableRow : OpenClaim := { program := "ytklnoiopogodiaa", sum := "36a3201a53626f7fcdf02ec63bfc82567b33d085444520e44eac56c7857daddb", func := "loop.example/g01173/laws.FnExactSineTable", spec := "fnExactSineTable", inPlace := ["math.Float64frombits", "math.archFloor", "math.Float64bits", "math.archTrunc"], apart := false }
def FnExactSineTableSaid : Prop := fnExactSineTableRow.holds Try.pinned (OpenSpec.ofChange fnExactSineTableSpec)

/-- ITS FALSE NEIGHBOUR: 'it returns false'. Refute it at one input. -/
def fnExactSineTableWrong : ChangeSpec := { name := "fnExactSineTable", fn := fun _ => fun
  | [] => { results := [.lit (.bool false)], args := [] }
  | _ => none }
def FnExactSineTableWrongFalsely : Prop := fnExactSineTableRow.holds Try.pinned (OpenSpec.ofChange fnExactSineTableWrong)

/-- 'laws.FnExactTwoPole': WHATEVER THE INPUT: true; the input reads as it did. -/
def fnExactTwoPoleSpec : ChangeSpec := { name := "fnExactTwoPole", fn := fun _ => fun
  | [d1, d2] => { results := [.lit (.bool true)], args := [d1, d2] }
  | _ => none }
def fnExactTwoPoleRow : OpenClaim := { program := "ytklnoiopogodiaa", sum := "36a3201a53626f7fcdf02ec63bfc82567b33d085444520e44eac56c7857daddb", func := "loop.example/g01173/laws.FnExactTwoPole", spec := "fnExactTwoPole", inPlace := ["math.Float64frombits", "math.archFloor", "math.Float64bits", "math.archTrunc"], apart := false }
def FnExactTwoPoleSaid : Prop := fnExactTwoPoleRow.holds Try.pinned (OpenSpec.ofChange fnExactTwoPoleSpec)

/-- ITS FALSE NEIGHBOUR: 'it returns false'. Refute it at one input. -/
def fnExactTwoPoleWrong : ChangeSpec := { name := "fnExactTwoPole", fn := fun _ => fun
  | [d1, d2] => { results := [.lit (.bool false)], args := [d1, d2] }
  | _ => none }
def FnExactTwoPoleWrongFalsely : Prop := fnExactTwoPoleRow.holds Try.pinned (OpenSpec.ofChange fnExactTwoPoleWrong)

/-- 'laws.FnExactTableAt': WHATEVER THE INPUT: true; the input reads as it did. -/
def fnExactTableAtSpec : ChangeSpec := { name := "fnExactTableAt", fn := fun _ => fun
  | [d1, d2] => { results := [.lit (.bool true)], args := [d1, d2] }
  | _ => none }
def fnExactTableAtRow : OpenClaim := { program := "ytklnoiopogodiaa", sum := "36a3201a53626f7fcdf02ec63bfc82567b33d085444520e44eac56c7857daddb", func := "loop.example/g01173/laws.FnExactTableAt", spec := "fnExactTableAt", inPlace := ["math.archFloor", "math.Float64bits", "math.Float64frombits", "math.archTrunc"], apart := false }
def FnExactTableAtSaid : Prop := fnExactTableAtRow.holds Try.pinned (OpenSpec.ofChange fnExactTableAtSpec)

/-- ITS FALSE NEIGHBOUR: 'it returns false'. Refute it at one input. -/
def fnExactTableAtWrong : ChangeSpec := { name := "fnExactTableAt", fn := fun _ => fun
  | [d1, d2] => { results := [.lit (.bool false)], args := [d1, d2] }
  | _ => none }
def FnExactTableAtWrongFalsely : Prop := fnExactTableAtRow.holds Try.pinned (OpenSpec.ofChange fnExactTableAtWrong)

/-- 'laws.FnSines': WHATEVER THE INPUT: true; the input reads as it did. -/
def fnSinesSpec : ChangeSpec := { name := "fnSines", fn := fun _ => fun
  | [d1, d2] => { results := [.lit (.bool true)], args := [d1, d2] }
  | _ => none }
def fnSinesRow : OpenClaim := { program := "ytklnoiopogodiaa", sum := "36a3201a53626f7fcdf02ec63bfc82567b33d085444520e44eac56c7857daddb", func := "loop.example/g01173/laws.FnSines", spec := "fnSines", inPlace := ["math.Float64frombits", "math.archFloor", "math.Float64bits", "math.archTrunc", "math.Float32bits"], apart := false }
def FnSinesSaid : Prop := fnSinesRow.holds Try.pinned (OpenSpec.ofChange fnSinesSpec)

/-- ITS FALSE NEIGHBOUR: 'it returns false'. Refute it at one input. -/
def fnSinesWrong : ChangeSpec := { name := "fnSines", fn := fun _ => fun
  | [d1, d2] => { results := [.lit (.bool false)], args := [d1, d2] }
  | _ => none }
def FnSinesWrongFalsely : Prop := fnSinesRow.holds Try.pinned (OpenSpec.ofChange fnSinesWrong)

/-- 'laws.FnExactReadBetween': WHATEVER THE INPUT: true; the input reads as it did. -/
def fnExactReadBetweenSpec : ChangeSpec := { name := "fnExactReadBetween", fn := fun _ => fun
  | [d1, d2] => { results := [.lit (.bool true)], args := [d1, d2] }
  | _ => none }
def fnExactReadBetweenRow : OpenClaim := { program := "ytklnoiopogodiaa", sum := "36a3201a53626f7fcdf02ec63bfc82567b33d085444520e44eac56c7857daddb", func := "loop.example/g01173/laws.FnExactReadBetween", spec := "fnExactReadBetween", inPlace := ["math.archFloor", "math.Float64bits", "math.Float64frombits", "math.archTrunc"], apart := false }
def FnExactReadBetweenSaid : Prop := fnExactReadBetweenRow.holds Try.pinned (OpenSpec.ofChange fnExactReadBetweenSpec)

/-- ITS FALSE NEIGHBOUR: 'it returns false'. Refute it at one input. -/
def fnExactReadBetweenWrong : ChangeSpec := { name := "fnExactReadBetween", fn := fun _ => fun
  | [d1, d2] => { results := [.lit (.bool false)], args := [d1, d2] }
  | _ => none }
def FnExactReadBetweenWrongFalsely : Prop := fnExactReadBetweenRow.holds Try.pinned (OpenSpec.ofChange fnExactReadBetweenWrong)

/- THE SECOND FORM. 'bulk': how many values and letters a reading holds, each counted each time it is reached (what is shared counts as often as it is met; a slice's spare places count too). A statement '..UptoSaid' is the law's where the arguments, and the package variables that the reading takes, are together of bulk at most 1048576: NARROWER than '..Said'. Prove '..Said' where nothing that the law and all that it calls make is longer than what came in: it says more and counts as full. Else prove '..UptoSaid'. A law counts once. -/
mutual
def uptoBulk {H : Type} : DataW H → Nat
  | .lit (.string bytes) => bytes.length + 1
  | .lit _ => 1
  | .nil => 1
  | .ptr d => uptoBulk d + 1
  | .slice elems spare => uptoBulkAll elems + uptoBulkAll spare + 1
  | .agg parts => uptoBulkAll parts + 1
  | .iface _ d => uptoBulk d + 1
  | .map entries => uptoBulkEntries entries + 1
  | .held _ => 1
def uptoBulkAll {H : Type} : List (DataW H) → Nat
  | [] => 0
  | d :: r => uptoBulk d + uptoBulkAll r
def uptoBulkEntries {H : Type} : List (Lit × DataW H) → Nat
  | [] => 0
  | x :: r => uptoBulkEntry x + uptoBulkEntries r
def uptoBulkEntry {H : Type} : Lit × DataW H → Nat
  | (.string bytes, d) => bytes.length + uptoBulk d + 1
  | (_, d) => uptoBulk d + 1
 end
def uptoSmall : (H : Type) → List (DataW H) → Bool := fun _ ds => decide (uptoBulkAll ds ≤ 1048576)
def OpenSpec.upto (s : _root_.Go.ChangeSpec) : _root_.Go.OpenSpec := { _root_.Go.OpenSpec.ofChange s with cond := some uptoSmall }

/-- 'laws.FnExactSineOf', WHERE WHAT IT READS IS OF BULK AT MOST 1048576: true; the input reads as it did. -/
def fnExactSineOfUptoRow : OpenClaim := { program := "ytklnoiopogodiaa", sum := "36a3201a53626f7fcdf02ec63bfc82567b33d085444520e44eac56c7857daddb", func := "loop.example/g01173/laws.FnExactSineOf", spec := "fnExactSineOf", inPlace := ["math.Float64frombits", "math.archFloor", "math.Float64bits", "math.archTrunc"], apart := false, narrowed := true }
def FnExactSineOfUptoSaid : Prop := fnExactSineOfUptoRow.holds Try.pinned (OpenSpec.upto fnExactSineOfSpec)

/-- 'laws.FnExactSineTable', WHERE WHAT IT READS IS OF BULK AT MOST 1048576: true; the input reads as it did. -/
def fnExactSineTableUptoRow : OpenClaim := { program := "ytklnoiopogodiaa", sum := "36a3201a53626f7fcdf02ec63bfc82567b33d085444520e44eac56c7857daddb", func := "loop.example/g01173/laws.FnExactSineTable", spec := "fnExactSineTable", inPlace := ["math.Float64frombits", "math.archFloor", "math.Float64bits", "math.archTrunc"], apart := false, narrowed := true }
def FnExactSineTableUptoSaid : Prop := fnExactSineTableUptoRow.holds Try.pinned (OpenSpec.upto fnExactSineTableSpec)

/-- 'laws.FnExactTwoPole', WHERE WHAT IT READS IS OF BULK AT MOST 1048576: true; the input reads as it did. -/
def fnExactTwoPoleUptoRow : OpenClaim := { program := "ytklnoiopogodiaa", sum := "36a3201a53626f7fcdf02ec63bfc82567b33d085444520e44eac56c7857daddb", func := "loop.example/g01173/laws.FnExactTwoPole", spec := "fnExactTwoPole", inPlace := ["math.Float64frombits", "math.archFloor", "math.Float64bits", "math.archTrunc"], apart := false, narrowed := true }
def FnExactTwoPoleUptoSaid : Prop := fnExactTwoPoleUptoRow.holds Try.pinned (OpenSpec.upto fnExactTwoPoleSpec)

/-- 'laws.FnExactTableAt', WHERE WHAT IT READS IS OF BULK AT MOST 1048576: true; the input reads as it did. -/
def fnExactTableAtUptoRow : OpenClaim := { program := "ytklnoiopogodiaa", sum := "36a3201a53626f7fcdf02ec63bfc82567b33d085444520e44eac56c7857daddb", func := "loop.example/g01173/laws.FnExactTableAt", spec := "fnExactTableAt", inPlace := ["math.archFloor", "math.Float64bits", "math.Float64frombits", "math.archTrunc"], apart := false, narrowed := true }
def FnExactTableAtUptoSaid : Prop := fnExactTableAtUptoRow.holds Try.pinned (OpenSpec.upto fnExactTableAtSpec)

/-- 'laws.FnSines', WHERE WHAT IT READS IS OF BULK AT MOST 1048576: true; the input reads as it did. -/
def fnSinesUptoRow : OpenClaim := { program := "ytklnoiopogodiaa", sum := "36a3201a53626f7fcdf02ec63bfc82567b33d085444520e44eac56c7857daddb", func := "loop.example/g01173/laws.FnSines", spec := "fnSines", inPlace := ["math.Float64frombits", "math.archFloor", "math.Float64bits", "math.archTrunc", "math.Float32bits"], apart := false, narrowed := true }
def FnSinesUptoSaid : Prop := fnSinesUptoRow.holds Try.pinned (OpenSpec.upto fnSinesSpec)

/-- 'laws.FnExactReadBetween', WHERE WHAT IT READS IS OF BULK AT MOST 1048576: true; the input reads as it did. -/
def fnExactReadBetweenUptoRow : OpenClaim := { program := "ytklnoiopogodiaa", sum := "36a3201a53626f7fcdf02ec63bfc82567b33d085444520e44eac56c7857daddb", func := "loop.example/g01173/laws.FnExactReadBetween", spec := "fnExactReadBetween", inPlace := ["math.archFloor", "math.Float64bits", "math.Float64frombits", "math.archTrunc"], apart := false, narrowed := true }
def FnExactReadBetweenUptoSaid : Prop := fnExactReadBetweenUptoRow.holds Try.pinned (OpenSpec.upto fnExactReadBetweenSpec)

end Rows
end Go.Proofs.Ytklnoiopogodiaa
