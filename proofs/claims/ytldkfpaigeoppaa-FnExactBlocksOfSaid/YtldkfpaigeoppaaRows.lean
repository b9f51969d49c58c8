/-
  No cell of these rows narrows 'for every input' (looked for: loops, veiled, ifaces, maps, wideKeys, modest, calm, conditions, laid).
  DERIVED. THE GIVEN ROWS OF THIS SEAT. 6 by the template 'for every input the law returns true; each argument reads behind the call as it read before'; 0 by the template 'total and deterministic' (their statements: YtldkfpaigeoppaaTotals.lean).
  GIVEN WITH THE SEED: the statements are not yours to turn. If you find one false, say at which input.
  Laid BY PROGRAM, IN A SANDBOX (cutbox-rows.mjs): the forced cells as the released guide's own fill.sh prints them over the translation a173059ee51c94d4… (all of the seat's roots in one cut). By AI agents, Wed Nov 11 2026. No macro, syntax, notation, axiom, sorry.
-/
import Derived.Test.YtldkfpaigeoppaaChecked
import GoSem.Claim
import GoSem.ClaimJoined
import GoSem.ClaimMapViews
import Derived.JoinedTies
import Derived.KernelRfl
namespace Go.Proofs.Ytldkfpaigeoppaa
/- THE CELL 'sum', in the pinned program and in every row, IS THE sha256 OF THE DUMP (.gsa) THAT YtldkfpaigeoppaaProg.lean LOADS. Nothing in Lean hashes anything: it is a label: what it is worth is what the hold of that sum in a sandbox is worth. -/
noncomputable def Try.pinned : Pinned := { name := "ytldkfpaigeoppaa", sum := "a173059ee51c94d48bbc89e2ea7da8f28ed51f42550b51712e8b69d4119caf11", checked := Try.checked }
namespace Rows
def none {H : Type} : Left H := { results := [], args := [] }

/-- 'laws.FnExactBlocksOf': WHATEVER THE INPUT: true; the input reads as it did. -/
def fnExactBlocksOfSpec : ChangeSpec := { name := "fnExactBlocksOf", fn := fun _ => fun
  | [d] => { results := [.lit (.bool true)], args := [d] }
  | _ => none }
def fnExactBlocksOfRow : OpenClaim := { program := "ytldkfpaigeoppaa", sum := "a173059ee51c94d48bbc89e2ea7da8f28ed51f42550b51712e8b69d4119caf11", func := "loop.example/g01173/laws.FnExactBlocksOf", spec := "fnExactBlocksOf", unfollowed := true, recurses := true, apart := false }
def FnExactBlocksOfSaid : Prop := fnExactBlocksOfRow.holds Try.pinned (OpenSpec.ofChange fnExactBlocksOfSpec)

/-- ITS FALSE NEIGHBOUR: 'it returns false'. Refute it at one input. -/
def fnExactBlocksOfWrong : ChangeSpec := { name := "fnExactBlocksOf", fn := fun _ => fun
  | [d] => { results := [.lit (.bool false)], args := [d] }
  | _ => none }
def FnExactBlocksOfWrongFalsely : Prop := fnExactBlocksOfRow.holds Try.pinned (OpenSpec.ofChange fnExactBlocksOfWrong)

/-- 'laws.FnExactSamplesOf': WHATEVER THE INPUT: true; the input reads as it did. -/
def fnExactSamplesOfSpec : ChangeSpec := { name := "fnExactSamplesOf", fn := fun _ => fun
  | [d1, d2] => { results := [.lit (.bool true)], args := [d1, d2] }
  | _ => none }
def fnExactSamplesOfRow : OpenClaim := { program := "ytldkfpaigeoppaa", sum := "a173059ee51c94d48bbc89e2ea7da8f28ed51f42550b51712e8b69d4119caf11", func := "loop.example/g01173/laws.FnExactSamplesOf", spec := "fnExactSamplesOf", apart := false }
def FnExactSamplesOfSaid : Prop := fnExactSamplesOfRow.holds Try.pinned (OpenSpec.ofChange fnExactSamplesOfSpec)

/-- ITS FALSE NEIGHBOUR: 'it returns false'. Refute it at one input. -/
def fnExactSamplesOfWrong : ChangeSpec := { name := "fnExactSamplesOf", fn := fun _ => fun
  | [d1, d2] => { results := [.lit (.bool false)], args := [d1, d2] }
  | _ => none }
def FnExactSamplesOfWrongFalsely : Prop := fnExactSamplesOfRow.holds Try.pinned (OpenSpec.ofChange fnExactSamplesOfWrong)

/-- 'laws.FnExactNoiseBlock': WHATEVER THE INPUT: true; the input reads as it did. -/
def fnExactNoiseBlockSpec : ChangeSpec := { name := "fnExactNoiseBlock", fn := fun _ => fun
  | [d] => { results := [.lit (.bool true)], args := [d] }
  | _ => none }
def fnExactNoiseBlockRow : OpenClaim := { program := "ytldkfpaigeoppaa", sum := "a173059ee51c94d48bbc89e2ea7da8f28ed51f42550b51712e8b69d4119caf11", func := "loop.example/g01173/laws.FnExactNoiseBlock", spec := "fnExactNoiseBlock", apart := false }
def FnExactNoiseBlockSaid : Prop := fnExactNoiseBlockRow.holds Try.pinned (OpenSpec.ofChange fnExactNoiseBlockSpec)

/-- ITS FALSE NEIGHBOUR: 'it returns false'. Refute it at one input. -/
def fnExactNoiseBlockWrong : ChangeSpec := { name := "fnExactNoiseBlock", fn := fun _ => fun
  | [d] => { results := [.lit (.bool false)], args := [d] }
  | _ => none }
def FnExactNoiseBlockWrongFalsely : Prop := fnExactNoiseBlockRow.holds Try.pinned (OpenSpec.ofChange fnExactNoiseBlockWrong)

/-- 'laws.FnExactSameBlock': WHATEVER THE INPUT: true; the input reads as it did. -/
def fnExactSameBlockSpec : ChangeSpec := { name := "fnExactSameBlock", fn := fun _ => fun
  | [d1, d2] => { results := [.lit (.bool true)], args := [d1, d2] }
  | _ => none }
def fnExactSameBlockRow : OpenClaim := { program := "ytldkfpaigeoppaa", sum := "a173059ee51c94d48bbc89e2ea7da8f28ed51f42550b51712e8b69d4119caf11", func := "loop.example/g01173/laws.FnExactSameBlock", spec := "fnExactSameBlock", inPlace := ["math.Float32bits"], apart := false }
def FnExactSameBlockSaid : Prop := fnExactSameBlockRow.holds Try.pinned (OpenSpec.ofChange fnExactSameBlockSpec)

/-- ITS FALSE NEIGHBOUR: 'it returns false'. Refute it at one input. -/
def fnExactSameBlockWrong : ChangeSpec := { name := "fnExactSameBlock", fn := fun _ => fun
  | [d1, d2] => { results := [.lit (.bool false)], args := [d1, d2] }
  | _ => none }
def FnExactSameBlockWrongFalsely : Prop := fnExactSameBlockRow.holds Try.pinned (OpenSpec.ofChange fnExactSameBlockWrong)

/-- 'laws.FnExactIsSilent': WHATEVER THE INPUT: true; the input reads as it did. -/
def fnExactIsSilentSpec : ChangeSpec := { name := "fnExactIsSilent", fn := fun _ => fun
  | [d] => { results := [.lit (.bool true)], args := [d] }
  | _ => none }
def fnExactIsSilentRow : OpenClaim := { program := "ytldkfpaigeoppaa", sum := "a173059ee51c94d48bbc89e2ea7da8f28ed51f42550b51712e8b69d4119caf11", func := "loop.example/g01173/laws.FnExactIsSilent", spec := "fnExactIsSilent", apart := false }
def FnExactIsSilentSaid : Prop := fnExactIsSilentRow.holds Try.pinned (OpenSpec.ofChange fnExactIsSilentSpec)

/-- ITS FALSE NEIGHBOUR: 'it returns false'. Refute it at one input. -/
def fnExactIsSilentWrong : ChangeSpec := { name := "fnExactIsSilent", fn := fun _ => fun
  | [d] => { results := [.lit (.bool false)], args := [d] }
  | _ => none }
def FnExactIsSilentWrongFalsely : Prop := fnExactIsSilentRow.holds Try.pinned (OpenSpec.ofChange fnExactIsSilentWrong)

/-- 'laws.FnExactConstants': WHATEVER THE INPUT: true; the input reads as it did. -/
def fnExactConstantsSpec : ChangeSpec := { name := "fnExactConstants", fn := fun _ => fun
  | [] => { results := [.lit (.bool true)], args := [] }
  | _ => none }
def fnExactConstantsRow : OpenClaim := { program := "ytldkfpaigeoppaa", sum := "a173059ee51c94d48bbc89e2ea7da8f28ed51f42550b51712e8b69d4119caf11", func := "loop.example/g01173/laws.FnExactConstants", spec := "fnExactConstants", apart := false }
def FnExactConstantsSaid : Prop := fnExactConstantsRow.holds Try.pinned (OpenSpec.ofChange fnExactConstantsSpec)

/-- ITS FALSE NEIGHBOUR: 'it returns false'. Refute it at one input. -/
def fnExactConstantsWrong : ChangeSpec := { name := "fnExactConstants", fn := fun _ => fun
  | [] => { results := [.lit (.bool false)], args := [] }
  | _ => none }
def FnExactConstantsWrongFalsely : Prop := fnExactConstantsRow.holds Try.pinned (OpenSpec.ofChange fnExactConstantsWrong)

/- THE SECOND FORM. 'bulk': how many values and letters a reading holds, each counted each time it is reached (what is shared counts as often as it is met; a slice's spare places count too). A statement '..UptoSaid' is the law's where the arguments, and the package variables that the reading takes, are together of bulk at most 1048576: NARROWER than '..Said'. Prove '..Said' where nothing that the law and all that it calls make is longer than what came in: it says more and counts as full. Else prove '..UptoSaid'. A law counts once. -/
mutual
def uptoBulk {H : Type} : DataW H → Nat
  | .lit (.string bytes) => bytes.length + 1
  | .lit _ => 1
  | .nil => 1
  | .ptr d => uptoBulk d + 1
  | .slice elems spare => uptoBulkAll elems + uptoBulkAll spare + 1
  | .agg parts => uptoBulkAll parts + 1
  | .iface _ d => uptoBulk d + 1
  | .map entries => uptoBulkEntries entries + 1
  | .held _ => 1
def uptoBulkAll {H : Type} : List (DataW H) → Nat
  | [] => 0
  | d :: r => uptoBulk d + uptoBulkAll r
def uptoBulkEntries {H : Type} : List (Lit × DataW H) → Nat
  | [] => 0
  | x :: r => uptoBulkEntry x + uptoBulkEntries r
def uptoBulkEntry {H : Type} : Lit × DataW H → Nat
  | (.string bytes, d) => bytes.length + uptoBulk d + 1
  | (_, d) => uptoBulk d + 1
 end
def uptoSmall : (H : Type) → List (DataW H) → Bool := fun _ ds => decide (uptoBulkAll ds ≤ 1048576)
def OpenSpec.upto (s : _root_.Go.ChangeSpec) : _root_.Go.OpenSpec := { _root_.Go.OpenSpec.ofChange s with cond := some uptoSmall }

/-- 'laws.FnExactBlocksOf', WHERE WHAT IT READS IS OF BULK AT MOST 1048576: true; the input reads as it did. -/
def fnExactBlocksOfUptoRow : OpenClaim := { program := "ytldkfpaigeoppaa", sum := "a173059ee51c94d48bbc89e2ea7da8f28ed51f42550b51712e8b69d4119caf11", func := "loop.example/g01173/laws.FnExactBlocksOf", spec := "fnExactBlocksOf", unfollowed := true, recurses := true, apart := false, narrowed := true }
def FnExactBlocksOfUptoSaid : Prop := fnExactBlocksOfUptoRow.holds Try.pinned (OpenSpec.upto fnExactBlocksOfSpec)

/-- 'laws.FnExactSamplesOf', WHERE WHAT IT READS IS OF BULK AT MOST 1048576: true; the input reads as it did. -/
def fnExactSamplesOfUptoRow : OpenClaim := { program := "ytldkfpaigeoppaa", sum := "a173059ee51c94d48bbc89e2ea7da8f28ed51f42550b51712e8b69d4119caf11", func := "loop.example/g01173/laws.FnExactSamplesOf", spec := "fnExactSamplesOf", apart := false, narrowed := true }
def FnExactSamplesOfUptoSaid : Prop := fnExactSamplesOfUptoRow.holds Try.pinned (OpenSpec.upto fnExactSamplesOfSpec)

/-- 'laws.FnExactNoiseBlock', WHERE WHAT IT READS IS OF BULK AT MOST 1048576: true; the input reads as it did. -/
def fnExactNoiseBlockUptoRow : OpenClaim := { program := "ytldkfpaigeoppaa", sum := "a173059ee51c94d48bbc89e2ea7da8f28ed51f42550b51712e8b69d4119caf11", func := "loop.example/g01173/laws.FnExactNoiseBlock", spec := "fnExactNoiseBlock", apart := false, narrowed := true }
def FnExactNoiseBlockUptoSaid : Prop := fnExactNoiseBlockUptoRow.holds Try.pinned (OpenSpec.upto fnExactNoiseBlockSpec)

/-- 'laws.FnExactSameBlock', WHERE WHAT IT READS IS OF BULK AT MOST 1048576: true; the input reads as it did. -/
def fnExactSameBlockUptoRow : OpenClaim := { program := "ytldkfpaigeoppaa", sum := "a173059ee51c94d48bbc89e2ea7da8f28ed51f42550b51712e8b69d4119caf11", func := "loop.example/g01173/laws.FnExactSameBlock", spec := "fnExactSameBlock", inPlace := ["math.Float32bits"], apart := false, narrowed := true }
def FnExactSameBlockUptoSaid : Prop := fnExactSameBlockUptoRow.holds Try.pinned (OpenSpec.upto fnExactSameBlockSpec)

/-- 'laws.FnExactIsSilent', WHERE WHAT IT READS IS OF BULK AT MOST 1048576: true; the input reads as it did. -/
def fnExactIsSilentUptoRow : OpenClaim := { program := "ytldkfpaigeoppaa", sum := "a173059ee51c94d48bbc89e2ea7da8f28ed51f42550b51712e8b69d4119caf11", func := "loop.example/g01173/laws.FnExactIsSilent", spec := "fnExactIsSilent", apart := false, narrowed := true }
def FnExactIsSilentUptoSaid : Prop := fnExactIsSilentUptoRow.holds Try.pinned (OpenSpec.upto fnExactIsSilentSpec)

/-- 'laws.FnExactConstants', WHERE WHAT IT READS IS OF BULK AT MOST 1048576: true; the input reads as it did. -/
def fnExactConstantsUptoRow : OpenClaim := { program := "ytldkfpaigeoppaa", sum := "a173059ee51c94d48bbc89e2ea7da8f28ed51f42550b51712e8b69d4119caf11", func := "loop.example/g01173/laws.FnExactConstants", spec := "fnExactConstants", apart := false, narrowed := true }
def FnExactConstantsUptoSaid : Prop := fnExactConstantsUptoRow.holds Try.pinned (OpenSpec.upto fnExactConstantsSpec)

end Rows
end Go.Proofs.Ytldkfpaigeoppaa
