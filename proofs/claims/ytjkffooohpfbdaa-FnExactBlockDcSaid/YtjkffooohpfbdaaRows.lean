/-
  No cell of these rows narrows 'for every input' (looked for: loops, veiled, ifaces, maps, wideKeys, modest, calm, conditions, laid).
  DERIVED. THE GIVEN ROWS OF THIS SEAT. 12 by the template 'for every input the law returns true; each argument reads behind the call as it read before'; 0 by the template 'total and deterministic' (their statements: YtjkffooohpfbdaaTotals.lean).
  GIVEN WITH THE SEED: the statements are not yours to turn. If you find one false, say at which input.
  Laid BY PROGRAM, IN A SANDBOX (cutbox-rows.mjs): the forced cells as the released guide's own fill.sh prints them over the translation 7d353244cc256907… (all of the seat's roots in one cut). By AI agents, Wed Nov 11 2026. No macro, syntax, notation, axiom, sorry.
-/
import Derived.Test.YtjkffooohpfbdaaChecked
import GoSem.Claim
import GoSem.ClaimJoined
import GoSem.ClaimMapViews
import Derived.JoinedTies
import Derived.KernelRfl
namespace Go.Proofs.Ytjkffooohpfbdaa
/- THE CELL 'sum', in the pinned program and in every row, IS THE sha256 OF THE DUMP (.gsa) THAT YtjkffooohpfbdaaProg.lean LOADS. Nothing in Lean hashes anything: it is a label: what it is worth is what the hold of that sum in a sandbox is worth. -/
noncomputable def Try.pinned : Pinned := { name := "ytjkffooohpfbdaa", sum := "7d353244cc256907654da4eb3a9588998617aec501fd5a614e2b6d6e34622101", checked := Try.checked }
namespace Rows
def none {H : Type} : Left H := { results := [], args := [] }

/-- 'laws.FnExactMixBlocks': WHATEVER THE INPUT: true; the input reads as it did. -/
def fnExactMixBlocksSpec : ChangeSpec := { name := "fnExactMixBlocks", fn := fun _ => fun
  | [d1, d2] => { results := [.lit (.bool true)], args := [d1, d2] }
  | _ => none }
def fnExactMixBlocksRow : OpenClaim := { program := "ytjkffooohpfbdaa", sum := "7d353244cc256907654da4eb3a9588998617aec501fd5a614e2b6d6e34622101", func := "loop.example/g01173/laws.FnExactMixBlocks", spec := "fnExactMixBlocks", unfollowed := true, recurses := true, apart := false }
def FnExactMixBlocksSaid : Prop := fnExactMixBlocksRow.holds Try.pinned (OpenSpec.ofChange fnExactMixBlocksSpec)

/-- ITS FALSE NEIGHBOUR: 'it returns false'. Refute it at one input. -/
def fnExactMixBlocksWrong : ChangeSpec := { name := "fnExactMixBlocks", fn := fun _ => fun
  | [d1, d2] => { results := [.lit (.bool false)], args := [d1, d2] }
  | _ => none }
def FnExactMixBlocksWrongFalsely : Prop := fnExactMixBlocksRow.holds Try.pinned (OpenSpec.ofChange fnExactMixBlocksWrong)

/-- 'laws.FnExactScaleBlock': WHATEVER THE INPUT: true; the input reads as it did. -/
def fnExactScaleBlockSpec : ChangeSpec := { name := "fnExactScaleBlock", fn := fun _ => fun
  | [d1, d2] => { results := [.lit (.bool true)], args := [d1, d2] }
  | _ => none }
def fnExactScaleBlockRow : OpenClaim := { program := "ytjkffooohpfbdaa", sum := "7d353244cc256907654da4eb3a9588998617aec501fd5a614e2b6d6e34622101", func := "loop.example/g01173/laws.FnExactScaleBlock", spec := "fnExactScaleBlock", unfollowed := true, recurses := true, apart := false }
def FnExactScaleBlockSaid : Prop := fnExactScaleBlockRow.holds Try.pinned (OpenSpec.ofChange fnExactScaleBlockSpec)

/-- ITS FALSE NEIGHBOUR: 'it returns false'. Refute it at one input. -/
def fnExactScaleBlockWrong : ChangeSpec := { name := "fnExactScaleBlock", fn := fun _ => fun
  | [d1, d2] => { results := [.lit (.bool false)], args := [d1, d2] }
  | _ => none }
def FnExactScaleBlockWrongFalsely : Prop := fnExactScaleBlockRow.holds Try.pinned (OpenSpec.ofChange fnExactScaleBlockWrong)

/-- 'laws.FnExactSameBlock': WHATEVER THE INPUT: true; the input reads as it did. -/
def fnExactSameBlockSpec : ChangeSpec := { name := "fnExactSameBlock", fn := fun _ => fun
  | [d1, d2] => { results := [.lit (.bool true)], args := [d1, d2] }
  | _ => none }
def fnExactSameBlockRow : OpenClaim := { program := "ytjkffooohpfbdaa", sum := "7d353244cc256907654da4eb3a9588998617aec501fd5a614e2b6d6e34622101", func := "loop.example/g01173/laws.FnExactSameBlock", spec := "fnExactSameBlock", inPlace := ["math.Float32bits"], apart := false }
def FnExactSameBlockSaid : Prop := fnExactSameBlockRow.holds Try.pinned (OpenSpec.ofChange fnExactSameBlockSpec)

/-- ITS FALSE NEIGHBOUR: 'it returns false'. Refute it at one input. -/
def fnExactSameBlockWrong : ChangeSpec := { name := "fnExactSameBlock", fn := fun _ => fun
  | [d1, d2] => { results := [.lit (.bool false)], args := [d1, d2] }
  | _ => none }
def FnExactSameBlockWrongFalsely : Prop := fnExactSameBlockRow.holds Try.pinned (OpenSpec.ofChange fnExactSameBlockWrong)

/-- 'laws.FnExactNoiseBlock': WHATEVER THE INPUT: true; the input reads as it did. -/
def fnExactNoiseBlockSpec : ChangeSpec := { name := "fnExactNoiseBlock", fn := fun _ => fun
  | [d] => { results := [.lit (.bool true)], args := [d] }
  | _ => none }
def fnExactNoiseBlockRow : OpenClaim := { program := "ytjkffooohpfbdaa", sum := "7d353244cc256907654da4eb3a9588998617aec501fd5a614e2b6d6e34622101", func := "loop.example/g01173/laws.FnExactNoiseBlock", spec := "fnExactNoiseBlock", apart := false }
def FnExactNoiseBlockSaid : Prop := fnExactNoiseBlockRow.holds Try.pinned (OpenSpec.ofChange fnExactNoiseBlockSpec)

/-- ITS FALSE NEIGHBOUR: 'it returns false'. Refute it at one input. -/
def fnExactNoiseBlockWrong : ChangeSpec := { name := "fnExactNoiseBlock", fn := fun _ => fun
  | [d] => { results := [.lit (.bool false)], args := [d] }
  | _ => none }
def FnExactNoiseBlockWrongFalsely : Prop := fnExactNoiseBlockRow.holds Try.pinned (OpenSpec.ofChange fnExactNoiseBlockWrong)

/-- 'laws.FnExactFromShorts': WHATEVER THE INPUT: true; the input reads as it did. -/
def fnExactFromShortsSpec : ChangeSpec := { name := "fnExactFromShorts", fn := fun _ => fun
  | [d] => { results := [.lit (.bool true)], args := [d] }
  | _ => none }
def fnExactFromShortsRow : OpenClaim := { program := "ytjkffooohpfbdaa", sum := "7d353244cc256907654da4eb3a9588998617aec501fd5a614e2b6d6e34622101", func := "loop.example/g01173/laws.FnExactFromShorts", spec := "fnExactFromShorts", unfollowed := true, recurses := true, apart := false }
def FnExactFromShortsSaid : Prop := fnExactFromShortsRow.holds Try.pinned (OpenSpec.ofChange fnExactFromShortsSpec)

/-- ITS FALSE NEIGHBOUR: 'it returns false'. Refute it at one input. -/
def fnExactFromShortsWrong : ChangeSpec := { name := "fnExactFromShorts", fn := fun _ => fun
  | [d] => { results := [.lit (.bool false)], args := [d] }
  | _ => none }
def FnExactFromShortsWrongFalsely : Prop := fnExactFromShortsRow.holds Try.pinned (OpenSpec.ofChange fnExactFromShortsWrong)

/-- 'laws.FnExactRampBlock': WHATEVER THE INPUT: true; the input reads as it did. -/
def fnExactRampBlockSpec : ChangeSpec := { name := "fnExactRampBlock", fn := fun _ => fun
  | [d1, d2, d3] => { results := [.lit (.bool true)], args := [d1, d2, d3] }
  | _ => none }
def fnExactRampBlockRow : OpenClaim := { program := "ytjkffooohpfbdaa", sum := "7d353244cc256907654da4eb3a9588998617aec501fd5a614e2b6d6e34622101", func := "loop.example/g01173/laws.FnExactRampBlock", spec := "fnExactRampBlock", unfollowed := true, recurses := true, apart := false }
def FnExactRampBlockSaid : Prop := fnExactRampBlockRow.holds Try.pinned (OpenSpec.ofChange fnExactRampBlockSpec)

/-- ITS FALSE NEIGHBOUR: 'it returns false'. Refute it at one input. -/
def fnExactRampBlockWrong : ChangeSpec := { name := "fnExactRampBlock", fn := fun _ => fun
  | [d1, d2, d3] => { results := [.lit (.bool false)], args := [d1, d2, d3] }
  | _ => none }
def FnExactRampBlockWrongFalsely : Prop := fnExactRampBlockRow.holds Try.pinned (OpenSpec.ofChange fnExactRampBlockWrong)

/-- 'laws.FnExactPeakOf': WHATEVER THE INPUT: true; the input reads as it did. -/
def fnExactPeakOfSpec : ChangeSpec := { name := "fnExactPeakOf", fn := fun _ => fun
  | [d] => { results := [.lit (.bool true)], args := [d] }
  | _ => none }
def fnExactPeakOfRow : OpenClaim := { program := "ytjkffooohpfbdaa", sum := "7d353244cc256907654da4eb3a9588998617aec501fd5a614e2b6d6e34622101", func := "loop.example/g01173/laws.FnExactPeakOf", spec := "fnExactPeakOf", inPlace := ["math.Float32bits", "math.Float32frombits", "math.Float64bits", "math.Float64frombits"], apart := false }
def FnExactPeakOfSaid : Prop := fnExactPeakOfRow.holds Try.pinned (OpenSpec.ofChange fnExactPeakOfSpec)

/-- ITS FALSE NEIGHBOUR: 'it returns false'. Refute it at one input. -/
def fnExactPeakOfWrong : ChangeSpec := { name := "fnExactPeakOf", fn := fun _ => fun
  | [d] => { results := [.lit (.bool false)], args := [d] }
  | _ => none }
def FnExactPeakOfWrongFalsely : Prop := fnExactPeakOfRow.holds Try.pinned (OpenSpec.ofChange fnExactPeakOfWrong)

/-- 'laws.FnExactToShort': WHATEVER THE INPUT: true; the input reads as it did. -/
def fnExactToShortSpec : ChangeSpec := { name := "fnExactToShort", fn := fun _ => fun
  | [d] => { results := [.lit (.bool true)], args := [d] }
  | _ => none }
def fnExactToShortRow : OpenClaim := { program := "ytjkffooohpfbdaa", sum := "7d353244cc256907654da4eb3a9588998617aec501fd5a614e2b6d6e34622101", func := "loop.example/g01173/laws.FnExactToShort", spec := "fnExactToShort", inPlace := ["math.RoundToEven"], apart := false }
def FnExactToShortSaid : Prop := fnExactToShortRow.holds Try.pinned (OpenSpec.ofChange fnExactToShortSpec)

/-- ITS FALSE NEIGHBOUR: 'it returns false'. Refute it at one input. -/
def fnExactToShortWrong : ChangeSpec := { name := "fnExactToShort", fn := fun _ => fun
  | [d] => { results := [.lit (.bool false)], args := [d] }
  | _ => none }
def FnExactToShortWrongFalsely : Prop := fnExactToShortRow.holds Try.pinned (OpenSpec.ofChange fnExactToShortWrong)

/-- 'laws.FnExactFlushBlock': WHATEVER THE INPUT: true; the input reads as it did. -/
def fnExactFlushBlockSpec : ChangeSpec := { name := "fnExactFlushBlock", fn := fun _ => fun
  | [d] => { results := [.lit (.bool true)], args := [d] }
  | _ => none }
def fnExactFlushBlockRow : OpenClaim := { program := "ytjkffooohpfbdaa", sum := "7d353244cc256907654da4eb3a9588998617aec501fd5a614e2b6d6e34622101", func := "loop.example/g01173/laws.FnExactFlushBlock", spec := "fnExactFlushBlock", inPlace := ["math.Float32bits", "math.Float32frombits", "math.Float64bits", "math.Float64frombits"], unfollowed := true, recurses := true, apart := false }
def FnExactFlushBlockSaid : Prop := fnExactFlushBlockRow.holds Try.pinned (OpenSpec.ofChange fnExactFlushBlockSpec)

/-- ITS FALSE NEIGHBOUR: 'it returns false'. Refute it at one input. -/
def fnExactFlushBlockWrong : ChangeSpec := { name := "fnExactFlushBlock", fn := fun _ => fun
  | [d] => { results := [.lit (.bool false)], args := [d] }
  | _ => none }
def FnExactFlushBlockWrongFalsely : Prop := fnExactFlushBlockRow.holds Try.pinned (OpenSpec.ofChange fnExactFlushBlockWrong)

/-- 'laws.FnExactToShorts': WHATEVER THE INPUT: true; the input reads as it did. -/
def fnExactToShortsSpec : ChangeSpec := { name := "fnExactToShorts", fn := fun _ => fun
  | [d] => { results := [.lit (.bool true)], args := [d] }
  | _ => none }
def fnExactToShortsRow : OpenClaim := { program := "ytjkffooohpfbdaa", sum := "7d353244cc256907654da4eb3a9588998617aec501fd5a614e2b6d6e34622101", func := "loop.example/g01173/laws.FnExactToShorts", spec := "fnExactToShorts", inPlace := ["math.RoundToEven"], apart := false }
def FnExactToShortsSaid : Prop := fnExactToShortsRow.holds Try.pinned (OpenSpec.ofChange fnExactToShortsSpec)

/-- ITS FALSE NEIGHBOUR: 'it returns false'. Refute it at one input. -/
def fnExactToShortsWrong : ChangeSpec := { name := "fnExactToShorts", fn := fun _ => fun
  | [d] => { results := [.lit (.bool false)], args := [d] }
  | _ => none }
def FnExactToShortsWrongFalsely : Prop := fnExactToShortsRow.holds Try.pinned (OpenSpec.ofChange fnExactToShortsWrong)

/-- 'laws.FnExactBlockDc': WHATEVER THE INPUT: true; the input reads as it did. -/
def fnExactBlockDcSpec : ChangeSpec := { name := "fnExactBlockDc", fn := fun _ => fun
  | [d] => { results := [.lit (.bool true)], args := [d] }
  | _ => none }
def fnExactBlockDcRow : OpenClaim := { program := "ytjkffooohpfbdaa", sum := "7d353244cc256907654da4eb3a9588998617aec501fd5a614e2b6d6e34622101", func := "loop.example/g01173/laws.FnExactBlockDc", spec := "fnExactBlockDc", apart := false }
def FnExactBlockDcSaid : Prop := fnExactBlockDcRow.holds Try.pinned (OpenSpec.ofChange fnExactBlockDcSpec)

/-- ITS FALSE NEIGHBOUR: 'it returns false'. Refute it at one input. -/
def fnExactBlockDcWrong : ChangeSpec := { name := "fnExactBlockDc", fn := fun _ => fun
  | [d] => { results := [.lit (.bool false)], args := [d] }
  | _ => none }
def FnExactBlockDcWrongFalsely : Prop := fnExactBlockDcRow.holds Try.pinned (OpenSpec.ofChange fnExactBlockDcWrong)

/-- 'laws.FnExactOneZero': WHATEVER THE INPUT: true; the input reads as it did. -/
def fnExactOneZeroSpec : ChangeSpec := { name := "fnExactOneZero", fn := fun _ => fun
  | [d] => { results := [.lit (.bool true)], args := [d] }
  | _ => none }
def fnExactOneZeroRow : OpenClaim := { program := "ytjkffooohpfbdaa", sum := "7d353244cc256907654da4eb3a9588998617aec501fd5a614e2b6d6e34622101", func := "loop.example/g01173/laws.FnExactOneZero", spec := "fnExactOneZero", apart := false }
def FnExactOneZeroSaid : Prop := fnExactOneZeroRow.holds Try.pinned (OpenSpec.ofChange fnExactOneZeroSpec)

/-- ITS FALSE NEIGHBOUR: 'it returns false'. Refute it at one input. -/
def fnExactOneZeroWrong : ChangeSpec := { name := "fnExactOneZero", fn := fun _ => fun
  | [d] => { results := [.lit (.bool false)], args := [d] }
  | _ => none }
def FnExactOneZeroWrongFalsely : Prop := fnExactOneZeroRow.holds Try.pinned (OpenSpec.ofChange fnExactOneZeroWrong)

/- THE SECOND FORM. 'bulk': how many values and letters a reading holds, each counted each time it is reached (what is shared counts as often as it is met; a slice's spare places count too). A statement '..UptoSaid' is the law's where the arguments, and the package variables that the reading takes, are together of bulk at most 1048576: NARROWER than '..Said'. Prove '..Said' where nothing that the law and all that it calls make is longer than what came in: it says more and counts as full. Else prove '..UptoSaid'. A law counts once. -/
mutual
def uptoBulk {H : Type} : DataW H → Nat
  | .lit (.string bytes) => bytes.length + 1
  | .lit _ => 1
  | .nil => 1
  | .ptr d => uptoBulk d + 1
  | .slice elems spare => uptoBulkAll elems + uptoBulkAll spare + 1
  | .agg parts => uptoBulkAll parts + 1
  | .iface _ d => uptoBulk d + 1
  | .map entries => uptoBulkEntries entries + 1
  | .held _ => 1
def uptoBulkAll {H : Type} : List (DataW H) → Nat
  | [] => 0
  | d :: r => uptoBulk d + uptoBulkAll r
def uptoBulkEntries {H : Type} : List (Lit × DataW H) → Nat
  | [] => 0
  | x :: r => uptoBulkEntry x + uptoBulkEntries r
def uptoBulkEntry {H : Type} : Lit × DataW H → Nat
  | (.string bytes, d) => bytes.length + uptoBulk d + 1
  | (_, d) => uptoBulk d + 1
 end
def uptoSmall : (H : Type) → List (DataW H) → Bool := fun _ ds => decide (uptoBulkAll ds ≤ 1048576)
def OpenSpec.upto (s : _root_.Go.ChangeSpec) : _root_.Go.OpenSpec := { _root_.Go.OpenSpec.ofChange s with cond := some uptoSmall }

/-- 'laws.FnExactMixBlocks', WHERE WHAT IT READS IS OF BULK AT MOST 1048576: true; the input reads as it did. -/
def fnExactMixBlocksUptoRow : OpenClaim := { program := "ytjkffooohpfbdaa", sum := "7d353244cc256907654da4eb3a9588998617aec501fd5a614e2b6d6e34622101", func := "loop.example/g01173/laws.FnExactMixBlocks", spec := "fnExactMixBlocks", unfollowed := true, recurses := true, apart := false, narrowed := true }
def FnExactMixBlocksUptoSaid : Prop := fnExactMixBlocksUptoRow.holds Try.pinned (OpenSpec.upto fnExactMixBlocksSpec)

/-- 'laws.FnExactScaleBlock', WHERE WHAT IT READS IS OF BULK AT MOST 1048576: true; the input reads as it did. -/
def fnExactScaleBlockUptoRow : OpenClaim := { program := "ytjkffooohpfbdaa", sum := "7d353244cc256907654da4eb3a9588998617aec501fd5a614e2b6d6e34622101", func := "loop.example/g01173/laws.FnExactScaleBlock", spec := "fnExactScaleBlock", unfollowed := true, recurses := true, apart := false, narrowed := true }
def FnExactScaleBlockUptoSaid : Prop := fnExactScaleBlockUptoRow.holds Try.pinned (OpenSpec.upto fnExactScaleBlockSpec)

/-- 'laws.FnExactSameBlock', WHERE WHAT IT READS IS OF BULK AT MOST 1048576: true; the input reads as it did. -/
def fnExactSameBlockUptoRow : OpenClaim := { program := "ytjkffooohpfbdaa", sum := "7d353244cc256907654da4eb3a9588998617aec501fd5a614e2b6d6e34622101", func := "loop.example/g01173/laws.FnExactSameBlock", spec := "fnExactSameBlock", inPlace := ["math.Float32bits"], apart := false, narrowed := true }
def FnExactSameBlockUptoSaid : Prop := fnExactSameBlockUptoRow.holds Try.pinned (OpenSpec.upto fnExactSameBlockSpec)

/-- 'laws.FnExactNoiseBlock', WHERE WHAT IT READS IS OF BULK AT MOST 1048576: true; the input reads as it did. -/
def fnExactNoiseBlockUptoRow : OpenClaim := { program := "ytjkffooohpfbdaa", sum := "7d353244cc256907654da4eb3a9588998617aec501fd5a614e2b6d6e34622101", func := "loop.example/g01173/laws.FnExactNoiseBlock", spec := "fnExactNoiseBlock", apart := false, narrowed := true }
def FnExactNoiseBlockUptoSaid : Prop := fnExactNoiseBlockUptoRow.holds Try.pinned (OpenSpec.upto fnExactNoiseBlockSpec)

/-- 'laws.FnExactFromShorts', WHERE WHAT IT READS IS OF BULK AT MOST 1048576: true; the input reads as it did. -/
def fnExactFromShortsUptoRow : OpenClaim := { program := "ytjkffooohpfbdaa", sum := "7d353244cc256907654da4eb3a9588998617aec501fd5a614e2b6d6e34622101", func := "loop.example/g01173/laws.FnExactFromShorts", spec := "fnExactFromShorts", unfollowed := true, recurses := true, apart := false, narrowed := true }
def FnExactFromShortsUptoSaid : Prop := fnExactFromShortsUptoRow.holds Try.pinned (OpenSpec.upto fnExactFromShortsSpec)

/-- 'laws.FnExactRampBlock', WHERE WHAT IT READS IS OF BULK AT MOST 1048576: true; the input reads as it did. -/
def fnExactRampBlockUptoRow : OpenClaim := { program := "ytjkffooohpfbdaa", sum := "7d353244cc256907654da4eb3a9588998617aec501fd5a614e2b6d6e34622101", func := "loop.example/g01173/laws.FnExactRampBlock", spec := "fnExactRampBlock", unfollowed := true, recurses := true, apart := false, narrowed := true }
def FnExactRampBlockUptoSaid : Prop := fnExactRampBlockUptoRow.holds Try.pinned (OpenSpec.upto fnExactRampBlockSpec)

/-- 'laws.FnExactPeakOf', WHERE WHAT IT READS IS OF BULK AT MOST 1048576: true; the input reads as it did. -/
def fnExactPeakOfUptoRow : OpenClaim := { program := "ytjkffooohpfbdaa", sum := "7d353244cc256907654da4eb3a9588998617aec501fd5a614e2b6d6e34622101", func := "loop.example/g01173/laws.FnExactPeakOf", spec := "fnExactPeakOf", inPlace := ["math.Float32bits", "math.Float32frombits", "math.Float64bits", "math.Float64frombits"], apart := false, narrowed := true }
def FnExactPeakOfUptoSaid : Prop := fnExactPeakOfUptoRow.holds Try.pinned (OpenSpec.upto fnExactPeakOfSpec)

/-- 'laws.FnExactToShort', WHERE WHAT IT READS IS OF BULK AT MOST 1048576: true; the input reads as it did. -/
def fnExactToShortUptoRow : OpenClaim := { program := "ytjkffooohpfbdaa", sum := "7d353244cc256907654da4eb3a9588998617aec501fd5a614e2b6d6e34622101", func := "loop.example/g01173/laws.FnExactToShort", spec := "fnExactToShort", inPlace := ["math.RoundToEven"], apart := false, narrowed := true }
def FnExactToShortUptoSaid : Prop := fnExactToShortUptoRow.holds Try.pinned (OpenSpec.upto fnExactToShortSpec)

/-- 'laws.FnExactFlushBlock', WHERE WHAT IT READS IS OF BULK AT MOST 1048576: true; the input reads as it did. -/
def fnExactFlushBlockUptoRow : OpenClaim := { program := "ytjkffooohpfbdaa", sum := "7d353244cc256907654da4eb3a9588998617aec501fd5a614e2b6d6e34622101", func := "loop.example/g01173/laws.FnExactFlushBlock", spec := "fnExactFlushBlock", inPlace := ["math.Float32bits", "math.Float32frombits", "math.Float64bits", "math.Float64frombits"], unfollowed := true, recurses := true, apart := false, narrowed := true }
def FnExactFlushBlockUptoSaid : Prop := fnExactFlushBlockUptoRow.holds Try.pinned (OpenSpec.upto fnExactFlushBlockSpec)

/-- 'laws.FnExactToShorts', WHERE WHAT IT READS IS OF BULK AT MOST 1048576: true; the input reads as it did. -/
def fnExactToShortsUptoRow : OpenClaim := { program := "ytjkffooohpfbdaa", sum := "7d353244cc256907654da4eb3a9588998617aec501fd5a614e2b6d6e34622101", func := "loop.example/g01173/laws.FnExactToShorts", spec := "fnExactToShorts", inPlace := ["math.RoundToEven"], apart := false, narrowed := true }
def FnExactToShortsUptoSaid : Prop := fnExactToShortsUptoRow.holds Try.pinned (OpenSpec.upto fnExactToShortsSpec)

/-- 'laws.FnExactBlockDc', WHERE WHAT IT READS IS OF BULK AT MOST 1048576: true; the input reads as it did. -/
def fnExactBlockDcUptoRow : OpenClaim := { program := "ytjkffooohpfbdaa", sum := "7d353244cc256907654da4eb3a9588998617aec501fd5a614e2b6d6e34622101", func := "loop.example/g01173/laws.FnExactBlockDc", spec := "fnExactBlockDc", apart := false, narrowed := true }
def FnExactBlockDcUptoSaid : Prop := fnExactBlockDcUptoRow.holds Try.pinned (OpenSpec.upto fnExactBlockDcSpec)

/-- 'laws.FnExactOneZero', WHERE WHAT IT READS IS OF BULK AT MOST 1048576: true; the input reads as it did. -/
def fnExactOneZeroUptoRow : OpenClaim := { program := "ytjkffooohpfbdaa", sum := "7d353244cc256907654da4eb3a9588998617aec501fd5a614e2b6d6e34622101", func := "loop.example/g01173/laws.FnExactOneZero", spec := "fnExactOneZero", apart := false, narrowed := true }
def FnExactOneZeroUptoSaid : Prop := fnExactOneZeroUptoRow.holds Try.pinned (OpenSpec.upto fnExactOneZeroSpec)

end Rows
end Go.Proofs.Ytjkffooohpfbdaa
