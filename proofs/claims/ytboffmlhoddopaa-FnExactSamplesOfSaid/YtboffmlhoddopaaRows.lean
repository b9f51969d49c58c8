/-
  No cell of these rows narrows 'for every input' (looked for: loops, veiled, ifaces, maps, wideKeys, modest, calm, conditions, laid).
  DERIVED. THE GIVEN ROWS OF THIS SEAT. 12 by the template 'for every input the law returns true; each argument reads behind the call as it read before'; 0 by the template 'total and deterministic' (their statements: YtboffmlhoddopaaTotals.lean).
  GIVEN WITH THE SEED: the statements are not yours to turn. If you find one false, say at which input.
  Laid BY PROGRAM, IN A SANDBOX (cutbox-rows.mjs): the forced cells as the released guide's own fill.sh prints them over the translation b03aed21841f2f2a… (all of the seat's roots in one cut). By AI agents, Wed Nov 11 2026. No macro, syntax, notation, axiom, sorry.
-/
import Derived.Test.YtboffmlhoddopaaChecked
import GoSem.Claim
import GoSem.ClaimJoined
import GoSem.ClaimMapViews
import Derived.JoinedTies
import Derived.KernelRfl
namespace Go.Proofs.Ytboffmlhoddopaa
/- THE CELL 'sum', in the pinned program and in every row, IS THE sha256 OF THE DUMP (.gsa) THAT YtboffmlhoddopaaProg.lean LOADS. Nothing in Lean hashes anything: it is a label: what it is worth is what the hold of that sum in a sandbox is worth. -/
noncomputable def Try.pinned : Pinned := { name := "ytboffmlhoddopaa", sum := "b03aed21841f2f2a61f500c34931c72d96b434d34fb7ae92c4ffbf5aa01717c7", checked := Try.checked }
namespace Rows
def none {H : Type} : Left H := { results := [], args := [] }

/-- 'laws.FnExactOnePole': WHATEVER THE INPUT: true; the input reads as it did. -/
def fnExactOnePoleSpec : ChangeSpec := { name := "fnExactOnePole", fn := fun _ => fun
  | [d] => { results := [.lit (.bool true)], args := [d] }
  | _ => none }
def fnExactOnePoleRow : OpenClaim := { program := "ytboffmlhoddopaa", sum := "b03aed21841f2f2a61f500c34931c72d96b434d34fb7ae92c4ffbf5aa01717c7", func := "loop.example/g01173/laws.FnExactOnePole", spec := "fnExactOnePole", apart := false }
def FnExactOnePoleSaid : Prop := fnExactOnePoleRow.holds Try.pinned (OpenSpec.ofChange fnExactOnePoleSpec)

/-- ITS FALSE NEIGHBOUR: 'it returns false'. Refute it at one input. -/
def fnExactOnePoleWrong : ChangeSpec := { name := "fnExactOnePole", fn := fun _ => fun
  | [d] => { results := [.lit (.bool false)], args := [d] }
  | _ => none }
def FnExactOnePoleWrongFalsely : Prop := fnExactOnePoleRow.holds Try.pinned (OpenSpec.ofChange fnExactOnePoleWrong)

/-- 'laws.FnExactAllpassFor': WHATEVER THE INPUT: true; the input reads as it did. -/
def fnExactAllpassForSpec : ChangeSpec := { name := "fnExactAllpassFor", fn := fun _ => fun
  | [d] => { results := [.lit (.bool true)], args := [d] }
  | _ => none }
def fnExactAllpassForRow : OpenClaim := { program := "ytboffmlhoddopaa", sum := "b03aed21841f2f2a61f500c34931c72d96b434d34fb7ae92c4ffbf5aa01717c7", func := "loop.example/g01173/laws.FnExactAllpassFor", spec := "fnExactAllpassFor", apart := false }
def FnExactAllpassForSaid : Prop := fnExactAllpassForRow.holds Try.pinned (OpenSpec.ofChange fnExactAllpassForSpec)

/-- ITS FALSE NEIGHBOUR: 'it returns false'. Refute it at one input. -/
def fnExactAllpassForWrong : ChangeSpec := { name := "fnExactAllpassFor", fn := fun _ => fun
  | [d] => { results := [.lit (.bool false)], args := [d] }
  | _ => none }
def FnExactAllpassForWrongFalsely : Prop := fnExactAllpassForRow.holds Try.pinned (OpenSpec.ofChange fnExactAllpassForWrong)

/-- 'laws.FnExactSameFilter': WHATEVER THE INPUT: true; the input reads as it did. -/
def fnExactSameFilterSpec : ChangeSpec := { name := "fnExactSameFilter", fn := fun _ => fun
  | [d1, d2] => { results := [.lit (.bool true)], args := [d1, d2] }
  | _ => none }
def fnExactSameFilterRow : OpenClaim := { program := "ytboffmlhoddopaa", sum := "b03aed21841f2f2a61f500c34931c72d96b434d34fb7ae92c4ffbf5aa01717c7", func := "loop.example/g01173/laws.FnExactSameFilter", spec := "fnExactSameFilter", inPlace := ["math.Float32bits"], unfollowed := true, recurses := true, apart := false }
def FnExactSameFilterSaid : Prop := fnExactSameFilterRow.holds Try.pinned (OpenSpec.ofChange fnExactSameFilterSpec)

/-- ITS FALSE NEIGHBOUR: 'it returns false'. Refute it at one input. -/
def fnExactSameFilterWrong : ChangeSpec := { name := "fnExactSameFilter", fn := fun _ => fun
  | [d1, d2] => { results := [.lit (.bool false)], args := [d1, d2] }
  | _ => none }
def FnExactSameFilterWrongFalsely : Prop := fnExactSameFilterRow.holds Try.pinned (OpenSpec.ofChange fnExactSameFilterWrong)

/-- 'laws.FnExactValidFilter': WHATEVER THE INPUT: true; the input reads as it did. -/
def fnExactValidFilterSpec : ChangeSpec := { name := "fnExactValidFilter", fn := fun _ => fun
  | [d] => { results := [.lit (.bool true)], args := [d] }
  | _ => none }
def fnExactValidFilterRow : OpenClaim := { program := "ytboffmlhoddopaa", sum := "b03aed21841f2f2a61f500c34931c72d96b434d34fb7ae92c4ffbf5aa01717c7", func := "loop.example/g01173/laws.FnExactValidFilter", spec := "fnExactValidFilter", inPlace := ["math.Float32bits"], apart := false }
def FnExactValidFilterSaid : Prop := fnExactValidFilterRow.holds Try.pinned (OpenSpec.ofChange fnExactValidFilterSpec)

/-- ITS FALSE NEIGHBOUR: 'it returns false'. Refute it at one input. -/
def fnExactValidFilterWrong : ChangeSpec := { name := "fnExactValidFilter", fn := fun _ => fun
  | [d] => { results := [.lit (.bool false)], args := [d] }
  | _ => none }
def FnExactValidFilterWrongFalsely : Prop := fnExactValidFilterRow.holds Try.pinned (OpenSpec.ofChange fnExactValidFilterWrong)

/-- 'laws.FnExactValidRing': WHATEVER THE INPUT: true; the input reads as it did. -/
def fnExactValidRingSpec : ChangeSpec := { name := "fnExactValidRing", fn := fun _ => fun
  | [d] => { results := [.lit (.bool true)], args := [d] }
  | _ => none }
def fnExactValidRingRow : OpenClaim := { program := "ytboffmlhoddopaa", sum := "b03aed21841f2f2a61f500c34931c72d96b434d34fb7ae92c4ffbf5aa01717c7", func := "loop.example/g01173/laws.FnExactValidRing", spec := "fnExactValidRing", apart := false }
def FnExactValidRingSaid : Prop := fnExactValidRingRow.holds Try.pinned (OpenSpec.ofChange fnExactValidRingSpec)

/-- ITS FALSE NEIGHBOUR: 'it returns false'. Refute it at one input. -/
def fnExactValidRingWrong : ChangeSpec := { name := "fnExactValidRing", fn := fun _ => fun
  | [d] => { results := [.lit (.bool false)], args := [d] }
  | _ => none }
def FnExactValidRingWrongFalsely : Prop := fnExactValidRingRow.holds Try.pinned (OpenSpec.ofChange fnExactValidRingWrong)

/-- 'laws.FnExactNewRing': WHATEVER THE INPUT: true; the input reads as it did. -/
def fnExactNewRingSpec : ChangeSpec := { name := "fnExactNewRing", fn := fun _ => fun
  | [d] => { results := [.lit (.bool true)], args := [d] }
  | _ => none }
def fnExactNewRingRow : OpenClaim := { program := "ytboffmlhoddopaa", sum := "b03aed21841f2f2a61f500c34931c72d96b434d34fb7ae92c4ffbf5aa01717c7", func := "loop.example/g01173/laws.FnExactNewRing", spec := "fnExactNewRing", apart := false }
def FnExactNewRingSaid : Prop := fnExactNewRingRow.holds Try.pinned (OpenSpec.ofChange fnExactNewRingSpec)

/-- ITS FALSE NEIGHBOUR: 'it returns false'. Refute it at one input. -/
def fnExactNewRingWrong : ChangeSpec := { name := "fnExactNewRing", fn := fun _ => fun
  | [d] => { results := [.lit (.bool false)], args := [d] }
  | _ => none }
def FnExactNewRingWrongFalsely : Prop := fnExactNewRingRow.holds Try.pinned (OpenSpec.ofChange fnExactNewRingWrong)

/-- 'laws.FnExactReadBack': WHATEVER THE INPUT: true; the input reads as it did. -/
def fnExactReadBackSpec : ChangeSpec := { name := "fnExactReadBack", fn := fun _ => fun
  | [d1, d2] => { results := [.lit (.bool true)], args := [d1, d2] }
  | _ => none }
def fnExactReadBackRow : OpenClaim := { program := "ytboffmlhoddopaa", sum := "b03aed21841f2f2a61f500c34931c72d96b434d34fb7ae92c4ffbf5aa01717c7", func := "loop.example/g01173/laws.FnExactReadBack", spec := "fnExactReadBack", apart := false }
def FnExactReadBackSaid : Prop := fnExactReadBackRow.holds Try.pinned (OpenSpec.ofChange fnExactReadBackSpec)

/-- ITS FALSE NEIGHBOUR: 'it returns false'. Refute it at one input. -/
def fnExactReadBackWrong : ChangeSpec := { name := "fnExactReadBack", fn := fun _ => fun
  | [d1, d2] => { results := [.lit (.bool false)], args := [d1, d2] }
  | _ => none }
def FnExactReadBackWrongFalsely : Prop := fnExactReadBackRow.holds Try.pinned (OpenSpec.ofChange fnExactReadBackWrong)

/-- 'laws.FnExactSameRing': WHATEVER THE INPUT: true; the input reads as it did. -/
def fnExactSameRingSpec : ChangeSpec := { name := "fnExactSameRing", fn := fun _ => fun
  | [d1, d2] => { results := [.lit (.bool true)], args := [d1, d2] }
  | _ => none }
def fnExactSameRingRow : OpenClaim := { program := "ytboffmlhoddopaa", sum := "b03aed21841f2f2a61f500c34931c72d96b434d34fb7ae92c4ffbf5aa01717c7", func := "loop.example/g01173/laws.FnExactSameRing", spec := "fnExactSameRing", inPlace := ["math.Float32bits"], unfollowed := true, recurses := true, apart := false }
def FnExactSameRingSaid : Prop := fnExactSameRingRow.holds Try.pinned (OpenSpec.ofChange fnExactSameRingSpec)

/-- ITS FALSE NEIGHBOUR: 'it returns false'. Refute it at one input. -/
def fnExactSameRingWrong : ChangeSpec := { name := "fnExactSameRing", fn := fun _ => fun
  | [d1, d2] => { results := [.lit (.bool false)], args := [d1, d2] }
  | _ => none }
def FnExactSameRingWrongFalsely : Prop := fnExactSameRingRow.holds Try.pinned (OpenSpec.ofChange fnExactSameRingWrong)

/-- 'laws.FnExactTurnRing': WHATEVER THE INPUT: true; the input reads as it did. -/
def fnExactTurnRingSpec : ChangeSpec := { name := "fnExactTurnRing", fn := fun _ => fun
  | [d] => { results := [.lit (.bool true)], args := [d] }
  | _ => none }
def fnExactTurnRingRow : OpenClaim := { program := "ytboffmlhoddopaa", sum := "b03aed21841f2f2a61f500c34931c72d96b434d34fb7ae92c4ffbf5aa01717c7", func := "loop.example/g01173/laws.FnExactTurnRing", spec := "fnExactTurnRing", apart := false }
def FnExactTurnRingSaid : Prop := fnExactTurnRingRow.holds Try.pinned (OpenSpec.ofChange fnExactTurnRingSpec)

/-- ITS FALSE NEIGHBOUR: 'it returns false'. Refute it at one input. -/
def fnExactTurnRingWrong : ChangeSpec := { name := "fnExactTurnRing", fn := fun _ => fun
  | [d] => { results := [.lit (.bool false)], args := [d] }
  | _ => none }
def FnExactTurnRingWrongFalsely : Prop := fnExactTurnRingRow.holds Try.pinned (OpenSpec.ofChange fnExactTurnRingWrong)

/-- 'laws.FnExactBlocksOf': WHATEVER THE INPUT: true; the input reads as it did. -/
def fnExactBlocksOfSpec : ChangeSpec := { name := "fnExactBlocksOf", fn := fun _ => fun
  | [d] => { results := [.lit (.bool true)], args := [d] }
  | _ => none }
def fnExactBlocksOfRow : OpenClaim := { program := "ytboffmlhoddopaa", sum := "b03aed21841f2f2a61f500c34931c72d96b434d34fb7ae92c4ffbf5aa01717c7", func := "loop.example/g01173/laws.FnExactBlocksOf", spec := "fnExactBlocksOf", unfollowed := true, recurses := true, apart := false }
def FnExactBlocksOfSaid : Prop := fnExactBlocksOfRow.holds Try.pinned (OpenSpec.ofChange fnExactBlocksOfSpec)

/-- ITS FALSE NEIGHBOUR: 'it returns false'. Refute it at one input. -/
def fnExactBlocksOfWrong : ChangeSpec := { name := "fnExactBlocksOf", fn := fun _ => fun
  | [d] => { results := [.lit (.bool false)], args := [d] }
  | _ => none }
def FnExactBlocksOfWrongFalsely : Prop := fnExactBlocksOfRow.holds Try.pinned (OpenSpec.ofChange fnExactBlocksOfWrong)

/-- 'laws.FnExactSamplesOf': WHATEVER THE INPUT: true; the input reads as it did. -/
def fnExactSamplesOfSpec : ChangeSpec := { name := "fnExactSamplesOf", fn := fun _ => fun
  | [d1, d2] => { results := [.lit (.bool true)], args := [d1, d2] }
  | _ => none }
def fnExactSamplesOfRow : OpenClaim := { program := "ytboffmlhoddopaa", sum := "b03aed21841f2f2a61f500c34931c72d96b434d34fb7ae92c4ffbf5aa01717c7", func := "loop.example/g01173/laws.FnExactSamplesOf", spec := "fnExactSamplesOf", apart := false }
def FnExactSamplesOfSaid : Prop := fnExactSamplesOfRow.holds Try.pinned (OpenSpec.ofChange fnExactSamplesOfSpec)

/-- ITS FALSE NEIGHBOUR: 'it returns false'. Refute it at one input. -/
def fnExactSamplesOfWrong : ChangeSpec := { name := "fnExactSamplesOf", fn := fun _ => fun
  | [d1, d2] => { results := [.lit (.bool false)], args := [d1, d2] }
  | _ => none }
def FnExactSamplesOfWrongFalsely : Prop := fnExactSamplesOfRow.holds Try.pinned (OpenSpec.ofChange fnExactSamplesOfWrong)

/-- 'laws.FnExactBreathRamp': WHATEVER THE INPUT: true; the input reads as it did. -/
def fnExactBreathRampSpec : ChangeSpec := { name := "fnExactBreathRamp", fn := fun _ => fun
  | [d1, d2, d3] => { results := [.lit (.bool true)], args := [d1, d2, d3] }
  | _ => none }
def fnExactBreathRampRow : OpenClaim := { program := "ytboffmlhoddopaa", sum := "b03aed21841f2f2a61f500c34931c72d96b434d34fb7ae92c4ffbf5aa01717c7", func := "loop.example/g01173/laws.FnExactBreathRamp", spec := "fnExactBreathRamp", apart := false }
def FnExactBreathRampSaid : Prop := fnExactBreathRampRow.holds Try.pinned (OpenSpec.ofChange fnExactBreathRampSpec)

/-- ITS FALSE NEIGHBOUR: 'it returns false'. Refute it at one input. -/
def fnExactBreathRampWrong : ChangeSpec := { name := "fnExactBreathRamp", fn := fun _ => fun
  | [d1, d2, d3] => { results := [.lit (.bool false)], args := [d1, d2, d3] }
  | _ => none }
def FnExactBreathRampWrongFalsely : Prop := fnExactBreathRampRow.holds Try.pinned (OpenSpec.ofChange fnExactBreathRampWrong)

/- THE SECOND FORM. 'bulk': how many values and letters a reading holds, each counted each time it is reached (what is shared counts as often as it is met; a slice's spare places count too). A statement '..UptoSaid' is the law's where the arguments, and the package variables that the reading takes, are together of bulk at most 1048576: NARROWER than '..Said'. Prove '..Said' where nothing that the law and all that it calls make is longer than what came in: it says more and counts as full. Else prove '..UptoSaid'. A law counts once. -/
mutual
def uptoBulk {H : Type} : DataW H → Nat
  | .lit (.string bytes) => bytes.length + 1
  | .lit _ => 1
  | .nil => 1
  | .ptr d => uptoBulk d + 1
  | .slice elems spare => uptoBulkAll elems + uptoBulkAll spare + 1
  | .agg parts => uptoBulkAll parts + 1
  | .iface _ d => uptoBulk d + 1
  | .map entries => uptoBulkEntries entries + 1
  | .held _ => 1
def uptoBulkAll {H : Type} : List (DataW H) → Nat
  | [] => 0
  | d :: r => uptoBulk d + uptoBulkAll r
def uptoBulkEntries {H : Type} : List (Lit × DataW H) → Nat
  | [] => 0
  | x :: r => uptoBulkEntry x + uptoBulkEntries r
def uptoBulkEntry {H : Type} : Lit × DataW H → Nat
  | (.string bytes, d) => bytes.length + uptoBulk d + 1
  | (_, d) => uptoBulk d + 1
 end
def uptoSmall : (H : Type) → List (DataW H) → Bool := fun _ ds => decide (uptoBulkAll ds ≤ 1048576)
def OpenSpec.upto (s : _root_.Go.ChangeSpec) : _root_.Go.OpenSpec := { _root_.Go.OpenSpec.ofChange s with cond := some uptoSmall }

/-- 'laws.FnExactOnePole', WHERE WHAT IT READS IS OF BULK AT MOST 1048576: true; the input reads as it did. -/
def fnExactOnePoleUptoRow : OpenClaim := { program := "ytboffmlhoddopaa", sum := "b03aed21841f2f2a61f500c34931c72d96b434d34fb7ae92c4ffbf5aa01717c7", func := "loop.example/g01173/laws.FnExactOnePole", spec := "fnExactOnePole", apart := false, narrowed := true }
def FnExactOnePoleUptoSaid : Prop := fnExactOnePoleUptoRow.holds Try.pinned (OpenSpec.upto fnExactOnePoleSpec)

/-- 'laws.FnExactAllpassFor', WHERE WHAT IT READS IS OF BULK AT MOST 1048576: true; the input reads as it did. -/
def fnExactAllpassForUptoRow : OpenClaim := { program := "ytboffmlhoddopaa", sum := "b03aed21841f2f2a61f500c34931c72d96b434d34fb7ae92c4ffbf5aa01717c7", func := "loop.example/g01173/laws.FnExactAllpassFor", spec := "fnExactAllpassFor", apart := false, narrowed := true }
def FnExactAllpassForUptoSaid : Prop := fnExactAllpassForUptoRow.holds Try.pinned (OpenSpec.upto fnExactAllpassForSpec)

/-- 'laws.FnExactSameFilter', WHERE WHAT IT READS IS OF BULK AT MOST 1048576: true; the input reads as it did. -/
def fnExactSameFilterUptoRow : OpenClaim := { program := "ytboffmlhoddopaa", sum := "b03aed21841f2f2a61f500c34931c72d96b434d34fb7ae92c4ffbf5aa01717c7", func := "loop.example/g01173/laws.FnExactSameFilter", spec := "fnExactSameFilter", inPlace := ["math.Float32bits"], unfollowed := true, recurses := true, apart := false, narrowed := true }
def FnExactSameFilterUptoSaid : Prop := fnExactSameFilterUptoRow.holds Try.pinned (OpenSpec.upto fnExactSameFilterSpec)

/-- 'laws.FnExactValidFilter', WHERE WHAT IT READS IS OF BULK AT MOST 1048576: true; the input reads as it did. -/
def fnExactValidFilterUptoRow : OpenClaim := { program := "ytboffmlhoddopaa", sum := "b03aed21841f2f2a61f500c34931c72d96b434d34fb7ae92c4ffbf5aa01717c7", func := "loop.example/g01173/laws.FnExactValidFilter", spec := "fnExactValidFilter", inPlace := ["math.Float32bits"], apart := false, narrowed := true }
def FnExactValidFilterUptoSaid : Prop := fnExactValidFilterUptoRow.holds Try.pinned (OpenSpec.upto fnExactValidFilterSpec)

/-- 'laws.FnExactValidRing', WHERE WHAT IT READS IS OF BULK AT MOST 1048576: true; the input reads as it did. -/
def fnExactValidRingUptoRow : OpenClaim := { program := "ytboffmlhoddopaa", sum := "b03aed21841f2f2a61f500c34931c72d96b434d34fb7ae92c4ffbf5aa01717c7", func := "loop.example/g01173/laws.FnExactValidRing", spec := "fnExactValidRing", apart := false, narrowed := true }
def FnExactValidRingUptoSaid : Prop := fnExactValidRingUptoRow.holds Try.pinned (OpenSpec.upto fnExactValidRingSpec)

/-- 'laws.FnExactNewRing', WHERE WHAT IT READS IS OF BULK AT MOST 1048576: true; the input reads as it did. -/
def fnExactNewRingUptoRow : OpenClaim := { program := "ytboffmlhoddopaa", sum := "b03aed21841f2f2a61f500c34931c72d96b434d34fb7ae92c4ffbf5aa01717c7", func := "loop.example/g01173/laws.FnExactNewRing", spec := "fnExactNewRing", apart := false, narrowed := true }
def FnExactNewRingUptoSaid : Prop := fnExactNewRingUptoRow.holds Try.pinned (OpenSpec.upto fnExactNewRingSpec)

/-- 'laws.FnExactReadBack', WHERE WHAT IT READS IS OF BULK AT MOST 1048576: true; the input reads as it did. -/
def fnExactReadBackUptoRow : OpenClaim := { program := "ytboffmlhoddopaa", sum := "b03aed21841f2f2a61f500c34931c72d96b434d34fb7ae92c4ffbf5aa01717c7", func := "loop.example/g01173/laws.FnExactReadBack", spec := "fnExactReadBack", apart := false, narrowed := true }
def FnExactReadBackUptoSaid : Prop := fnExactReadBackUptoRow.holds Try.pinned (OpenSpec.upto fnExactReadBackSpec)

/-- 'laws.FnExactSameRing', WHERE WHAT IT READS IS OF BULK AT MOST 1048576: true; the input reads as it did. -/
def fnExactSameRingUptoRow : OpenClaim := { program := "ytboffmlhoddopaa", sum := "b03aed21841f2f2a61f500c34931c72d96b434d34fb7ae92c4ffbf5aa01717c7", func := "loop.example/g01173/laws.FnExactSameRing", spec := "fnExactSameRing", inPlace := ["math.Float32bits"], unfollowed := true, recurses := true, apart := false, narrowed := true }
def FnExactSameRingUptoSaid : Prop := fnExactSameRingUptoRow.holds Try.pinned (OpenSpec.upto fnExactSameRingSpec)

/-- 'laws.FnExactTurnRing', WHERE WHAT IT READS IS OF BULK AT MOST 1048576: true; the input reads as it did. -/
def fnExactTurnRingUptoRow : OpenClaim := { program := "ytboffmlhoddopaa", sum := "b03aed21841f2f2a61f500c34931c72d96b434d34fb7ae92c4ffbf5aa01717c7", func := "loop.example/g01173/laws.FnExactTurnRing", spec := "fnExactTurnRing", apart := false, narrowed := true }
def FnExactTurnRingUptoSaid : Prop := fnExactTurnRingUptoRow.holds Try.pinned (OpenSpec.upto fnExactTurnRingSpec)

/-- 'laws.FnExactBlocksOf', WHERE WHAT IT READS IS OF BULK AT MOST 1048576: true; the input reads as it did. -/
def fnExactBlocksOfUptoRow : OpenClaim := { program := "ytboffmlhoddopaa", sum := "b03aed21841f2f2a61f500c34931c72d96b434d34fb7ae92c4ffbf5aa01717c7", func := "loop.example/g01173/laws.FnExactBlocksOf", spec := "fnExactBlocksOf", unfollowed := true, recurses := true, apart := false, narrowed := true }
def FnExactBlocksOfUptoSaid : Prop := fnExactBlocksOfUptoRow.holds Try.pinned (OpenSpec.upto fnExactBlocksOfSpec)

/-- 'laws.FnExactSamplesOf', WHERE WHAT IT READS IS OF BULK AT MOST 1048576: true; the input reads as it did. -/
def fnExactSamplesOfUptoRow : OpenClaim := { program := "ytboffmlhoddopaa", sum := "b03aed21841f2f2a61f500c34931c72d96b434d34fb7ae92c4ffbf5aa01717c7", func := "loop.example/g01173/laws.FnExactSamplesOf", spec := "fnExactSamplesOf", apart := false, narrowed := true }
def FnExactSamplesOfUptoSaid : Prop := fnExactSamplesOfUptoRow.holds Try.pinned (OpenSpec.upto fnExactSamplesOfSpec)

/-- 'laws.FnExactBreathRamp', WHERE WHAT IT READS IS OF BULK AT MOST 1048576: true; the input reads as it did. -/
def fnExactBreathRampUptoRow : OpenClaim := { program := "ytboffmlhoddopaa", sum := "b03aed21841f2f2a61f500c34931c72d96b434d34fb7ae92c4ffbf5aa01717c7", func := "loop.example/g01173/laws.FnExactBreathRamp", spec := "fnExactBreathRamp", apart := false, narrowed := true }
def FnExactBreathRampUptoSaid : Prop := fnExactBreathRampUptoRow.holds Try.pinned (OpenSpec.upto fnExactBreathRampSpec)

end Rows
end Go.Proofs.Ytboffmlhoddopaa
