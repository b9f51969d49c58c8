/-
  No cell of these rows narrows 'for every input' (looked for: loops, veiled, ifaces, maps, wideKeys, modest, calm, conditions, laid).
  DERIVED. THE GIVEN ROWS OF THIS SEAT. 12 by the template 'for every input the law returns true; each argument reads behind the call as it read before'; 0 by the template 'total and deterministic' (their statements: YtbjaihboagompaaTotals.lean).
  GIVEN WITH THE SEED: the statements are not yours to turn. If you find one false, say at which input.
  Laid BY PROGRAM, IN A SANDBOX (cutbox-rows.mjs): the forced cells as the released guide's own fill.sh prints them over the translation 641875112148ca1f… (all of the seat's roots in one cut). By AI agents, Wed Nov 11 2026. No macro, syntax, notation, axiom, sorry.
-/
import Derived.Test.YtbjaihboagompaaChecked
import GoSem.Claim
import GoSem.ClaimJoined
import GoSem.ClaimMapViews
import Derived.JoinedTies
import Derived.KernelRfl
namespace Go.Proofs.Ytbjaihboagompaa
/- THE CELL 'sum', in the pinned program and in every row, IS THE sha256 OF THE DUMP (.gsa) THAT YtbjaihboagompaaProg.lean LOADS. Nothing in Lean hashes anything: it is a label: what it is worth is what the hold of that sum in a sandbox is worth. -/
noncomputable def Try.pinned : Pinned := { name := "ytbjaihboagompaa", sum := "641875112148ca1f8bb16c605c1a26aa3632394dfa2194b64fa49e708b8c735d", checked := Try.checked }
namespace Rows
def none {H : Type} : Left H := { results := [], args := [] }

/-- 'laws.FnExactConstants': WHATEVER THE INPUT: true; the input reads as it did. -/
def fnExactConstantsSpec : ChangeSpec := { name := "fnExactConstants", fn := fun _ => fun
  | [] => { results := [.lit (.bool true)], args := [] }
  | _ => none }
def fnExactConstantsRow : OpenClaim := { program := "ytbjaihboagompaa", sum := "641875112148ca1f8bb16c605c1a26aa3632394dfa2194b64fa49e708b8c735d", func := "loop.example/g01173/laws.FnExactConstants", spec := "fnExactConstants", apart := false }
def FnExactConstantsSaid : Prop := fnExactConstantsRow.holds Try.pinned (OpenSpec.ofChange fnExactConstantsSpec)

/-- ITS FALSE NEIGHBOUR: 'it returns false'. Refute it at one input. -/
def fnExactConstantsWrong : ChangeSpec := { name := "fnExactConstants", fn := fun _ => fun
  | [] => { results := [.lit (.bool false)], args := [] }
  | _ => none }
def FnExactConstantsWrongFalsely : Prop := fnExactConstantsRow.holds Try.pinned (OpenSpec.ofChange fnExactConstantsWrong)

/-- 'laws.FnExactFromShort': WHATEVER THE INPUT: true; the input reads as it did. -/
def fnExactFromShortSpec : ChangeSpec := { name := "fnExactFromShort", fn := fun _ => fun
  | [d] => { results := [.lit (.bool true)], args := [d] }
  | _ => none }
def fnExactFromShortRow : OpenClaim := { program := "ytbjaihboagompaa", sum := "641875112148ca1f8bb16c605c1a26aa3632394dfa2194b64fa49e708b8c735d", func := "loop.example/g01173/laws.FnExactFromShort", spec := "fnExactFromShort", apart := false }
def FnExactFromShortSaid : Prop := fnExactFromShortRow.holds Try.pinned (OpenSpec.ofChange fnExactFromShortSpec)

/-- ITS FALSE NEIGHBOUR: 'it returns false'. Refute it at one input. -/
def fnExactFromShortWrong : ChangeSpec := { name := "fnExactFromShort", fn := fun _ => fun
  | [d] => { results := [.lit (.bool false)], args := [d] }
  | _ => none }
def FnExactFromShortWrongFalsely : Prop := fnExactFromShortRow.holds Try.pinned (OpenSpec.ofChange fnExactFromShortWrong)

/-- 'laws.FnExactCodeName': WHATEVER THE INPUT: true; the input reads as it did. -/
def fnExactCodeNameSpec : ChangeSpec := { name := "fnExactCodeName", fn := fun _ => fun
  | [d] => { results := [.lit (.bool true)], args := [d] }
  | _ => none }
def fnExactCodeNameRow : OpenClaim := { program := "ytbjaihboagompaa", sum := "641875112148ca1f8bb16c605c1a26aa3632394dfa2194b64fa49e708b8c735d", func := "loop.example/g01173/laws.FnExactCodeName", spec := "fnExactCodeName", apart := false }
def FnExactCodeNameSaid : Prop := fnExactCodeNameRow.holds Try.pinned (OpenSpec.ofChange fnExactCodeNameSpec)

/-- ITS FALSE NEIGHBOUR: 'it returns false'. Refute it at one input. -/
def fnExactCodeNameWrong : ChangeSpec := { name := "fnExactCodeName", fn := fun _ => fun
  | [d] => { results := [.lit (.bool false)], args := [d] }
  | _ => none }
def FnExactCodeNameWrongFalsely : Prop := fnExactCodeNameRow.holds Try.pinned (OpenSpec.ofChange fnExactCodeNameWrong)

/-- 'laws.FnExactIsSilent': WHATEVER THE INPUT: true; the input reads as it did. -/
def fnExactIsSilentSpec : ChangeSpec := { name := "fnExactIsSilent", fn := fun _ => fun
  | [d] => { results := [.lit (.bool true)], args := [d] }
  | _ => none }
def fnExactIsSilentRow : OpenClaim := { program := "ytbjaihboagompaa", sum := "641875112148ca1f8bb16c605c1a26aa3632394dfa2194b64fa49e708b8c735d", func := "loop.example/g01173/laws.FnExactIsSilent", spec := "fnExactIsSilent", apart := false }
def FnExactIsSilentSaid : Prop := fnExactIsSilentRow.holds Try.pinned (OpenSpec.ofChange fnExactIsSilentSpec)

/-- ITS FALSE NEIGHBOUR: 'it returns false'. Refute it at one input. -/
def fnExactIsSilentWrong : ChangeSpec := { name := "fnExactIsSilent", fn := fun _ => fun
  | [d] => { results := [.lit (.bool false)], args := [d] }
  | _ => none }
def FnExactIsSilentWrongFalsely : Prop := fnExactIsSilentRow.holds Try.pinned (OpenSpec.ofChange fnExactIsSilentWrong)

/-- 'laws.FnExactSameSample': WHATEVER THE INPUT: true; the input reads as it did. -/
def fnExactSameSampleSpec : ChangeSpec := { name := "fnExactSameSample", fn := fun _ => fun
  | [d1, d2] => { results := [.lit (.bool true)], args := [d1, d2] }
  | _ => none }
def fnExactSameSampleRow : OpenClaim := { program := "ytbjaihboagompaa", sum := "641875112148ca1f8bb16c605c1a26aa3632394dfa2194b64fa49e708b8c735d", func := "loop.example/g01173/laws.FnExactSameSample", spec := "fnExactSameSample", inPlace := ["math.Float32bits"], apart := false }
def FnExactSameSampleSaid : Prop := fnExactSameSampleRow.holds Try.pinned (OpenSpec.ofChange fnExactSameSampleSpec)

/-- ITS FALSE NEIGHBOUR: 'it returns false'. Refute it at one input. -/
def fnExactSameSampleWrong : ChangeSpec := { name := "fnExactSameSample", fn := fun _ => fun
  | [d1, d2] => { results := [.lit (.bool false)], args := [d1, d2] }
  | _ => none }
def FnExactSameSampleWrongFalsely : Prop := fnExactSameSampleRow.holds Try.pinned (OpenSpec.ofChange fnExactSameSampleWrong)

/-- 'laws.FnExactNextNoise': WHATEVER THE INPUT: true; the input reads as it did. -/
def fnExactNextNoiseSpec : ChangeSpec := { name := "fnExactNextNoise", fn := fun _ => fun
  | [d] => { results := [.lit (.bool true)], args := [d] }
  | _ => none }
def fnExactNextNoiseRow : OpenClaim := { program := "ytbjaihboagompaa", sum := "641875112148ca1f8bb16c605c1a26aa3632394dfa2194b64fa49e708b8c735d", func := "loop.example/g01173/laws.FnExactNextNoise", spec := "fnExactNextNoise", apart := false }
def FnExactNextNoiseSaid : Prop := fnExactNextNoiseRow.holds Try.pinned (OpenSpec.ofChange fnExactNextNoiseSpec)

/-- ITS FALSE NEIGHBOUR: 'it returns false'. Refute it at one input. -/
def fnExactNextNoiseWrong : ChangeSpec := { name := "fnExactNextNoise", fn := fun _ => fun
  | [d] => { results := [.lit (.bool false)], args := [d] }
  | _ => none }
def FnExactNextNoiseWrongFalsely : Prop := fnExactNextNoiseRow.holds Try.pinned (OpenSpec.ofChange fnExactNextNoiseWrong)

/-- 'laws.FnExactScatterOf': WHATEVER THE INPUT: true; the input reads as it did. -/
def fnExactScatterOfSpec : ChangeSpec := { name := "fnExactScatterOf", fn := fun _ => fun
  | [d1, d2] => { results := [.lit (.bool true)], args := [d1, d2] }
  | _ => none }
def fnExactScatterOfRow : OpenClaim := { program := "ytbjaihboagompaa", sum := "641875112148ca1f8bb16c605c1a26aa3632394dfa2194b64fa49e708b8c735d", func := "loop.example/g01173/laws.FnExactScatterOf", spec := "fnExactScatterOf", apart := false }
def FnExactScatterOfSaid : Prop := fnExactScatterOfRow.holds Try.pinned (OpenSpec.ofChange fnExactScatterOfSpec)

/-- ITS FALSE NEIGHBOUR: 'it returns false'. Refute it at one input. -/
def fnExactScatterOfWrong : ChangeSpec := { name := "fnExactScatterOf", fn := fun _ => fun
  | [d1, d2] => { results := [.lit (.bool false)], args := [d1, d2] }
  | _ => none }
def FnExactScatterOfWrongFalsely : Prop := fnExactScatterOfRow.holds Try.pinned (OpenSpec.ofChange fnExactScatterOfWrong)

/-- 'laws.FnExactClampSample': WHATEVER THE INPUT: true; the input reads as it did. -/
def fnExactClampSampleSpec : ChangeSpec := { name := "fnExactClampSample", fn := fun _ => fun
  | [d1, d2] => { results := [.lit (.bool true)], args := [d1, d2] }
  | _ => none }
def fnExactClampSampleRow : OpenClaim := { program := "ytbjaihboagompaa", sum := "641875112148ca1f8bb16c605c1a26aa3632394dfa2194b64fa49e708b8c735d", func := "loop.example/g01173/laws.FnExactClampSample", spec := "fnExactClampSample", apart := false }
def FnExactClampSampleSaid : Prop := fnExactClampSampleRow.holds Try.pinned (OpenSpec.ofChange fnExactClampSampleSpec)

/-- ITS FALSE NEIGHBOUR: 'it returns false'. Refute it at one input. -/
def fnExactClampSampleWrong : ChangeSpec := { name := "fnExactClampSample", fn := fun _ => fun
  | [d1, d2] => { results := [.lit (.bool false)], args := [d1, d2] }
  | _ => none }
def FnExactClampSampleWrongFalsely : Prop := fnExactClampSampleRow.holds Try.pinned (OpenSpec.ofChange fnExactClampSampleWrong)

/-- 'laws.FnExactDotOf': WHATEVER THE INPUT: true; the input reads as it did. -/
def fnExactDotOfSpec : ChangeSpec := { name := "fnExactDotOf", fn := fun _ => fun
  | [d1, d2] => { results := [.lit (.bool true)], args := [d1, d2] }
  | _ => none }
def fnExactDotOfRow : OpenClaim := { program := "ytbjaihboagompaa", sum := "641875112148ca1f8bb16c605c1a26aa3632394dfa2194b64fa49e708b8c735d", func := "loop.example/g01173/laws.FnExactDotOf", spec := "fnExactDotOf", apart := false }
def FnExactDotOfSaid : Prop := fnExactDotOfRow.holds Try.pinned (OpenSpec.ofChange fnExactDotOfSpec)

/-- ITS FALSE NEIGHBOUR: 'it returns false'. Refute it at one input. -/
def fnExactDotOfWrong : ChangeSpec := { name := "fnExactDotOf", fn := fun _ => fun
  | [d1, d2] => { results := [.lit (.bool false)], args := [d1, d2] }
  | _ => none }
def FnExactDotOfWrongFalsely : Prop := fnExactDotOfRow.holds Try.pinned (OpenSpec.ofChange fnExactDotOfWrong)

/-- 'laws.FnExactEnergyOf': WHATEVER THE INPUT: true; the input reads as it did. -/
def fnExactEnergyOfSpec : ChangeSpec := { name := "fnExactEnergyOf", fn := fun _ => fun
  | [d] => { results := [.lit (.bool true)], args := [d] }
  | _ => none }
def fnExactEnergyOfRow : OpenClaim := { program := "ytbjaihboagompaa", sum := "641875112148ca1f8bb16c605c1a26aa3632394dfa2194b64fa49e708b8c735d", func := "loop.example/g01173/laws.FnExactEnergyOf", spec := "fnExactEnergyOf", apart := false }
def FnExactEnergyOfSaid : Prop := fnExactEnergyOfRow.holds Try.pinned (OpenSpec.ofChange fnExactEnergyOfSpec)

/-- ITS FALSE NEIGHBOUR: 'it returns false'. Refute it at one input. -/
def fnExactEnergyOfWrong : ChangeSpec := { name := "fnExactEnergyOf", fn := fun _ => fun
  | [d] => { results := [.lit (.bool false)], args := [d] }
  | _ => none }
def FnExactEnergyOfWrongFalsely : Prop := fnExactEnergyOfRow.holds Try.pinned (OpenSpec.ofChange fnExactEnergyOfWrong)

/-- 'laws.FnExactReedAt': WHATEVER THE INPUT: true; the input reads as it did. -/
def fnExactReedAtSpec : ChangeSpec := { name := "fnExactReedAt", fn := fun _ => fun
  | [d1, d2, d3] => { results := [.lit (.bool true)], args := [d1, d2, d3] }
  | _ => none }
def fnExactReedAtRow : OpenClaim := { program := "ytbjaihboagompaa", sum := "641875112148ca1f8bb16c605c1a26aa3632394dfa2194b64fa49e708b8c735d", func := "loop.example/g01173/laws.FnExactReedAt", spec := "fnExactReedAt", apart := false }
def FnExactReedAtSaid : Prop := fnExactReedAtRow.holds Try.pinned (OpenSpec.ofChange fnExactReedAtSpec)

/-- ITS FALSE NEIGHBOUR: 'it returns false'. Refute it at one input. -/
def fnExactReedAtWrong : ChangeSpec := { name := "fnExactReedAt", fn := fun _ => fun
  | [d1, d2, d3] => { results := [.lit (.bool false)], args := [d1, d2, d3] }
  | _ => none }
def FnExactReedAtWrongFalsely : Prop := fnExactReedAtRow.holds Try.pinned (OpenSpec.ofChange fnExactReedAtWrong)

/-- 'laws.FnExactFlushSample': WHATEVER THE INPUT: true; the input reads as it did. -/
def fnExactFlushSampleSpec : ChangeSpec := { name := "fnExactFlushSample", fn := fun _ => fun
  | [d] => { results := [.lit (.bool true)], args := [d] }
  | _ => none }
def fnExactFlushSampleRow : OpenClaim := { program := "ytbjaihboagompaa", sum := "641875112148ca1f8bb16c605c1a26aa3632394dfa2194b64fa49e708b8c735d", func := "loop.example/g01173/laws.FnExactFlushSample", spec := "fnExactFlushSample", inPlace := ["math.Float32bits", "math.Float32frombits", "math.Float64bits", "math.Float64frombits"], apart := false }
def FnExactFlushSampleSaid : Prop := fnExactFlushSampleRow.holds Try.pinned (OpenSpec.ofChange fnExactFlushSampleSpec)

/-- ITS FALSE NEIGHBOUR: 'it returns false'. Refute it at one input. -/
def fnExactFlushSampleWrong : ChangeSpec := { name := "fnExactFlushSample", fn := fun _ => fun
  | [d] => { results := [.lit (.bool false)], args := [d] }
  | _ => none }
def FnExactFlushSampleWrongFalsely : Prop := fnExactFlushSampleRow.holds Try.pinned (OpenSpec.ofChange fnExactFlushSampleWrong)

/- THE SECOND FORM. 'bulk': how many values and letters a reading holds, each counted each time it is reached (what is shared counts as often as it is met; a slice's spare places count too). A statement '..UptoSaid' is the law's where the arguments, and the package variables that the reading takes, are together of bulk at most 1048576: NARROWER than '..Said'. Prove '..Said' where nothing that the law and all that it calls make is longer than what came in: it says more and counts as full. Else prove '..UptoSaid'. A law counts once. -/
mutual
def uptoBulk {H : Type} : DataW H → Nat
  | .lit (.string bytes) => bytes.length + 1
  | .lit _ => 1
  | .nil => 1
  | .ptr d => uptoBulk d + 1
  | .slice elems spare => uptoBulkAll elems + uptoBulkAll spare + 1
  | .agg parts => uptoBulkAll parts + 1
  | .iface _ d => uptoBulk d + 1
  | .map entries => uptoBulkEntries entries + 1
  | .held _ => 1
def uptoBulkAll {H : Type} : List (DataW H) → Nat
  | [] => 0
  | d :: r => uptoBulk d + uptoBulkAll r
def uptoBulkEntries {H : Type} : List (Lit × DataW H) → Nat
  | [] => 0
  | x :: r => uptoBulkEntry x + uptoBulkEntries r
def uptoBulkEntry {H : Type} : Lit × DataW H → Nat
  | (.string bytes, d) => bytes.length + uptoBulk d + 1
  | (_, d) => uptoBulk d + 1
 end
def uptoSmall : (H : Type) → List (DataW H) → Bool := fun _ ds => decide (uptoBulkAll ds ≤ 1048576)
def OpenSpec.upto (s : _root_.Go.ChangeSpec) : _root_.Go.OpenSpec := { _root_.Go.OpenSpec.ofChange s with cond := some uptoSmall }

/-- 'laws.FnExactConstants', WHERE WHAT IT READS IS OF BULK AT MOST 1048576: true; the input reads as it did. -/
def fnExactConstantsUptoRow : OpenClaim := { program := "ytbjaihboagompaa", sum := "641875112148ca1f8bb16c605c1a26aa3632394dfa2194b64fa49e708b8c735d", func := "loop.example/g01173/laws.FnExactConstants", spec := "fnExactConstants", apart := false, narrowed := true }
def FnExactConstantsUptoSaid : Prop := fnExactConstantsUptoRow.holds Try.pinned (OpenSpec.upto fnExactConstantsSpec)

/-- 'laws.FnExactFromShort', WHERE WHAT IT READS IS OF BULK AT MOST 1048576: true; the input reads as it did. -/
def fnExactFromShortUptoRow : OpenClaim := { program := "ytbjaihboagompaa", sum := "641875112148ca1f8bb16c605c1a26aa3632394dfa2194b64fa49e708b8c735d", func := "loop.example/g01173/laws.FnExactFromShort", spec := "fnExactFromShort", apart := false, narrowed := true }
def FnExactFromShortUptoSaid : Prop := fnExactFromShortUptoRow.holds Try.pinned (OpenSpec.upto fnExactFromShortSpec)

/-- 'laws.FnExactCodeName', WHERE WHAT IT READS IS OF BULK AT MOST 1048576: true; the input reads as it did. -/
def fnExactCodeNameUptoRow : OpenClaim := { program := "ytbjaihboagompaa", sum := "641875112148ca1f8bb16c605c1a26aa3632394dfa2194b64fa49e708b8c735d", func := "loop.example/g01173/laws.FnExactCodeName", spec := "fnExactCodeName", apart := false, narrowed := true }
def FnExactCodeNameUptoSaid : Prop := fnExactCodeNameUptoRow.holds Try.pinned (OpenSpec.upto fnExactCodeNameSpec)

/-- 'laws.FnExactIsSilent', WHERE WHAT IT READS IS OF BULK AT MOST 1048576: true; the input reads as it did. -/
def fnExactIsSilentUptoRow : OpenClaim := { program := "ytbjaihboagompaa", sum := "641875112148ca1f8bb16c605c1a26aa3632394dfa2194b64fa49e708b8c735d", func := "loop.example/g01173/laws.FnExactIsSilent", spec := "fnExactIsSilent", apart := false, narrowed := true }
def FnExactIsSilentUptoSaid : Prop := fnExactIsSilentUptoRow.holds Try.pinned (OpenSpec.upto fnExactIsSilentSpec)

/-- 'laws.FnExactSameSample', WHERE WHAT IT READS IS OF BULK AT MOST 1048576: true; the input reads as it did. -/
def fnExactSameSampleUptoRow : OpenClaim := { program := "ytbjaihboagompaa", sum := "641875112148ca1f8bb16c605c1a26aa3632394dfa2194b64fa49e708b8c735d", func := "loop.example/g01173/laws.FnExactSameSample", spec := "fnExactSameSample", inPlace := ["math.Float32bits"], apart := false, narrowed := true }
def FnExactSameSampleUptoSaid : Prop := fnExactSameSampleUptoRow.holds Try.pinned (OpenSpec.upto fnExactSameSampleSpec)

/-- 'laws.FnExactNextNoise', WHERE WHAT IT READS IS OF BULK AT MOST 1048576: true; the input reads as it did. -/
def fnExactNextNoiseUptoRow : OpenClaim := { program := "ytbjaihboagompaa", sum := "641875112148ca1f8bb16c605c1a26aa3632394dfa2194b64fa49e708b8c735d", func := "loop.example/g01173/laws.FnExactNextNoise", spec := "fnExactNextNoise", apart := false, narrowed := true }
def FnExactNextNoiseUptoSaid : Prop := fnExactNextNoiseUptoRow.holds Try.pinned (OpenSpec.upto fnExactNextNoiseSpec)

/-- 'laws.FnExactScatterOf', WHERE WHAT IT READS IS OF BULK AT MOST 1048576: true; the input reads as it did. -/
def fnExactScatterOfUptoRow : OpenClaim := { program := "ytbjaihboagompaa", sum := "641875112148ca1f8bb16c605c1a26aa3632394dfa2194b64fa49e708b8c735d", func := "loop.example/g01173/laws.FnExactScatterOf", spec := "fnExactScatterOf", apart := false, narrowed := true }
def FnExactScatterOfUptoSaid : Prop := fnExactScatterOfUptoRow.holds Try.pinned (OpenSpec.upto fnExactScatterOfSpec)

/-- 'laws.FnExactClampSample', WHERE WHAT IT READS IS OF BULK AT MOST 1048576: true; the input reads as it did. -/
def fnExactClampSampleUptoRow : OpenClaim := { program := "ytbjaihboagompaa", sum := "641875112148ca1f8bb16c605c1a26aa3632394dfa2194b64fa49e708b8c735d", func := "loop.example/g01173/laws.FnExactClampSample", spec := "fnExactClampSample", apart := false, narrowed := true }
def FnExactClampSampleUptoSaid : Prop := fnExactClampSampleUptoRow.holds Try.pinned (OpenSpec.upto fnExactClampSampleSpec)

/-- 'laws.FnExactDotOf', WHERE WHAT IT READS IS OF BULK AT MOST 1048576: true; the input reads as it did. -/
def fnExactDotOfUptoRow : OpenClaim := { program := "ytbjaihboagompaa", sum := "641875112148ca1f8bb16c605c1a26aa3632394dfa2194b64fa49e708b8c735d", func := "loop.example/g01173/laws.FnExactDotOf", spec := "fnExactDotOf", apart := false, narrowed := true }
def FnExactDotOfUptoSaid : Prop := fnExactDotOfUptoRow.holds Try.pinned (OpenSpec.upto fnExactDotOfSpec)

/-- 'laws.FnExactEnergyOf', WHERE WHAT IT READS IS OF BULK AT MOST 1048576: true; the input reads as it did. -/
def fnExactEnergyOfUptoRow : OpenClaim := { program := "ytbjaihboagompaa", sum := "641875112148ca1f8bb16c605c1a26aa3632394dfa2194b64fa49e708b8c735d", func := "loop.example/g01173/laws.FnExactEnergyOf", spec := "fnExactEnergyOf", apart := false, narrowed := true }
def FnExactEnergyOfUptoSaid : Prop := fnExactEnergyOfUptoRow.holds Try.pinned (OpenSpec.upto fnExactEnergyOfSpec)

/-- 'laws.FnExactReedAt', WHERE WHAT IT READS IS OF BULK AT MOST 1048576: true; the input reads as it did. -/
def fnExactReedAtUptoRow : OpenClaim := { program := "ytbjaihboagompaa", sum := "641875112148ca1f8bb16c605c1a26aa3632394dfa2194b64fa49e708b8c735d", func := "loop.example/g01173/laws.FnExactReedAt", spec := "fnExactReedAt", apart := false, narrowed := true }
def FnExactReedAtUptoSaid : Prop := fnExactReedAtUptoRow.holds Try.pinned (OpenSpec.upto fnExactReedAtSpec)

/-- 'laws.FnExactFlushSample', WHERE WHAT IT READS IS OF BULK AT MOST 1048576: true; the input reads as it did. -/
def fnExactFlushSampleUptoRow : OpenClaim := { program := "ytbjaihboagompaa", sum := "641875112148ca1f8bb16c605c1a26aa3632394dfa2194b64fa49e708b8c735d", func := "loop.example/g01173/laws.FnExactFlushSample", spec := "fnExactFlushSample", inPlace := ["math.Float32bits", "math.Float32frombits", "math.Float64bits", "math.Float64frombits"], apart := false, narrowed := true }
def FnExactFlushSampleUptoSaid : Prop := fnExactFlushSampleUptoRow.holds Try.pinned (OpenSpec.upto fnExactFlushSampleSpec)

end Rows
end Go.Proofs.Ytbjaihboagompaa
