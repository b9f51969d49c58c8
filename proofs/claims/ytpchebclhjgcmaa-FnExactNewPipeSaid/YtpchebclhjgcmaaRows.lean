/-
  No cell of these rows narrows 'for every input' (looked for: loops, veiled, ifaces, maps, wideKeys, modest, calm, conditions, laid).
  DERIVED. THE GIVEN ROWS OF THIS SEAT. 7 by the template 'for every input the law returns true; each argument reads behind the call as it read before'; 0 by the template 'total and deterministic' (their statements: YtpchebclhjgcmaaTotals.lean).
  GIVEN WITH THE SEED: the statements are not yours to turn. If you find one false, say at which input.
  Laid BY PROGRAM, IN A SANDBOX (cutbox-rows.mjs): the forced cells as the released guide's own fill.sh prints them over the translation 489c2b914b940509… (all of the seat's roots in one cut). By AI agents, Wed Nov 11 2026. No macro, syntax, notation, axiom, sorry.
-/
import Derived.Test.YtpchebclhjgcmaaChecked
import GoSem.Claim
import GoSem.ClaimJoined
import GoSem.ClaimMapViews
import Derived.JoinedTies
import Derived.KernelRfl
namespace Go.Proofs.Ytpchebclhjgcmaa
/- THE CELL 'sum', in the pinned program and in every row, IS THE sha256 OF THE DUMP (.gsa) THAT YtpchebclhjgcmaaProg.lean LOADS. Nothing in Lean hashes anything: it is a label: what it is worth is what the hold of that sum in a sandbox is worth. -/
noncomputable def Try.pinned : Pinned := { name := "ytpchebclhjgcmaa", sum := "489c2b914b940509bc7f1883850794e6e49ad5810aaab3c956fcd26c22f166e9", checked := Try.checked }
namespace Rows
def none {H : Type} : Left H := { results := [], args := [] }

/-- 'laws.FnExactSameString': WHATEVER THE INPUT: true; the input reads as it did. -/
def fnExactSameStringSpec : ChangeSpec := { name := "fnExactSameString", fn := fun _ => fun
  | [d1, d2] => { results := [.lit (.bool true)], args := [d1, d2] }
  | _ => none }
def fnExactSameStringRow : OpenClaim := { program := "ytpchebclhjgcmaa", sum := "489c2b914b940509bc7f1883850794e6e49ad5810aaab3c956fcd26c22f166e9", func := "loop.example/g01173/laws.FnExactSameString", spec := "fnExactSameString", inPlace := ["math.Float32bits"], unfollowed := true, recurses := true, apart := false }
def FnExactSameStringSaid : Prop := fnExactSameStringRow.holds Try.pinned (OpenSpec.ofChange fnExactSameStringSpec)

/-- ITS FALSE NEIGHBOUR: 'it returns false'. Refute it at one input. -/
def fnExactSameStringWrong : ChangeSpec := { name := "fnExactSameString", fn := fun _ => fun
  | [d1, d2] => { results := [.lit (.bool false)], args := [d1, d2] }
  | _ => none }
def FnExactSameStringWrongFalsely : Prop := fnExactSameStringRow.holds Try.pinned (OpenSpec.ofChange fnExactSameStringWrong)

/-- 'laws.FnExactValidString': WHATEVER THE INPUT: true; the input reads as it did. -/
def fnExactValidStringSpec : ChangeSpec := { name := "fnExactValidString", fn := fun _ => fun
  | [d] => { results := [.lit (.bool true)], args := [d] }
  | _ => none }
def fnExactValidStringRow : OpenClaim := { program := "ytpchebclhjgcmaa", sum := "489c2b914b940509bc7f1883850794e6e49ad5810aaab3c956fcd26c22f166e9", func := "loop.example/g01173/laws.FnExactValidString", spec := "fnExactValidString", inPlace := ["math.Float32bits"], apart := false }
def FnExactValidStringSaid : Prop := fnExactValidStringRow.holds Try.pinned (OpenSpec.ofChange fnExactValidStringSpec)

/-- ITS FALSE NEIGHBOUR: 'it returns false'. Refute it at one input. -/
def fnExactValidStringWrong : ChangeSpec := { name := "fnExactValidString", fn := fun _ => fun
  | [d] => { results := [.lit (.bool false)], args := [d] }
  | _ => none }
def FnExactValidStringWrongFalsely : Prop := fnExactValidStringRow.holds Try.pinned (OpenSpec.ofChange fnExactValidStringWrong)

/-- 'laws.FnExactNewString': WHATEVER THE INPUT: true; the input reads as it did. -/
def fnExactNewStringSpec : ChangeSpec := { name := "fnExactNewString", fn := fun _ => fun
  | [d1, d2, d3] => { results := [.lit (.bool true)], args := [d1, d2, d3] }
  | _ => none }
def fnExactNewStringRow : OpenClaim := { program := "ytpchebclhjgcmaa", sum := "489c2b914b940509bc7f1883850794e6e49ad5810aaab3c956fcd26c22f166e9", func := "loop.example/g01173/laws.FnExactNewString", spec := "fnExactNewString", inPlace := ["math.archFloor", "math.Float64bits", "math.Float64frombits", "math.archTrunc"], apart := false }
def FnExactNewStringSaid : Prop := fnExactNewStringRow.holds Try.pinned (OpenSpec.ofChange fnExactNewStringSpec)

/-- ITS FALSE NEIGHBOUR: 'it returns false'. Refute it at one input. -/
def fnExactNewStringWrong : ChangeSpec := { name := "fnExactNewString", fn := fun _ => fun
  | [d1, d2, d3] => { results := [.lit (.bool false)], args := [d1, d2, d3] }
  | _ => none }
def FnExactNewStringWrongFalsely : Prop := fnExactNewStringRow.holds Try.pinned (OpenSpec.ofChange fnExactNewStringWrong)

/-- 'laws.FnExactPeriodOf': WHATEVER THE INPUT: true; the input reads as it did. -/
def fnExactPeriodOfSpec : ChangeSpec := { name := "fnExactPeriodOf", fn := fun _ => fun
  | [d] => { results := [.lit (.bool true)], args := [d] }
  | _ => none }
def fnExactPeriodOfRow : OpenClaim := { program := "ytpchebclhjgcmaa", sum := "489c2b914b940509bc7f1883850794e6e49ad5810aaab3c956fcd26c22f166e9", func := "loop.example/g01173/laws.FnExactPeriodOf", spec := "fnExactPeriodOf", inPlace := ["math.Float32bits"], apart := false }
def FnExactPeriodOfSaid : Prop := fnExactPeriodOfRow.holds Try.pinned (OpenSpec.ofChange fnExactPeriodOfSpec)

/-- ITS FALSE NEIGHBOUR: 'it returns false'. Refute it at one input. -/
def fnExactPeriodOfWrong : ChangeSpec := { name := "fnExactPeriodOf", fn := fun _ => fun
  | [d] => { results := [.lit (.bool false)], args := [d] }
  | _ => none }
def FnExactPeriodOfWrongFalsely : Prop := fnExactPeriodOfRow.holds Try.pinned (OpenSpec.ofChange fnExactPeriodOfWrong)

/-- 'laws.FnExactMuteString': WHATEVER THE INPUT: true; the input reads as it did. -/
def fnExactMuteStringSpec : ChangeSpec := { name := "fnExactMuteString", fn := fun _ => fun
  | [d] => { results := [.lit (.bool true)], args := [d] }
  | _ => none }
def fnExactMuteStringRow : OpenClaim := { program := "ytpchebclhjgcmaa", sum := "489c2b914b940509bc7f1883850794e6e49ad5810aaab3c956fcd26c22f166e9", func := "loop.example/g01173/laws.FnExactMuteString", spec := "fnExactMuteString", inPlace := ["math.Float32bits"], apart := false }
def FnExactMuteStringSaid : Prop := fnExactMuteStringRow.holds Try.pinned (OpenSpec.ofChange fnExactMuteStringSpec)

/-- ITS FALSE NEIGHBOUR: 'it returns false'. Refute it at one input. -/
def fnExactMuteStringWrong : ChangeSpec := { name := "fnExactMuteString", fn := fun _ => fun
  | [d] => { results := [.lit (.bool false)], args := [d] }
  | _ => none }
def FnExactMuteStringWrongFalsely : Prop := fnExactMuteStringRow.holds Try.pinned (OpenSpec.ofChange fnExactMuteStringWrong)

/-- 'laws.FnExactNewPipe': WHATEVER THE INPUT: true; the input reads as it did. -/
def fnExactNewPipeSpec : ChangeSpec := { name := "fnExactNewPipe", fn := fun _ => fun
  | [d1, d2, d3, d4, d5] => { results := [.lit (.bool true)], args := [d1, d2, d3, d4, d5] }
  | _ => none }
def fnExactNewPipeRow : OpenClaim := { program := "ytpchebclhjgcmaa", sum := "489c2b914b940509bc7f1883850794e6e49ad5810aaab3c956fcd26c22f166e9", func := "loop.example/g01173/laws.FnExactNewPipe", spec := "fnExactNewPipe", apart := false }
def FnExactNewPipeSaid : Prop := fnExactNewPipeRow.holds Try.pinned (OpenSpec.ofChange fnExactNewPipeSpec)

/-- ITS FALSE NEIGHBOUR: 'it returns false'. Refute it at one input. -/
def fnExactNewPipeWrong : ChangeSpec := { name := "fnExactNewPipe", fn := fun _ => fun
  | [d1, d2, d3, d4, d5] => { results := [.lit (.bool false)], args := [d1, d2, d3, d4, d5] }
  | _ => none }
def FnExactNewPipeWrongFalsely : Prop := fnExactNewPipeRow.holds Try.pinned (OpenSpec.ofChange fnExactNewPipeWrong)

/-- 'laws.FnExactSamePipe': WHATEVER THE INPUT: true; the input reads as it did. -/
def fnExactSamePipeSpec : ChangeSpec := { name := "fnExactSamePipe", fn := fun _ => fun
  | [d1, d2] => { results := [.lit (.bool true)], args := [d1, d2] }
  | _ => none }
def fnExactSamePipeRow : OpenClaim := { program := "ytpchebclhjgcmaa", sum := "489c2b914b940509bc7f1883850794e6e49ad5810aaab3c956fcd26c22f166e9", func := "loop.example/g01173/laws.FnExactSamePipe", spec := "fnExactSamePipe", inPlace := ["math.Float32bits"], unfollowed := true, recurses := true, apart := false }
def FnExactSamePipeSaid : Prop := fnExactSamePipeRow.holds Try.pinned (OpenSpec.ofChange fnExactSamePipeSpec)

/-- ITS FALSE NEIGHBOUR: 'it returns false'. Refute it at one input. -/
def fnExactSamePipeWrong : ChangeSpec := { name := "fnExactSamePipe", fn := fun _ => fun
  | [d1, d2] => { results := [.lit (.bool false)], args := [d1, d2] }
  | _ => none }
def FnExactSamePipeWrongFalsely : Prop := fnExactSamePipeRow.holds Try.pinned (OpenSpec.ofChange fnExactSamePipeWrong)

/- THE SECOND FORM. 'bulk': how many values and letters a reading holds, each counted each time it is reached (what is shared counts as often as it is met; a slice's spare places count too). A statement '..UptoSaid' is the law's where the arguments, and the package variables that the reading takes, are together of bulk at most 1048576: NARROWER than '..Said'. Prove '..Said' where nothing that the law and all that it calls make is longer than what came in: it says more and counts as full. Else prove '..UptoSaid'. A law counts once. -/
mutual
def uptoBulk {H : Type} : DataW H → Nat
  | .lit (.string bytes) => bytes.length + 1
  | .lit _ => 1
  | .nil => 1
  | .ptr d => uptoBulk d + 1
  | .slice elems spare => uptoBulkAll elems + uptoBulkAll spare + 1
  | .agg parts => uptoBulkAll parts + 1
  | .iface _ d => uptoBulk d + 1
  | .map entries => uptoBulkEntries entries + 1
  | .held _ => 1
def uptoBulkAll {H : Type} : List (DataW H) → Nat
  | [] => 0
  | d :: r => uptoBulk d + uptoBulkAll r
def uptoBulkEntries {H : Type} : List (Lit × DataW H) → Nat
  | [] => 0
  | x :: r => uptoBulkEntry x + uptoBulkEntries r
def uptoBulkEntry {H : Type} : Lit × DataW H → Nat
  | (.string bytes, d) => bytes.length + uptoBulk d + 1
  | (_, d) => uptoBulk d + 1
 end
def uptoSmall : (H : Type) → List (DataW H) → Bool := fun _ ds => decide (uptoBulkAll ds ≤ 1048576)
def OpenSpec.upto (s : _root_.Go.ChangeSpec) : _root_.Go.OpenSpec := { _root_.Go.OpenSpec.ofChange s with cond := some uptoSmall }

/-- 'laws.FnExactSameString', WHERE WHAT IT READS IS OF BULK AT MOST 1048576: true; the input reads as it did. -/
def fnExactSameStringUptoRow : OpenClaim := { program := "ytpchebclhjgcmaa", sum := "489c2b914b940509bc7f1883850794e6e49ad5810aaab3c956fcd26c22f166e9", func := "loop.example/g01173/laws.FnExactSameString", spec := "fnExactSameString", inPlace := ["math.Float32bits"], unfollowed := true, recurses := true, apart := false, narrowed := true }
def FnExactSameStringUptoSaid : Prop := fnExactSameStringUptoRow.holds Try.pinned (OpenSpec.upto fnExactSameStringSpec)

/-- 'laws.FnExactValidString', WHERE WHAT IT READS IS OF BULK AT MOST 1048576: true; the input reads as it did. -/
def fnExactValidStringUptoRow : OpenClaim := { program := "ytpchebclhjgcmaa", sum := "489c2b914b940509bc7f1883850794e6e49ad5810aaab3c956fcd26c22f166e9", func := "loop.example/g01173/laws.FnExactValidString", spec := "fnExactValidString", inPlace := ["math.Float32bits"], apart := false, narrowed := true }
def FnExactValidStringUptoSaid : Prop := fnExactValidStringUptoRow.holds Try.pinned (OpenSpec.upto fnExactValidStringSpec)

/-- 'laws.FnExactNewString', WHERE WHAT IT READS IS OF BULK AT MOST 1048576: true; the input reads as it did. -/
def fnExactNewStringUptoRow : OpenClaim := { program := "ytpchebclhjgcmaa", sum := "489c2b914b940509bc7f1883850794e6e49ad5810aaab3c956fcd26c22f166e9", func := "loop.example/g01173/laws.FnExactNewString", spec := "fnExactNewString", inPlace := ["math.archFloor", "math.Float64bits", "math.Float64frombits", "math.archTrunc"], apart := false, narrowed := true }
def FnExactNewStringUptoSaid : Prop := fnExactNewStringUptoRow.holds Try.pinned (OpenSpec.upto fnExactNewStringSpec)

/-- 'laws.FnExactPeriodOf', WHERE WHAT IT READS IS OF BULK AT MOST 1048576: true; the input reads as it did. -/
def fnExactPeriodOfUptoRow : OpenClaim := { program := "ytpchebclhjgcmaa", sum := "489c2b914b940509bc7f1883850794e6e49ad5810aaab3c956fcd26c22f166e9", func := "loop.example/g01173/laws.FnExactPeriodOf", spec := "fnExactPeriodOf", inPlace := ["math.Float32bits"], apart := false, narrowed := true }
def FnExactPeriodOfUptoSaid : Prop := fnExactPeriodOfUptoRow.holds Try.pinned (OpenSpec.upto fnExactPeriodOfSpec)

/-- 'laws.FnExactMuteString', WHERE WHAT IT READS IS OF BULK AT MOST 1048576: true; the input reads as it did. -/
def fnExactMuteStringUptoRow : OpenClaim := { program := "ytpchebclhjgcmaa", sum := "489c2b914b940509bc7f1883850794e6e49ad5810aaab3c956fcd26c22f166e9", func := "loop.example/g01173/laws.FnExactMuteString", spec := "fnExactMuteString", inPlace := ["math.Float32bits"], apart := false, narrowed := true }
def FnExactMuteStringUptoSaid : Prop := fnExactMuteStringUptoRow.holds Try.pinned (OpenSpec.upto fnExactMuteStringSpec)

/-- 'laws.FnExactNewPipe', WHERE WHAT IT READS IS OF BULK AT MOST 1048576: true; the input reads as it did. -/
def fnExactNewPipeUptoRow : OpenClaim := { program := "ytpchebclhjgcmaa", sum := "489c2b914b940509bc7f1883850794e6e49ad5810aaab3c956fcd26c22f166e9", func := "loop.example/g01173/laws.FnExactNewPipe", spec := "fnExactNewPipe", apart := false, narrowed := true }
def FnExactNewPipeUptoSaid : Prop := fnExactNewPipeUptoRow.holds Try.pinned (OpenSpec.upto fnExactNewPipeSpec)

/-- 'laws.FnExactSamePipe', WHERE WHAT IT READS IS OF BULK AT MOST 1048576: true; the input reads as it did. -/
def fnExactSamePipeUptoRow : OpenClaim := { program := "ytpchebclhjgcmaa", sum := "489c2b914b940509bc7f1883850794e6e49ad5810aaab3c956fcd26c22f166e9", func := "loop.example/g01173/laws.FnExactSamePipe", spec := "fnExactSamePipe", inPlace := ["math.Float32bits"], unfollowed := true, recurses := true, apart := false, narrowed := true }
def FnExactSamePipeUptoSaid : Prop := fnExactSamePipeUptoRow.holds Try.pinned (OpenSpec.upto fnExactSamePipeSpec)

end Rows
end Go.Proofs.Ytpchebclhjgcmaa
