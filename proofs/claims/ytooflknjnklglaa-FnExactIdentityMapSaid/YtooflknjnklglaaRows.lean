/-
  No cell of these rows narrows 'for every input' (looked for: loops, veiled, ifaces, maps, wideKeys, modest, calm, conditions, laid).
  DERIVED. THE GIVEN ROWS OF THIS SEAT. 12 by the template 'for every input the law returns true; each argument reads behind the call as it read before'; 0 by the template 'total and deterministic' (their statements: YtooflknjnklglaaTotals.lean).
  GIVEN WITH THE SEED: the statements are not yours to turn. If you find one false, say at which input.
  Laid BY PROGRAM, IN A SANDBOX (cutbox-rows.mjs): the forced cells as the released guide's own fill.sh prints them over the translation 5bef90135d1180c7… (all of the seat's roots in one cut). By AI agents, Wed Nov 11 2026. No macro, syntax, notation, axiom, sorry.
-/
import Derived.Test.YtooflknjnklglaaChecked
import GoSem.Claim
import GoSem.ClaimJoined
import GoSem.ClaimMapViews
import Derived.JoinedTies
import Derived.KernelRfl
namespace Go.Proofs.Ytooflknjnklglaa
/- THE CELL 'sum', in the pinned program and in every row, IS THE sha256 OF THE DUMP (.gsa) THAT YtooflknjnklglaaProg.lean LOADS. Nothing in Lean hashes anything: it is a label: what it is worth is what the hold of that sum in a sandbox is worth. -/
noncomputable def Try.pinned : Pinned := { name := "ytooflknjnklglaa", sum := "5bef90135d1180c795faf5aeff1101a9d32786013db3da42d1edb3894b4f6c07", checked := Try.checked }
namespace Rows
def none {H : Type} : Left H := { results := [], args := [] }

/-- 'laws.FnExactConstants': WHATEVER THE INPUT: true; the input reads as it did. -/
def fnExactConstantsSpec : ChangeSpec := { name := "fnExactConstants", fn := fun _ => fun
  | [] => { results := [.lit (.bool true)], args := [] }
  | _ => none }
def fnExactConstantsRow : OpenClaim := { program := "ytooflknjnklglaa", sum := "5bef90135d1180c795faf5aeff1101a9d32786013db3da42d1edb3894b4f6c07", func := "loop.example/g00883/laws.FnExactConstants", spec := "fnExactConstants", apart := false }
def FnExactConstantsSaid : Prop := fnExactConstantsRow.holds Try.pinned (OpenSpec.ofChange fnExactConstantsSpec)

/-- ITS FALSE NEIGHBOUR: 'it returns false'. Refute it at one input. -/
def fnExactConstantsWrong : ChangeSpec := { name := "fnExactConstants", fn := fun _ => fun
  | [] => { results := [.lit (.bool false)], args := [] }
  | _ => none }
def FnExactConstantsWrongFalsely : Prop := fnExactConstantsRow.holds Try.pinned (OpenSpec.ofChange fnExactConstantsWrong)

/-- 'laws.FnExactValidPt': WHATEVER THE INPUT: true; the input reads as it did. -/
def fnExactValidPtSpec : ChangeSpec := { name := "fnExactValidPt", fn := fun _ => fun
  | [d] => { results := [.lit (.bool true)], args := [d] }
  | _ => none }
def fnExactValidPtRow : OpenClaim := { program := "ytooflknjnklglaa", sum := "5bef90135d1180c795faf5aeff1101a9d32786013db3da42d1edb3894b4f6c07", func := "loop.example/g00883/laws.FnExactValidPt", spec := "fnExactValidPt", apart := false }
def FnExactValidPtSaid : Prop := fnExactValidPtRow.holds Try.pinned (OpenSpec.ofChange fnExactValidPtSpec)

/-- ITS FALSE NEIGHBOUR: 'it returns false'. Refute it at one input. -/
def fnExactValidPtWrong : ChangeSpec := { name := "fnExactValidPt", fn := fun _ => fun
  | [d] => { results := [.lit (.bool false)], args := [d] }
  | _ => none }
def FnExactValidPtWrongFalsely : Prop := fnExactValidPtRow.holds Try.pinned (OpenSpec.ofChange fnExactValidPtWrong)

/-- 'laws.FnExactCodeName': WHATEVER THE INPUT: true; the input reads as it did. -/
def fnExactCodeNameSpec : ChangeSpec := { name := "fnExactCodeName", fn := fun _ => fun
  | [d] => { results := [.lit (.bool true)], args := [d] }
  | _ => none }
def fnExactCodeNameRow : OpenClaim := { program := "ytooflknjnklglaa", sum := "5bef90135d1180c795faf5aeff1101a9d32786013db3da42d1edb3894b4f6c07", func := "loop.example/g00883/laws.FnExactCodeName", spec := "fnExactCodeName", apart := false }
def FnExactCodeNameSaid : Prop := fnExactCodeNameRow.holds Try.pinned (OpenSpec.ofChange fnExactCodeNameSpec)

/-- ITS FALSE NEIGHBOUR: 'it returns false'. Refute it at one input. -/
def fnExactCodeNameWrong : ChangeSpec := { name := "fnExactCodeName", fn := fun _ => fun
  | [d] => { results := [.lit (.bool false)], args := [d] }
  | _ => none }
def FnExactCodeNameWrongFalsely : Prop := fnExactCodeNameRow.holds Try.pinned (OpenSpec.ofChange fnExactCodeNameWrong)

/-- 'laws.FnExactSum32': WHATEVER THE INPUT: true; the input reads as it did. -/
def fnExactSum32Spec : ChangeSpec := { name := "fnExactSum32", fn := fun _ => fun
  | [d] => { results := [.lit (.bool true)], args := [d] }
  | _ => none }
def fnExactSum32Row : OpenClaim := { program := "ytooflknjnklglaa", sum := "5bef90135d1180c795faf5aeff1101a9d32786013db3da42d1edb3894b4f6c07", func := "loop.example/g00883/laws.FnExactSum32", spec := "fnExactSum32", apart := false }
def FnExactSum32Said : Prop := fnExactSum32Row.holds Try.pinned (OpenSpec.ofChange fnExactSum32Spec)

/-- ITS FALSE NEIGHBOUR: 'it returns false'. Refute it at one input. -/
def fnExactSum32Wrong : ChangeSpec := { name := "fnExactSum32", fn := fun _ => fun
  | [d] => { results := [.lit (.bool false)], args := [d] }
  | _ => none }
def FnExactSum32WrongFalsely : Prop := fnExactSum32Row.holds Try.pinned (OpenSpec.ofChange fnExactSum32Wrong)

/-- 'laws.FnExactGetWord': WHATEVER THE INPUT: true; the input reads as it did. -/
def fnExactGetWordSpec : ChangeSpec := { name := "fnExactGetWord", fn := fun _ => fun
  | [d1, d2, d3] => { results := [.lit (.bool true)], args := [d1, d2, d3] }
  | _ => none }
def fnExactGetWordRow : OpenClaim := { program := "ytooflknjnklglaa", sum := "5bef90135d1180c795faf5aeff1101a9d32786013db3da42d1edb3894b4f6c07", func := "loop.example/g00883/laws.FnExactGetWord", spec := "fnExactGetWord", apart := false }
def FnExactGetWordSaid : Prop := fnExactGetWordRow.holds Try.pinned (OpenSpec.ofChange fnExactGetWordSpec)

/-- ITS FALSE NEIGHBOUR: 'it returns false'. Refute it at one input. -/
def fnExactGetWordWrong : ChangeSpec := { name := "fnExactGetWord", fn := fun _ => fun
  | [d1, d2, d3] => { results := [.lit (.bool false)], args := [d1, d2, d3] }
  | _ => none }
def FnExactGetWordWrongFalsely : Prop := fnExactGetWordRow.holds Try.pinned (OpenSpec.ofChange fnExactGetWordWrong)

/-- 'laws.FnExactIsName': WHATEVER THE INPUT: true; the input reads as it did. -/
def fnExactIsNameSpec : ChangeSpec := { name := "fnExactIsName", fn := fun _ => fun
  | [d] => { results := [.lit (.bool true)], args := [d] }
  | _ => none }
def fnExactIsNameRow : OpenClaim := { program := "ytooflknjnklglaa", sum := "5bef90135d1180c795faf5aeff1101a9d32786013db3da42d1edb3894b4f6c07", func := "loop.example/g00883/laws.FnExactIsName", spec := "fnExactIsName", apart := false }
def FnExactIsNameSaid : Prop := fnExactIsNameRow.holds Try.pinned (OpenSpec.ofChange fnExactIsNameSpec)

/-- ITS FALSE NEIGHBOUR: 'it returns false'. Refute it at one input. -/
def fnExactIsNameWrong : ChangeSpec := { name := "fnExactIsName", fn := fun _ => fun
  | [d] => { results := [.lit (.bool false)], args := [d] }
  | _ => none }
def FnExactIsNameWrongFalsely : Prop := fnExactIsNameRow.holds Try.pinned (OpenSpec.ofChange fnExactIsNameWrong)

/-- 'laws.FnFractions': WHATEVER THE INPUT: true; the input reads as it did. -/
def fnFractionsSpec : ChangeSpec := { name := "fnFractions", fn := fun _ => fun
  | [d] => { results := [.lit (.bool true)], args := [d] }
  | _ => none }
def fnFractionsRow : OpenClaim := { program := "ytooflknjnklglaa", sum := "5bef90135d1180c795faf5aeff1101a9d32786013db3da42d1edb3894b4f6c07", func := "loop.example/g00883/laws.FnFractions", spec := "fnFractions", inPlace := ["internal/bytealg.IndexByteString", "internal/bytealg.IndexString"], named := ["internal/bytealg.MaxLen"], apart := false }
def FnFractionsSaid : Prop := fnFractionsRow.holds Try.pinned (OpenSpec.ofChange fnFractionsSpec)

/-- ITS FALSE NEIGHBOUR: 'it returns false'. Refute it at one input. -/
def fnFractionsWrong : ChangeSpec := { name := "fnFractions", fn := fun _ => fun
  | [d] => { results := [.lit (.bool false)], args := [d] }
  | _ => none }
def FnFractionsWrongFalsely : Prop := fnFractionsRow.holds Try.pinned (OpenSpec.ofChange fnFractionsWrong)

/-- 'laws.FnExactPutWord': WHATEVER THE INPUT: true; the input reads as it did. -/
def fnExactPutWordSpec : ChangeSpec := { name := "fnExactPutWord", fn := fun _ => fun
  | [d1, d2] => { results := [.lit (.bool true)], args := [d1, d2] }
  | _ => none }
def fnExactPutWordRow : OpenClaim := { program := "ytooflknjnklglaa", sum := "5bef90135d1180c795faf5aeff1101a9d32786013db3da42d1edb3894b4f6c07", func := "loop.example/g00883/laws.FnExactPutWord", spec := "fnExactPutWord", apart := false }
def FnExactPutWordSaid : Prop := fnExactPutWordRow.holds Try.pinned (OpenSpec.ofChange fnExactPutWordSpec)

/-- ITS FALSE NEIGHBOUR: 'it returns false'. Refute it at one input. -/
def fnExactPutWordWrong : ChangeSpec := { name := "fnExactPutWord", fn := fun _ => fun
  | [d1, d2] => { results := [.lit (.bool false)], args := [d1, d2] }
  | _ => none }
def FnExactPutWordWrongFalsely : Prop := fnExactPutWordRow.holds Try.pinned (OpenSpec.ofChange fnExactPutWordWrong)

/-- 'laws.FnExactDivRound': WHATEVER THE INPUT: true; the input reads as it did. -/
def fnExactDivRoundSpec : ChangeSpec := { name := "fnExactDivRound", fn := fun _ => fun
  | [d1, d2] => { results := [.lit (.bool true)], args := [d1, d2] }
  | _ => none }
def fnExactDivRoundRow : OpenClaim := { program := "ytooflknjnklglaa", sum := "5bef90135d1180c795faf5aeff1101a9d32786013db3da42d1edb3894b4f6c07", func := "loop.example/g00883/laws.FnExactDivRound", spec := "fnExactDivRound", apart := false }
def FnExactDivRoundSaid : Prop := fnExactDivRoundRow.holds Try.pinned (OpenSpec.ofChange fnExactDivRoundSpec)

/-- ITS FALSE NEIGHBOUR: 'it returns false'. Refute it at one input. -/
def fnExactDivRoundWrong : ChangeSpec := { name := "fnExactDivRound", fn := fun _ => fun
  | [d1, d2] => { results := [.lit (.bool false)], args := [d1, d2] }
  | _ => none }
def FnExactDivRoundWrongFalsely : Prop := fnExactDivRoundRow.holds Try.pinned (OpenSpec.ofChange fnExactDivRoundWrong)

/-- 'laws.FnExactDistSq': WHATEVER THE INPUT: true; the input reads as it did. -/
def fnExactDistSqSpec : ChangeSpec := { name := "fnExactDistSq", fn := fun _ => fun
  | [d1, d2] => { results := [.lit (.bool true)], args := [d1, d2] }
  | _ => none }
def fnExactDistSqRow : OpenClaim := { program := "ytooflknjnklglaa", sum := "5bef90135d1180c795faf5aeff1101a9d32786013db3da42d1edb3894b4f6c07", func := "loop.example/g00883/laws.FnExactDistSq", spec := "fnExactDistSq", apart := false }
def FnExactDistSqSaid : Prop := fnExactDistSqRow.holds Try.pinned (OpenSpec.ofChange fnExactDistSqSpec)

/-- ITS FALSE NEIGHBOUR: 'it returns false'. Refute it at one input. -/
def fnExactDistSqWrong : ChangeSpec := { name := "fnExactDistSq", fn := fun _ => fun
  | [d1, d2] => { results := [.lit (.bool false)], args := [d1, d2] }
  | _ => none }
def FnExactDistSqWrongFalsely : Prop := fnExactDistSqRow.holds Try.pinned (OpenSpec.ofChange fnExactDistSqWrong)

/-- 'laws.FnExactDecimal': WHATEVER THE INPUT: true; the input reads as it did. -/
def fnExactDecimalSpec : ChangeSpec := { name := "fnExactDecimal", fn := fun _ => fun
  | [d] => { results := [.lit (.bool true)], args := [d] }
  | _ => none }
def fnExactDecimalRow : OpenClaim := { program := "ytooflknjnklglaa", sum := "5bef90135d1180c795faf5aeff1101a9d32786013db3da42d1edb3894b4f6c07", func := "loop.example/g00883/laws.FnExactDecimal", spec := "fnExactDecimal", apart := false }
def FnExactDecimalSaid : Prop := fnExactDecimalRow.holds Try.pinned (OpenSpec.ofChange fnExactDecimalSpec)

/-- ITS FALSE NEIGHBOUR: 'it returns false'. Refute it at one input. -/
def fnExactDecimalWrong : ChangeSpec := { name := "fnExactDecimal", fn := fun _ => fun
  | [d] => { results := [.lit (.bool false)], args := [d] }
  | _ => none }
def FnExactDecimalWrongFalsely : Prop := fnExactDecimalRow.holds Try.pinned (OpenSpec.ofChange fnExactDecimalWrong)

/-- 'laws.FnExactIdentityMap': WHATEVER THE INPUT: true; the input reads as it did. -/
def fnExactIdentityMapSpec : ChangeSpec := { name := "fnExactIdentityMap", fn := fun _ => fun
  | [] => { results := [.lit (.bool true)], args := [] }
  | _ => none }
def fnExactIdentityMapRow : OpenClaim := { program := "ytooflknjnklglaa", sum := "5bef90135d1180c795faf5aeff1101a9d32786013db3da42d1edb3894b4f6c07", func := "loop.example/g00883/laws.FnExactIdentityMap", spec := "fnExactIdentityMap", apart := false }
def FnExactIdentityMapSaid : Prop := fnExactIdentityMapRow.holds Try.pinned (OpenSpec.ofChange fnExactIdentityMapSpec)

/-- ITS FALSE NEIGHBOUR: 'it returns false'. Refute it at one input. -/
def fnExactIdentityMapWrong : ChangeSpec := { name := "fnExactIdentityMap", fn := fun _ => fun
  | [] => { results := [.lit (.bool false)], args := [] }
  | _ => none }
def FnExactIdentityMapWrongFalsely : Prop := fnExactIdentityMapRow.holds Try.pinned (OpenSpec.ofChange fnExactIdentityMapWrong)

/- THE SECOND FORM. 'bulk': how many values and letters a reading holds, each counted each time it is reached (what is shared counts as often as it is met; a slice's spare places count too). A statement '..UptoSaid' is the law's where the arguments, and the package variables that the reading takes, are together of bulk at most 1048576: NARROWER than '..Said'. Prove '..Said' where nothing that the law and all that it calls make is longer than what came in: it says more and counts as full. Else prove '..UptoSaid'. A law counts once. -/
mutual
def uptoBulk {H : Type} : DataW H → Nat
  | .lit (.string bytes) => bytes.length + 1
  | .lit _ => 1
  | .nil => 1
  | .ptr d => uptoBulk d + 1
  | .slice elems spare => uptoBulkAll elems + uptoBulkAll spare + 1
  | .agg parts => uptoBulkAll parts + 1
  | .iface _ d => uptoBulk d + 1
  | .map entries => uptoBulkEntries entries + 1
  | .held _ => 1
def uptoBulkAll {H : Type} : List (DataW H) → Nat
  | [] => 0
  | d :: r => uptoBulk d + uptoBulkAll r
def uptoBulkEntries {H : Type} : List (Lit × DataW H) → Nat
  | [] => 0
  | x :: r => uptoBulkEntry x + uptoBulkEntries r
def uptoBulkEntry {H : Type} : Lit × DataW H → Nat
  | (.string bytes, d) => bytes.length + uptoBulk d + 1
  | (_, d) => uptoBulk d + 1
 end
def uptoSmall : (H : Type) → List (DataW H) → Bool := fun _ ds => decide (uptoBulkAll ds ≤ 1048576)
def OpenSpec.upto (s : _root_.Go.ChangeSpec) : _root_.Go.OpenSpec := { _root_.Go.OpenSpec.ofChange s with cond := some uptoSmall }

/-- 'laws.FnExactConstants', WHERE WHAT IT READS IS OF BULK AT MOST 1048576: true; the input reads as it did. -/
def fnExactConstantsUptoRow : OpenClaim := { program := "ytooflknjnklglaa", sum := "5bef90135d1180c795faf5aeff1101a9d32786013db3da42d1edb3894b4f6c07", func := "loop.example/g00883/laws.FnExactConstants", spec := "fnExactConstants", apart := false, narrowed := true }
def FnExactConstantsUptoSaid : Prop := fnExactConstantsUptoRow.holds Try.pinned (OpenSpec.upto fnExactConstantsSpec)

/-- 'laws.FnExactValidPt', WHERE WHAT IT READS IS OF BULK AT MOST 1048576: true; the input reads as it did. -/
def fnExactValidPtUptoRow : OpenClaim := { program := "ytooflknjnklglaa", sum := "5bef90135d1180c795faf5aeff1101a9d32786013db3da42d1edb3894b4f6c07", func := "loop.example/g00883/laws.FnExactValidPt", spec := "fnExactValidPt", apart := false, narrowed := true }
def FnExactValidPtUptoSaid : Prop := fnExactValidPtUptoRow.holds Try.pinned (OpenSpec.upto fnExactValidPtSpec)

/-- 'laws.FnExactCodeName', WHERE WHAT IT READS IS OF BULK AT MOST 1048576: true; the input reads as it did. -/
def fnExactCodeNameUptoRow : OpenClaim := { program := "ytooflknjnklglaa", sum := "5bef90135d1180c795faf5aeff1101a9d32786013db3da42d1edb3894b4f6c07", func := "loop.example/g00883/laws.FnExactCodeName", spec := "fnExactCodeName", apart := false, narrowed := true }
def FnExactCodeNameUptoSaid : Prop := fnExactCodeNameUptoRow.holds Try.pinned (OpenSpec.upto fnExactCodeNameSpec)

/-- 'laws.FnExactSum32', WHERE WHAT IT READS IS OF BULK AT MOST 1048576: true; the input reads as it did. -/
def fnExactSum32UptoRow : OpenClaim := { program := "ytooflknjnklglaa", sum := "5bef90135d1180c795faf5aeff1101a9d32786013db3da42d1edb3894b4f6c07", func := "loop.example/g00883/laws.FnExactSum32", spec := "fnExactSum32", apart := false, narrowed := true }
def FnExactSum32UptoSaid : Prop := fnExactSum32UptoRow.holds Try.pinned (OpenSpec.upto fnExactSum32Spec)

/-- 'laws.FnExactGetWord', WHERE WHAT IT READS IS OF BULK AT MOST 1048576: true; the input reads as it did. -/
def fnExactGetWordUptoRow : OpenClaim := { program := "ytooflknjnklglaa", sum := "5bef90135d1180c795faf5aeff1101a9d32786013db3da42d1edb3894b4f6c07", func := "loop.example/g00883/laws.FnExactGetWord", spec := "fnExactGetWord", apart := false, narrowed := true }
def FnExactGetWordUptoSaid : Prop := fnExactGetWordUptoRow.holds Try.pinned (OpenSpec.upto fnExactGetWordSpec)

/-- 'laws.FnExactIsName', WHERE WHAT IT READS IS OF BULK AT MOST 1048576: true; the input reads as it did. -/
def fnExactIsNameUptoRow : OpenClaim := { program := "ytooflknjnklglaa", sum := "5bef90135d1180c795faf5aeff1101a9d32786013db3da42d1edb3894b4f6c07", func := "loop.example/g00883/laws.FnExactIsName", spec := "fnExactIsName", apart := false, narrowed := true }
def FnExactIsNameUptoSaid : Prop := fnExactIsNameUptoRow.holds Try.pinned (OpenSpec.upto fnExactIsNameSpec)

/-- 'laws.FnFractions', WHERE WHAT IT READS IS OF BULK AT MOST 1048576: true; the input reads as it did. -/
def fnFractionsUptoRow : OpenClaim := { program := "ytooflknjnklglaa", sum := "5bef90135d1180c795faf5aeff1101a9d32786013db3da42d1edb3894b4f6c07", func := "loop.example/g00883/laws.FnFractions", spec := "fnFractions", inPlace := ["internal/bytealg.IndexByteString", "internal/bytealg.IndexString"], named := ["internal/bytealg.MaxLen"], apart := false, narrowed := true }
def FnFractionsUptoSaid : Prop := fnFractionsUptoRow.holds Try.pinned (OpenSpec.upto fnFractionsSpec)

/-- 'laws.FnExactPutWord', WHERE WHAT IT READS IS OF BULK AT MOST 1048576: true; the input reads as it did. -/
def fnExactPutWordUptoRow : OpenClaim := { program := "ytooflknjnklglaa", sum := "5bef90135d1180c795faf5aeff1101a9d32786013db3da42d1edb3894b4f6c07", func := "loop.example/g00883/laws.FnExactPutWord", spec := "fnExactPutWord", apart := false, narrowed := true }
def FnExactPutWordUptoSaid : Prop := fnExactPutWordUptoRow.holds Try.pinned (OpenSpec.upto fnExactPutWordSpec)

/-- 'laws.FnExactDivRound', WHERE WHAT IT READS IS OF BULK AT MOST 1048576: true; the input reads as it did. -/
def fnExactDivRoundUptoRow : OpenClaim := { program := "ytooflknjnklglaa", sum := "5bef90135d1180c795faf5aeff1101a9d32786013db3da42d1edb3894b4f6c07", func := "loop.example/g00883/laws.FnExactDivRound", spec := "fnExactDivRound", apart := false, narrowed := true }
def FnExactDivRoundUptoSaid : Prop := fnExactDivRoundUptoRow.holds Try.pinned (OpenSpec.upto fnExactDivRoundSpec)

/-- 'laws.FnExactDistSq', WHERE WHAT IT READS IS OF BULK AT MOST 1048576: true; the input reads as it did. -/
def fnExactDistSqUptoRow : OpenClaim := { program := "ytooflknjnklglaa", sum := "5bef90135d1180c795faf5aeff1101a9d32786013db3da42d1edb3894b4f6c07", func := "loop.example/g00883/laws.FnExactDistSq", spec := "fnExactDistSq", apart := false, narrowed := true }
def FnExactDistSqUptoSaid : Prop := fnExactDistSqUptoRow.holds Try.pinned (OpenSpec.upto fnExactDistSqSpec)

/-- 'laws.FnExactDecimal', WHERE WHAT IT READS IS OF BULK AT MOST 1048576: true; the input reads as it did. -/
def fnExactDecimalUptoRow : OpenClaim := { program := "ytooflknjnklglaa", sum := "5bef90135d1180c795faf5aeff1101a9d32786013db3da42d1edb3894b4f6c07", func := "loop.example/g00883/laws.FnExactDecimal", spec := "fnExactDecimal", apart := false, narrowed := true }
def FnExactDecimalUptoSaid : Prop := fnExactDecimalUptoRow.holds Try.pinned (OpenSpec.upto fnExactDecimalSpec)

/-- 'laws.FnExactIdentityMap', WHERE WHAT IT READS IS OF BULK AT MOST 1048576: true; the input reads as it did. -/
def fnExactIdentityMapUptoRow : OpenClaim := { program := "ytooflknjnklglaa", sum := "5bef90135d1180c795faf5aeff1101a9d32786013db3da42d1edb3894b4f6c07", func := "loop.example/g00883/laws.FnExactIdentityMap", spec := "fnExactIdentityMap", apart := false, narrowed := true }
def FnExactIdentityMapUptoSaid : Prop := fnExactIdentityMapUptoRow.holds Try.pinned (OpenSpec.upto fnExactIdentityMapSpec)

end Rows
end Go.Proofs.Ytooflknjnklglaa
