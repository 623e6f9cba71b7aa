/-
  No cell of these rows narrows 'for every input' (looked for: loops, veiled, ifaces, maps, wideKeys, modest, calm, conditions, laid).
  DERIVED. THE GIVEN ROWS OF THIS SEAT. 12 by the template 'for every input the law returns true; each argument reads behind the call as it read before'; 0 by the template 'total and deterministic' (their statements: YtljkmmcfeiocfaaTotals.lean).
  GIVEN WITH THE SEED: the statements are not yours to turn. If you find one false, say at which input.
  Laid BY PROGRAM, IN A SANDBOX (cutbox-rows.mjs): the forced cells as the released guide's own fill.sh prints them over the translation aff72aa5ea242663… (all of the seat's roots in one cut). By AI agents, Wed Nov 11 2026. No macro, syntax, notation, axiom, sorry.
-/
import Derived.Test.YtljkmmcfeiocfaaChecked
import GoSem.Claim
import GoSem.ClaimJoined
import GoSem.ClaimMapViews
import Derived.JoinedTies
import Derived.KernelRfl
namespace Go.Proofs.Ytljkmmcfeiocfaa
/- THE CELL 'sum', in the pinned program and in every row, IS THE sha256 OF THE DUMP (.gsa) THAT YtljkmmcfeiocfaaProg.lean LOADS. Nothing in Lean hashes anything: it is a label: what it is worth is what the hold of that sum in a sandbox is worth. -/
noncomputable def Try.pinned : Pinned := { name := "ytljkmmcfeiocfaa", sum := "aff72aa5ea2426638c3045491f3d459db0ab3b9f6022e23afb47cdfec945c96d", checked := Try.checked }
namespace Rows
def none {H : Type} : Left H := { results := [], args := [] }

/-- 'laws.FnExactTurn': WHATEVER THE INPUT: true; the input reads as it did. -/
def fnExactTurnSpec : ChangeSpec := { name := "fnExactTurn", fn := fun _ => fun
  | [d1, d2, d3] => { results := [.lit (.bool true)], args := [d1, d2, d3] }
  | _ => none }
def fnExactTurnRow : OpenClaim := { program := "ytljkmmcfeiocfaa", sum := "aff72aa5ea2426638c3045491f3d459db0ab3b9f6022e23afb47cdfec945c96d", func := "loop.example/g00883/laws.FnExactTurn", spec := "fnExactTurn", apart := false }
def FnExactTurnSaid : Prop := fnExactTurnRow.holds Try.pinned (OpenSpec.ofChange fnExactTurnSpec)

/-- ITS FALSE NEIGHBOUR: 'it returns false'. Refute it at one input. -/
def fnExactTurnWrong : ChangeSpec := { name := "fnExactTurn", fn := fun _ => fun
  | [d1, d2, d3] => { results := [.lit (.bool false)], args := [d1, d2, d3] }
  | _ => none }
def FnExactTurnWrongFalsely : Prop := fnExactTurnRow.holds Try.pinned (OpenSpec.ofChange fnExactTurnWrong)

/-- 'laws.FnExactOnSegment': WHATEVER THE INPUT: true; the input reads as it did. -/
def fnExactOnSegmentSpec : ChangeSpec := { name := "fnExactOnSegment", fn := fun _ => fun
  | [d1, d2, d3] => { results := [.lit (.bool true)], args := [d1, d2, d3] }
  | _ => none }
def fnExactOnSegmentRow : OpenClaim := { program := "ytljkmmcfeiocfaa", sum := "aff72aa5ea2426638c3045491f3d459db0ab3b9f6022e23afb47cdfec945c96d", func := "loop.example/g00883/laws.FnExactOnSegment", spec := "fnExactOnSegment", apart := false }
def FnExactOnSegmentSaid : Prop := fnExactOnSegmentRow.holds Try.pinned (OpenSpec.ofChange fnExactOnSegmentSpec)

/-- ITS FALSE NEIGHBOUR: 'it returns false'. Refute it at one input. -/
def fnExactOnSegmentWrong : ChangeSpec := { name := "fnExactOnSegment", fn := fun _ => fun
  | [d1, d2, d3] => { results := [.lit (.bool false)], args := [d1, d2, d3] }
  | _ => none }
def FnExactOnSegmentWrongFalsely : Prop := fnExactOnSegmentRow.holds Try.pinned (OpenSpec.ofChange fnExactOnSegmentWrong)

/-- 'laws.FnExactMidPt': WHATEVER THE INPUT: true; the input reads as it did. -/
def fnExactMidPtSpec : ChangeSpec := { name := "fnExactMidPt", fn := fun _ => fun
  | [d1, d2] => { results := [.lit (.bool true)], args := [d1, d2] }
  | _ => none }
def fnExactMidPtRow : OpenClaim := { program := "ytljkmmcfeiocfaa", sum := "aff72aa5ea2426638c3045491f3d459db0ab3b9f6022e23afb47cdfec945c96d", func := "loop.example/g00883/laws.FnExactMidPt", spec := "fnExactMidPt", apart := false }
def FnExactMidPtSaid : Prop := fnExactMidPtRow.holds Try.pinned (OpenSpec.ofChange fnExactMidPtSpec)

/-- ITS FALSE NEIGHBOUR: 'it returns false'. Refute it at one input. -/
def fnExactMidPtWrong : ChangeSpec := { name := "fnExactMidPt", fn := fun _ => fun
  | [d1, d2] => { results := [.lit (.bool false)], args := [d1, d2] }
  | _ => none }
def FnExactMidPtWrongFalsely : Prop := fnExactMidPtRow.holds Try.pinned (OpenSpec.ofChange fnExactMidPtWrong)

/-- 'laws.FnExactCompareAround': WHATEVER THE INPUT: true; the input reads as it did. -/
def fnExactCompareAroundSpec : ChangeSpec := { name := "fnExactCompareAround", fn := fun _ => fun
  | [d1, d2, d3] => { results := [.lit (.bool true)], args := [d1, d2, d3] }
  | _ => none }
def fnExactCompareAroundRow : OpenClaim := { program := "ytljkmmcfeiocfaa", sum := "aff72aa5ea2426638c3045491f3d459db0ab3b9f6022e23afb47cdfec945c96d", func := "loop.example/g00883/laws.FnExactCompareAround", spec := "fnExactCompareAround", apart := false }
def FnExactCompareAroundSaid : Prop := fnExactCompareAroundRow.holds Try.pinned (OpenSpec.ofChange fnExactCompareAroundSpec)

/-- ITS FALSE NEIGHBOUR: 'it returns false'. Refute it at one input. -/
def fnExactCompareAroundWrong : ChangeSpec := { name := "fnExactCompareAround", fn := fun _ => fun
  | [d1, d2, d3] => { results := [.lit (.bool false)], args := [d1, d2, d3] }
  | _ => none }
def FnExactCompareAroundWrongFalsely : Prop := fnExactCompareAroundRow.holds Try.pinned (OpenSpec.ofChange fnExactCompareAroundWrong)

/-- 'laws.FnExactNearSegment': WHATEVER THE INPUT: true; the input reads as it did. -/
def fnExactNearSegmentSpec : ChangeSpec := { name := "fnExactNearSegment", fn := fun _ => fun
  | [d1, d2, d3, d4] => { results := [.lit (.bool true)], args := [d1, d2, d3, d4] }
  | _ => none }
def fnExactNearSegmentRow : OpenClaim := { program := "ytljkmmcfeiocfaa", sum := "aff72aa5ea2426638c3045491f3d459db0ab3b9f6022e23afb47cdfec945c96d", func := "loop.example/g00883/laws.FnExactNearSegment", spec := "fnExactNearSegment", apart := false }
def FnExactNearSegmentSaid : Prop := fnExactNearSegmentRow.holds Try.pinned (OpenSpec.ofChange fnExactNearSegmentSpec)

/-- ITS FALSE NEIGHBOUR: 'it returns false'. Refute it at one input. -/
def fnExactNearSegmentWrong : ChangeSpec := { name := "fnExactNearSegment", fn := fun _ => fun
  | [d1, d2, d3, d4] => { results := [.lit (.bool false)], args := [d1, d2, d3, d4] }
  | _ => none }
def FnExactNearSegmentWrongFalsely : Prop := fnExactNearSegmentRow.holds Try.pinned (OpenSpec.ofChange fnExactNearSegmentWrong)

/-- 'laws.FnExactMeetingOf': WHATEVER THE INPUT: true; the input reads as it did. -/
def fnExactMeetingOfSpec : ChangeSpec := { name := "fnExactMeetingOf", fn := fun _ => fun
  | [d1, d2, d3, d4] => { results := [.lit (.bool true)], args := [d1, d2, d3, d4] }
  | _ => none }
def fnExactMeetingOfRow : OpenClaim := { program := "ytljkmmcfeiocfaa", sum := "aff72aa5ea2426638c3045491f3d459db0ab3b9f6022e23afb47cdfec945c96d", func := "loop.example/g00883/laws.FnExactMeetingOf", spec := "fnExactMeetingOf", apart := false }
def FnExactMeetingOfSaid : Prop := fnExactMeetingOfRow.holds Try.pinned (OpenSpec.ofChange fnExactMeetingOfSpec)

/-- ITS FALSE NEIGHBOUR: 'it returns false'. Refute it at one input. -/
def fnExactMeetingOfWrong : ChangeSpec := { name := "fnExactMeetingOf", fn := fun _ => fun
  | [d1, d2, d3, d4] => { results := [.lit (.bool false)], args := [d1, d2, d3, d4] }
  | _ => none }
def FnExactMeetingOfWrongFalsely : Prop := fnExactMeetingOfRow.holds Try.pinned (OpenSpec.ofChange fnExactMeetingOfWrong)

/-- 'laws.FnExactCrossingOf': WHATEVER THE INPUT: true; the input reads as it did. -/
def fnExactCrossingOfSpec : ChangeSpec := { name := "fnExactCrossingOf", fn := fun _ => fun
  | [d1, d2, d3, d4] => { results := [.lit (.bool true)], args := [d1, d2, d3, d4] }
  | _ => none }
def fnExactCrossingOfRow : OpenClaim := { program := "ytljkmmcfeiocfaa", sum := "aff72aa5ea2426638c3045491f3d459db0ab3b9f6022e23afb47cdfec945c96d", func := "loop.example/g00883/laws.FnExactCrossingOf", spec := "fnExactCrossingOf", apart := false }
def FnExactCrossingOfSaid : Prop := fnExactCrossingOfRow.holds Try.pinned (OpenSpec.ofChange fnExactCrossingOfSpec)

/-- ITS FALSE NEIGHBOUR: 'it returns false'. Refute it at one input. -/
def fnExactCrossingOfWrong : ChangeSpec := { name := "fnExactCrossingOf", fn := fun _ => fun
  | [d1, d2, d3, d4] => { results := [.lit (.bool false)], args := [d1, d2, d3, d4] }
  | _ => none }
def FnExactCrossingOfWrongFalsely : Prop := fnExactCrossingOfRow.holds Try.pinned (OpenSpec.ofChange fnExactCrossingOfWrong)

/-- 'laws.FnExactPtText': WHATEVER THE INPUT: true; the input reads as it did. -/
def fnExactPtTextSpec : ChangeSpec := { name := "fnExactPtText", fn := fun _ => fun
  | [d] => { results := [.lit (.bool true)], args := [d] }
  | _ => none }
def fnExactPtTextRow : OpenClaim := { program := "ytljkmmcfeiocfaa", sum := "aff72aa5ea2426638c3045491f3d459db0ab3b9f6022e23afb47cdfec945c96d", func := "loop.example/g00883/laws.FnExactPtText", spec := "fnExactPtText", apart := false }
def FnExactPtTextSaid : Prop := fnExactPtTextRow.holds Try.pinned (OpenSpec.ofChange fnExactPtTextSpec)

/-- ITS FALSE NEIGHBOUR: 'it returns false'. Refute it at one input. -/
def fnExactPtTextWrong : ChangeSpec := { name := "fnExactPtText", fn := fun _ => fun
  | [d] => { results := [.lit (.bool false)], args := [d] }
  | _ => none }
def FnExactPtTextWrongFalsely : Prop := fnExactPtTextRow.holds Try.pinned (OpenSpec.ofChange fnExactPtTextWrong)

/-- 'laws.FnExactReadPt': WHATEVER THE INPUT: true; the input reads as it did. -/
def fnExactReadPtSpec : ChangeSpec := { name := "fnExactReadPt", fn := fun _ => fun
  | [d] => { results := [.lit (.bool true)], args := [d] }
  | _ => none }
def fnExactReadPtRow : OpenClaim := { program := "ytljkmmcfeiocfaa", sum := "aff72aa5ea2426638c3045491f3d459db0ab3b9f6022e23afb47cdfec945c96d", func := "loop.example/g00883/laws.FnExactReadPt", spec := "fnExactReadPt", inPlace := ["internal/bytealg.IndexByteString", "internal/bytealg.IndexString"], named := ["internal/bytealg.MaxLen"], apart := false }
def FnExactReadPtSaid : Prop := fnExactReadPtRow.holds Try.pinned (OpenSpec.ofChange fnExactReadPtSpec)

/-- ITS FALSE NEIGHBOUR: 'it returns false'. Refute it at one input. -/
def fnExactReadPtWrong : ChangeSpec := { name := "fnExactReadPt", fn := fun _ => fun
  | [d] => { results := [.lit (.bool false)], args := [d] }
  | _ => none }
def FnExactReadPtWrongFalsely : Prop := fnExactReadPtRow.holds Try.pinned (OpenSpec.ofChange fnExactReadPtWrong)

/-- 'laws.FnPoints': WHATEVER THE INPUT: true; the input reads as it did. -/
def fnPointsSpec : ChangeSpec := { name := "fnPoints", fn := fun _ => fun
  | [d] => { results := [.lit (.bool true)], args := [d] }
  | _ => none }
def fnPointsRow : OpenClaim := { program := "ytljkmmcfeiocfaa", sum := "aff72aa5ea2426638c3045491f3d459db0ab3b9f6022e23afb47cdfec945c96d", func := "loop.example/g00883/laws.FnPoints", spec := "fnPoints", inPlace := ["internal/bytealg.IndexByteString", "internal/bytealg.IndexString"], named := ["internal/bytealg.MaxLen"], apart := false }
def FnPointsSaid : Prop := fnPointsRow.holds Try.pinned (OpenSpec.ofChange fnPointsSpec)

/-- ITS FALSE NEIGHBOUR: 'it returns false'. Refute it at one input. -/
def fnPointsWrong : ChangeSpec := { name := "fnPoints", fn := fun _ => fun
  | [d] => { results := [.lit (.bool false)], args := [d] }
  | _ => none }
def FnPointsWrongFalsely : Prop := fnPointsRow.holds Try.pinned (OpenSpec.ofChange fnPointsWrong)

/-- 'laws.FnExactSplitWords': WHATEVER THE INPUT: true; the input reads as it did. -/
def fnExactSplitWordsSpec : ChangeSpec := { name := "fnExactSplitWords", fn := fun _ => fun
  | [d] => { results := [.lit (.bool true)], args := [d] }
  | _ => none }
def fnExactSplitWordsRow : OpenClaim := { program := "ytljkmmcfeiocfaa", sum := "aff72aa5ea2426638c3045491f3d459db0ab3b9f6022e23afb47cdfec945c96d", func := "loop.example/g00883/laws.FnExactSplitWords", spec := "fnExactSplitWords", apart := false }
def FnExactSplitWordsSaid : Prop := fnExactSplitWordsRow.holds Try.pinned (OpenSpec.ofChange fnExactSplitWordsSpec)

/-- ITS FALSE NEIGHBOUR: 'it returns false'. Refute it at one input. -/
def fnExactSplitWordsWrong : ChangeSpec := { name := "fnExactSplitWords", fn := fun _ => fun
  | [d] => { results := [.lit (.bool false)], args := [d] }
  | _ => none }
def FnExactSplitWordsWrongFalsely : Prop := fnExactSplitWordsRow.holds Try.pinned (OpenSpec.ofChange fnExactSplitWordsWrong)

/-- 'laws.FnExactReadDecimal': WHATEVER THE INPUT: true; the input reads as it did. -/
def fnExactReadDecimalSpec : ChangeSpec := { name := "fnExactReadDecimal", fn := fun _ => fun
  | [d] => { results := [.lit (.bool true)], args := [d] }
  | _ => none }
def fnExactReadDecimalRow : OpenClaim := { program := "ytljkmmcfeiocfaa", sum := "aff72aa5ea2426638c3045491f3d459db0ab3b9f6022e23afb47cdfec945c96d", func := "loop.example/g00883/laws.FnExactReadDecimal", spec := "fnExactReadDecimal", apart := false }
def FnExactReadDecimalSaid : Prop := fnExactReadDecimalRow.holds Try.pinned (OpenSpec.ofChange fnExactReadDecimalSpec)

/-- ITS FALSE NEIGHBOUR: 'it returns false'. Refute it at one input. -/
def fnExactReadDecimalWrong : ChangeSpec := { name := "fnExactReadDecimal", fn := fun _ => fun
  | [d] => { results := [.lit (.bool false)], args := [d] }
  | _ => none }
def FnExactReadDecimalWrongFalsely : Prop := fnExactReadDecimalRow.holds Try.pinned (OpenSpec.ofChange fnExactReadDecimalWrong)

/- THE SECOND FORM. 'bulk': how many values and letters a reading holds, each counted each time it is reached (what is shared counts as often as it is met; a slice's spare places count too). A statement '..UptoSaid' is the law's where the arguments, and the package variables that the reading takes, are together of bulk at most 1048576: NARROWER than '..Said'. Prove '..Said' where nothing that the law and all that it calls make is longer than what came in: it says more and counts as full. Else prove '..UptoSaid'. A law counts once. -/
mutual
def uptoBulk {H : Type} : DataW H → Nat
  | .lit (.string bytes) => bytes.length + 1
  | .lit _ => 1
  | .nil => 1
  | .ptr d => uptoBulk d + 1
  | .slice elems spare => uptoBulkAll elems + uptoBulkAll spare + 1
  | .agg parts => uptoBulkAll parts + 1
  | .iface _ d => uptoBulk d + 1
  | .map entries => uptoBulkEntries entries + 1
  | .held _ => 1
def uptoBulkAll {H : Type} : List (DataW H) → Nat
  | [] => 0
  | d :: r => uptoBulk d + uptoBulkAll r
def uptoBulkEntries {H : Type} : List (Lit × DataW H) → Nat
  | [] => 0
  | x :: r => uptoBulkEntry x + uptoBulkEntries r
def uptoBulkEntry {H : Type} : Lit × DataW H → Nat
  | (.string bytes, d) => bytes.length + uptoBulk d + 1
  | (_, d) => uptoBulk d + 1
 end
def uptoSmall : (H : Type) → List (DataW H) → Bool := fun _ ds => decide (uptoBulkAll ds ≤ 1048576)
def OpenSpec.upto (s : _root_.Go.ChangeSpec) : _root_.Go.OpenSpec := { _root_.Go.OpenSpec.ofChange s with cond := some uptoSmall }

/-- 'laws.FnExactTurn', WHERE WHAT IT READS IS OF BULK AT MOST 1048576: true; the input reads as it did. -/
def fnExactTurnUptoRow : OpenClaim := { program := "ytljkmmcfeiocfaa", sum := "aff72aa5ea2426638c3045491f3d459db0ab3b9f6022e23afb47cdfec945c96d", func := "loop.example/g00883/laws.FnExactTurn", spec := "fnExactTurn", apart := false, narrowed := true }
def FnExactTurnUptoSaid : Prop := fnExactTurnUptoRow.holds Try.pinned (OpenSpec.upto fnExactTurnSpec)

/-- 'laws.FnExactOnSegment', WHERE WHAT IT READS IS OF BULK AT MOST 1048576: true; the input reads as it did. -/
def fnExactOnSegmentUptoRow : OpenClaim := { program := "ytljkmmcfeiocfaa", sum := "aff72aa5ea2426638c3045491f3d459db0ab3b9f6022e23afb47cdfec945c96d", func := "loop.example/g00883/laws.FnExactOnSegment", spec := "fnExactOnSegment", apart := false, narrowed := true }
def FnExactOnSegmentUptoSaid : Prop := fnExactOnSegmentUptoRow.holds Try.pinned (OpenSpec.upto fnExactOnSegmentSpec)

/-- 'laws.FnExactMidPt', WHERE WHAT IT READS IS OF BULK AT MOST 1048576: true; the input reads as it did. -/
def fnExactMidPtUptoRow : OpenClaim := { program := "ytljkmmcfeiocfaa", sum := "aff72aa5ea2426638c3045491f3d459db0ab3b9f6022e23afb47cdfec945c96d", func := "loop.example/g00883/laws.FnExactMidPt", spec := "fnExactMidPt", apart := false, narrowed := true }
def FnExactMidPtUptoSaid : Prop := fnExactMidPtUptoRow.holds Try.pinned (OpenSpec.upto fnExactMidPtSpec)

/-- 'laws.FnExactCompareAround', WHERE WHAT IT READS IS OF BULK AT MOST 1048576: true; the input reads as it did. -/
def fnExactCompareAroundUptoRow : OpenClaim := { program := "ytljkmmcfeiocfaa", sum := "aff72aa5ea2426638c3045491f3d459db0ab3b9f6022e23afb47cdfec945c96d", func := "loop.example/g00883/laws.FnExactCompareAround", spec := "fnExactCompareAround", apart := false, narrowed := true }
def FnExactCompareAroundUptoSaid : Prop := fnExactCompareAroundUptoRow.holds Try.pinned (OpenSpec.upto fnExactCompareAroundSpec)

/-- 'laws.FnExactNearSegment', WHERE WHAT IT READS IS OF BULK AT MOST 1048576: true; the input reads as it did. -/
def fnExactNearSegmentUptoRow : OpenClaim := { program := "ytljkmmcfeiocfaa", sum := "aff72aa5ea2426638c3045491f3d459db0ab3b9f6022e23afb47cdfec945c96d", func := "loop.example/g00883/laws.FnExactNearSegment", spec := "fnExactNearSegment", apart := false, narrowed := true }
def FnExactNearSegmentUptoSaid : Prop := fnExactNearSegmentUptoRow.holds Try.pinned (OpenSpec.upto fnExactNearSegmentSpec)

/-- 'laws.FnExactMeetingOf', WHERE WHAT IT READS IS OF BULK AT MOST 1048576: true; the input reads as it did. -/
def fnExactMeetingOfUptoRow : OpenClaim := { program := "ytljkmmcfeiocfaa", sum := "aff72aa5ea2426638c3045491f3d459db0ab3b9f6022e23afb47cdfec945c96d", func := "loop.example/g00883/laws.FnExactMeetingOf", spec := "fnExactMeetingOf", apart := false, narrowed := true }
def FnExactMeetingOfUptoSaid : Prop := fnExactMeetingOfUptoRow.holds Try.pinned (OpenSpec.upto fnExactMeetingOfSpec)

/-- 'laws.FnExactCrossingOf', WHERE WHAT IT READS IS OF BULK AT MOST 1048576: true; the input reads as it did. -/
def fnExactCrossingOfUptoRow : OpenClaim := { program := "ytljkmmcfeiocfaa", sum := "aff72aa5ea2426638c3045491f3d459db0ab3b9f6022e23afb47cdfec945c96d", func := "loop.example/g00883/laws.FnExactCrossingOf", spec := "fnExactCrossingOf", apart := false, narrowed := true }
def FnExactCrossingOfUptoSaid : Prop := fnExactCrossingOfUptoRow.holds Try.pinned (OpenSpec.upto fnExactCrossingOfSpec)

/-- 'laws.FnExactPtText', WHERE WHAT IT READS IS OF BULK AT MOST 1048576: true; the input reads as it did. -/
def fnExactPtTextUptoRow : OpenClaim := { program := "ytljkmmcfeiocfaa", sum := "aff72aa5ea2426638c3045491f3d459db0ab3b9f6022e23afb47cdfec945c96d", func := "loop.example/g00883/laws.FnExactPtText", spec := "fnExactPtText", apart := false, narrowed := true }
def FnExactPtTextUptoSaid : Prop := fnExactPtTextUptoRow.holds Try.pinned (OpenSpec.upto fnExactPtTextSpec)

/-- 'laws.FnExactReadPt', WHERE WHAT IT READS IS OF BULK AT MOST 1048576: true; the input reads as it did. -/
def fnExactReadPtUptoRow : OpenClaim := { program := "ytljkmmcfeiocfaa", sum := "aff72aa5ea2426638c3045491f3d459db0ab3b9f6022e23afb47cdfec945c96d", func := "loop.example/g00883/laws.FnExactReadPt", spec := "fnExactReadPt", inPlace := ["internal/bytealg.IndexByteString", "internal/bytealg.IndexString"], named := ["internal/bytealg.MaxLen"], apart := false, narrowed := true }
def FnExactReadPtUptoSaid : Prop := fnExactReadPtUptoRow.holds Try.pinned (OpenSpec.upto fnExactReadPtSpec)

/-- 'laws.FnPoints', WHERE WHAT IT READS IS OF BULK AT MOST 1048576: true; the input reads as it did. -/
def fnPointsUptoRow : OpenClaim := { program := "ytljkmmcfeiocfaa", sum := "aff72aa5ea2426638c3045491f3d459db0ab3b9f6022e23afb47cdfec945c96d", func := "loop.example/g00883/laws.FnPoints", spec := "fnPoints", inPlace := ["internal/bytealg.IndexByteString", "internal/bytealg.IndexString"], named := ["internal/bytealg.MaxLen"], apart := false, narrowed := true }
def FnPointsUptoSaid : Prop := fnPointsUptoRow.holds Try.pinned (OpenSpec.upto fnPointsSpec)

/-- 'laws.FnExactSplitWords', WHERE WHAT IT READS IS OF BULK AT MOST 1048576: true; the input reads as it did. -/
def fnExactSplitWordsUptoRow : OpenClaim := { program := "ytljkmmcfeiocfaa", sum := "aff72aa5ea2426638c3045491f3d459db0ab3b9f6022e23afb47cdfec945c96d", func := "loop.example/g00883/laws.FnExactSplitWords", spec := "fnExactSplitWords", apart := false, narrowed := true }
def FnExactSplitWordsUptoSaid : Prop := fnExactSplitWordsUptoRow.holds Try.pinned (OpenSpec.upto fnExactSplitWordsSpec)

/-- 'laws.FnExactReadDecimal', WHERE WHAT IT READS IS OF BULK AT MOST 1048576: true; the input reads as it did. -/
def fnExactReadDecimalUptoRow : OpenClaim := { program := "ytljkmmcfeiocfaa", sum := "aff72aa5ea2426638c3045491f3d459db0ab3b9f6022e23afb47cdfec945c96d", func := "loop.example/g00883/laws.FnExactReadDecimal", spec := "fnExactReadDecimal", apart := false, narrowed := true }
def FnExactReadDecimalUptoSaid : Prop := fnExactReadDecimalUptoRow.holds Try.pinned (OpenSpec.upto fnExactReadDecimalSpec)

end Rows
end Go.Proofs.Ytljkmmcfeiocfaa
