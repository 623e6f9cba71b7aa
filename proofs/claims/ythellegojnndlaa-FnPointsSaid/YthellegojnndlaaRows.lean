/-
  No cell of these rows narrows 'for every input' (looked for: loops, veiled, ifaces, maps, wideKeys, modest, calm, conditions, laid).
  DERIVED. THE GIVEN ROWS OF THIS SEAT. 10 by the template 'for every input the law returns true; each argument reads behind the call as it read before'; 0 by the template 'total and deterministic' (their statements: YthellegojnndlaaTotals.lean).
  GIVEN WITH THE SEED: the statements are not yours to turn. If you find one false, say at which input.
  Laid BY PROGRAM, IN A SANDBOX (cutbox-rows.mjs): the forced cells as the released guide's own fill.sh prints them over the translation 6671e2d41b058cd9… (all of the seat's roots in one cut). By AI agents, Wed Nov 11 2026. No macro, syntax, notation, axiom, sorry.
-/
import Derived.Test.YthellegojnndlaaChecked
import GoSem.Claim
import GoSem.ClaimJoined
import GoSem.ClaimMapViews
import Derived.JoinedTies
import Derived.KernelRfl
namespace Go.Proofs.Ythellegojnndlaa
/- THE CELL 'sum', in the pinned program and in every row, IS THE sha256 OF THE DUMP (.gsa) THAT YthellegojnndlaaProg.lean LOADS. Nothing in Lean hashes anything: it is a label: what it is worth is what the hold of that sum in a sandbox is worth. -/
noncomputable def Try.pinned : Pinned := { name := "ythellegojnndlaa", sum := "6671e2d41b058cd923638a6961ef96d31c26ac08ba110cb7721514a222b6fa33", checked := Try.checked }
namespace Rows
def none {H : Type} : Left H := { results := [], args := [] }

/-- 'laws.FnExactNearSegment': WHATEVER THE INPUT: true; the input reads as it did. -/
def fnExactNearSegmentSpec : ChangeSpec := { name := "fnExactNearSegment", fn := fun _ => fun
  | [d1, d2, d3, d4] => { results := [.lit (.bool true)], args := [d1, d2, d3, d4] }
  | _ => none }
def fnExactNearSegmentRow : OpenClaim := { program := "ythellegojnndlaa", sum := "6671e2d41b058cd923638a6961ef96d31c26ac08ba110cb7721514a222b6fa33", func := "loop.example/g00883/laws.FnExactNearSegment", spec := "fnExactNearSegment", apart := false }
def FnExactNearSegmentSaid : Prop := fnExactNearSegmentRow.holds Try.pinned (OpenSpec.ofChange fnExactNearSegmentSpec)

/-- ITS FALSE NEIGHBOUR: 'it returns false'. Refute it at one input. -/
def fnExactNearSegmentWrong : ChangeSpec := { name := "fnExactNearSegment", fn := fun _ => fun
  | [d1, d2, d3, d4] => { results := [.lit (.bool false)], args := [d1, d2, d3, d4] }
  | _ => none }
def FnExactNearSegmentWrongFalsely : Prop := fnExactNearSegmentRow.holds Try.pinned (OpenSpec.ofChange fnExactNearSegmentWrong)

/-- 'laws.FnExactReadDecimal': WHATEVER THE INPUT: true; the input reads as it did. -/
def fnExactReadDecimalSpec : ChangeSpec := { name := "fnExactReadDecimal", fn := fun _ => fun
  | [d] => { results := [.lit (.bool true)], args := [d] }
  | _ => none }
def fnExactReadDecimalRow : OpenClaim := { program := "ythellegojnndlaa", sum := "6671e2d41b058cd923638a6961ef96d31c26ac08ba110cb7721514a222b6fa33", func := "loop.example/g00883/laws.FnExactReadDecimal", spec := "fnExactReadDecimal", apart := false }
def FnExactReadDecimalSaid : Prop := fnExactReadDecimalRow.holds Try.pinned (OpenSpec.ofChange fnExactReadDecimalSpec)

/-- ITS FALSE NEIGHBOUR: 'it returns false'. Refute it at one input. -/
def fnExactReadDecimalWrong : ChangeSpec := { name := "fnExactReadDecimal", fn := fun _ => fun
  | [d] => { results := [.lit (.bool false)], args := [d] }
  | _ => none }
def FnExactReadDecimalWrongFalsely : Prop := fnExactReadDecimalRow.holds Try.pinned (OpenSpec.ofChange fnExactReadDecimalWrong)

/-- 'laws.FnExactMeetingOf': WHATEVER THE INPUT: true; the input reads as it did. -/
def fnExactMeetingOfSpec : ChangeSpec := { name := "fnExactMeetingOf", fn := fun _ => fun
  | [d1, d2, d3, d4] => { results := [.lit (.bool true)], args := [d1, d2, d3, d4] }
  | _ => none }
def fnExactMeetingOfRow : OpenClaim := { program := "ythellegojnndlaa", sum := "6671e2d41b058cd923638a6961ef96d31c26ac08ba110cb7721514a222b6fa33", func := "loop.example/g00883/laws.FnExactMeetingOf", spec := "fnExactMeetingOf", apart := false }
def FnExactMeetingOfSaid : Prop := fnExactMeetingOfRow.holds Try.pinned (OpenSpec.ofChange fnExactMeetingOfSpec)

/-- ITS FALSE NEIGHBOUR: 'it returns false'. Refute it at one input. -/
def fnExactMeetingOfWrong : ChangeSpec := { name := "fnExactMeetingOf", fn := fun _ => fun
  | [d1, d2, d3, d4] => { results := [.lit (.bool false)], args := [d1, d2, d3, d4] }
  | _ => none }
def FnExactMeetingOfWrongFalsely : Prop := fnExactMeetingOfRow.holds Try.pinned (OpenSpec.ofChange fnExactMeetingOfWrong)

/-- 'laws.FnExactCrossingOf': WHATEVER THE INPUT: true; the input reads as it did. -/
def fnExactCrossingOfSpec : ChangeSpec := { name := "fnExactCrossingOf", fn := fun _ => fun
  | [d1, d2, d3, d4] => { results := [.lit (.bool true)], args := [d1, d2, d3, d4] }
  | _ => none }
def fnExactCrossingOfRow : OpenClaim := { program := "ythellegojnndlaa", sum := "6671e2d41b058cd923638a6961ef96d31c26ac08ba110cb7721514a222b6fa33", func := "loop.example/g00883/laws.FnExactCrossingOf", spec := "fnExactCrossingOf", apart := false }
def FnExactCrossingOfSaid : Prop := fnExactCrossingOfRow.holds Try.pinned (OpenSpec.ofChange fnExactCrossingOfSpec)

/-- ITS FALSE NEIGHBOUR: 'it returns false'. Refute it at one input. -/
def fnExactCrossingOfWrong : ChangeSpec := { name := "fnExactCrossingOf", fn := fun _ => fun
  | [d1, d2, d3, d4] => { results := [.lit (.bool false)], args := [d1, d2, d3, d4] }
  | _ => none }
def FnExactCrossingOfWrongFalsely : Prop := fnExactCrossingOfRow.holds Try.pinned (OpenSpec.ofChange fnExactCrossingOfWrong)

/-- 'laws.FnExactSplitWords': WHATEVER THE INPUT: true; the input reads as it did. -/
def fnExactSplitWordsSpec : ChangeSpec := { name := "fnExactSplitWords", fn := fun _ => fun
  | [d] => { results := [.lit (.bool true)], args := [d] }
  | _ => none }
def fnExactSplitWordsRow : OpenClaim := { program := "ythellegojnndlaa", sum := "6671e2d41b058cd923638a6961ef96d31c26ac08ba110cb7721514a222b6fa33", func := "loop.example/g00883/laws.FnExactSplitWords", spec := "fnExactSplitWords", apart := false }
def FnExactSplitWordsSaid : Prop := fnExactSplitWordsRow.holds Try.pinned (OpenSpec.ofChange fnExactSplitWordsSpec)

/-- ITS FALSE NEIGHBOUR: 'it returns false'. Refute it at one input. -/
def fnExactSplitWordsWrong : ChangeSpec := { name := "fnExactSplitWords", fn := fun _ => fun
  | [d] => { results := [.lit (.bool false)], args := [d] }
  | _ => none }
def FnExactSplitWordsWrongFalsely : Prop := fnExactSplitWordsRow.holds Try.pinned (OpenSpec.ofChange fnExactSplitWordsWrong)

/-- 'laws.FnExactReadPt': WHATEVER THE INPUT: true; the input reads as it did. -/
def fnExactReadPtSpec : ChangeSpec := { name := "fnExactReadPt", fn := fun _ => fun
  | [d] => { results := [.lit (.bool true)], args := [d] }
  | _ => none }
def fnExactReadPtRow : OpenClaim := { program := "ythellegojnndlaa", sum := "6671e2d41b058cd923638a6961ef96d31c26ac08ba110cb7721514a222b6fa33", func := "loop.example/g00883/laws.FnExactReadPt", spec := "fnExactReadPt", inPlace := ["internal/bytealg.IndexByteString", "internal/bytealg.IndexString"], named := ["internal/bytealg.MaxLen"], apart := false }
def FnExactReadPtSaid : Prop := fnExactReadPtRow.holds Try.pinned (OpenSpec.ofChange fnExactReadPtSpec)

/-- ITS FALSE NEIGHBOUR: 'it returns false'. Refute it at one input. -/
def fnExactReadPtWrong : ChangeSpec := { name := "fnExactReadPt", fn := fun _ => fun
  | [d] => { results := [.lit (.bool false)], args := [d] }
  | _ => none }
def FnExactReadPtWrongFalsely : Prop := fnExactReadPtRow.holds Try.pinned (OpenSpec.ofChange fnExactReadPtWrong)

/-- 'laws.FnExactReadFrac': WHATEVER THE INPUT: true; the input reads as it did. -/
def fnExactReadFracSpec : ChangeSpec := { name := "fnExactReadFrac", fn := fun _ => fun
  | [d] => { results := [.lit (.bool true)], args := [d] }
  | _ => none }
def fnExactReadFracRow : OpenClaim := { program := "ythellegojnndlaa", sum := "6671e2d41b058cd923638a6961ef96d31c26ac08ba110cb7721514a222b6fa33", func := "loop.example/g00883/laws.FnExactReadFrac", spec := "fnExactReadFrac", inPlace := ["internal/bytealg.IndexByteString", "internal/bytealg.IndexString"], named := ["internal/bytealg.MaxLen"], apart := false }
def FnExactReadFracSaid : Prop := fnExactReadFracRow.holds Try.pinned (OpenSpec.ofChange fnExactReadFracSpec)

/-- ITS FALSE NEIGHBOUR: 'it returns false'. Refute it at one input. -/
def fnExactReadFracWrong : ChangeSpec := { name := "fnExactReadFrac", fn := fun _ => fun
  | [d] => { results := [.lit (.bool false)], args := [d] }
  | _ => none }
def FnExactReadFracWrongFalsely : Prop := fnExactReadFracRow.holds Try.pinned (OpenSpec.ofChange fnExactReadFracWrong)

/-- 'laws.FnExactNameLinear': WHATEVER THE INPUT: true; the input reads as it did. -/
def fnExactNameLinearSpec : ChangeSpec := { name := "fnExactNameLinear", fn := fun _ => fun
  | [d] => { results := [.lit (.bool true)], args := [d] }
  | _ => none }
def fnExactNameLinearRow : OpenClaim := { program := "ythellegojnndlaa", sum := "6671e2d41b058cd923638a6961ef96d31c26ac08ba110cb7721514a222b6fa33", func := "loop.example/g00883/laws.FnExactNameLinear", spec := "fnExactNameLinear", apart := false }
def FnExactNameLinearSaid : Prop := fnExactNameLinearRow.holds Try.pinned (OpenSpec.ofChange fnExactNameLinearSpec)

/-- ITS FALSE NEIGHBOUR: 'it returns false'. Refute it at one input. -/
def fnExactNameLinearWrong : ChangeSpec := { name := "fnExactNameLinear", fn := fun _ => fun
  | [d] => { results := [.lit (.bool false)], args := [d] }
  | _ => none }
def FnExactNameLinearWrongFalsely : Prop := fnExactNameLinearRow.holds Try.pinned (OpenSpec.ofChange fnExactNameLinearWrong)

/-- 'laws.FnFractions': WHATEVER THE INPUT: true; the input reads as it did. -/
def fnFractionsSpec : ChangeSpec := { name := "fnFractions", fn := fun _ => fun
  | [d] => { results := [.lit (.bool true)], args := [d] }
  | _ => none }
def fnFractionsRow : OpenClaim := { program := "ythellegojnndlaa", sum := "6671e2d41b058cd923638a6961ef96d31c26ac08ba110cb7721514a222b6fa33", func := "loop.example/g00883/laws.FnFractions", spec := "fnFractions", inPlace := ["internal/bytealg.IndexByteString", "internal/bytealg.IndexString"], named := ["internal/bytealg.MaxLen"], apart := false }
def FnFractionsSaid : Prop := fnFractionsRow.holds Try.pinned (OpenSpec.ofChange fnFractionsSpec)

/-- ITS FALSE NEIGHBOUR: 'it returns false'. Refute it at one input. -/
def fnFractionsWrong : ChangeSpec := { name := "fnFractions", fn := fun _ => fun
  | [d] => { results := [.lit (.bool false)], args := [d] }
  | _ => none }
def FnFractionsWrongFalsely : Prop := fnFractionsRow.holds Try.pinned (OpenSpec.ofChange fnFractionsWrong)

/-- 'laws.FnPoints': WHATEVER THE INPUT: true; the input reads as it did. -/
def fnPointsSpec : ChangeSpec := { name := "fnPoints", fn := fun _ => fun
  | [d] => { results := [.lit (.bool true)], args := [d] }
  | _ => none }
def fnPointsRow : OpenClaim := { program := "ythellegojnndlaa", sum := "6671e2d41b058cd923638a6961ef96d31c26ac08ba110cb7721514a222b6fa33", func := "loop.example/g00883/laws.FnPoints", spec := "fnPoints", inPlace := ["internal/bytealg.IndexByteString", "internal/bytealg.IndexString"], named := ["internal/bytealg.MaxLen"], apart := false }
def FnPointsSaid : Prop := fnPointsRow.holds Try.pinned (OpenSpec.ofChange fnPointsSpec)

/-- ITS FALSE NEIGHBOUR: 'it returns false'. Refute it at one input. -/
def fnPointsWrong : ChangeSpec := { name := "fnPoints", fn := fun _ => fun
  | [d] => { results := [.lit (.bool false)], args := [d] }
  | _ => none }
def FnPointsWrongFalsely : Prop := fnPointsRow.holds Try.pinned (OpenSpec.ofChange fnPointsWrong)

/- THE SECOND FORM. 'bulk': how many values and letters a reading holds, each counted each time it is reached (what is shared counts as often as it is met; a slice's spare places count too). A statement '..UptoSaid' is the law's where the arguments, and the package variables that the reading takes, are together of bulk at most 1048576: NARROWER than '..Said'. Prove '..Said' where nothing that the law and all that it calls make is longer than what came in: it says more and counts as full. Else prove '..UptoSaid'. A law counts once. -/
mutual
def uptoBulk {H : Type} : DataW H → Nat
  | .lit (.string bytes) => bytes.length + 1
  | .lit _ => 1
  | .nil => 1
  | .ptr d => uptoBulk d + 1
  | .slice elems spare => uptoBulkAll elems + uptoBulkAll spare + 1
  | .agg parts => uptoBulkAll parts + 1
  | .iface _ d => uptoBulk d + 1
  | .map entries => uptoBulkEntries entries + 1
  | .held _ => 1
def uptoBulkAll {H : Type} : List (DataW H) → Nat
  | [] => 0
  | d :: r => uptoBulk d + uptoBulkAll r
def uptoBulkEntries {H : Type} : List (Lit × DataW H) → Nat
  | [] => 0
  | x :: r => uptoBulkEntry x + uptoBulkEntries r
def uptoBulkEntry {H : Type} : Lit × DataW H → Nat
  | (.string bytes, d) => bytes.length + uptoBulk d + 1
  | (_, d) => uptoBulk d + 1
 end
def uptoSmall : (H : Type) → List (DataW H) → Bool := fun _ ds => decide (uptoBulkAll ds ≤ 1048576)
def OpenSpec.upto (s : _root_.Go.ChangeSpec) : _root_.Go.OpenSpec := { _root_.Go.OpenSpec.ofChange s with cond := some uptoSmall }

/-- 'laws.FnExactNearSegment', WHERE WHAT IT READS IS OF BULK AT MOST 1048576: true; the input reads as it did. -/
def fnExactNearSegmentUptoRow : OpenClaim := { program := "ythellegojnndlaa", sum := "6671e2d41b058cd923638a6961ef96d31c26ac08ba110cb7721514a222b6fa33", func := "loop.example/g00883/laws.FnExactNearSegment", spec := "fnExactNearSegment", apart := false, narrowed := true }
def FnExactNearSegmentUptoSaid : Prop := fnExactNearSegmentUptoRow.holds Try.pinned (OpenSpec.upto fnExactNearSegmentSpec)

/-- 'laws.FnExactReadDecimal', WHERE WHAT IT READS IS OF BULK AT MOST 1048576: true; the input reads as it did. -/
def fnExactReadDecimalUptoRow : OpenClaim := { program := "ythellegojnndlaa", sum := "6671e2d41b058cd923638a6961ef96d31c26ac08ba110cb7721514a222b6fa33", func := "loop.example/g00883/laws.FnExactReadDecimal", spec := "fnExactReadDecimal", apart := false, narrowed := true }
def FnExactReadDecimalUptoSaid : Prop := fnExactReadDecimalUptoRow.holds Try.pinned (OpenSpec.upto fnExactReadDecimalSpec)

/-- 'laws.FnExactMeetingOf', WHERE WHAT IT READS IS OF BULK AT MOST 1048576: true; the input reads as it did. -/
def fnExactMeetingOfUptoRow : OpenClaim := { program := "ythellegojnndlaa", sum := "6671e2d41b058cd923638a6961ef96d31c26ac08ba110cb7721514a222b6fa33", func := "loop.example/g00883/laws.FnExactMeetingOf", spec := "fnExactMeetingOf", apart := false, narrowed := true }
def FnExactMeetingOfUptoSaid : Prop := fnExactMeetingOfUptoRow.holds Try.pinned (OpenSpec.upto fnExactMeetingOfSpec)

/-- 'laws.FnExactCrossingOf', WHERE WHAT IT READS IS OF BULK AT MOST 1048576: true; the input reads as it did. -/
def fnExactCrossingOfUptoRow : OpenClaim := { program := "ythellegojnndlaa", sum := "6671e2d41b058cd923638a6961ef96d31c26ac08ba110cb7721514a222b6fa33", func := "loop.example/g00883/laws.FnExactCrossingOf", spec := "fnExactCrossingOf", apart := false, narrowed := true }
def FnExactCrossingOfUptoSaid : Prop := fnExactCrossingOfUptoRow.holds Try.pinned (OpenSpec.upto fnExactCrossingOfSpec)

/-- 'laws.FnExactSplitWords', WHERE WHAT IT READS IS OF BULK AT MOST 1048576: true; the input reads as it did. -/
def fnExactSplitWordsUptoRow : OpenClaim := { program := "ythellegojnndlaa", sum := "6671e2d41b058cd923638a6961ef96d31c26ac08ba110cb7721514a222b6fa33", func := "loop.example/g00883/laws.FnExactSplitWords", spec := "fnExactSplitWords", apart := false, narrowed := true }
def FnExactSplitWordsUptoSaid : Prop := fnExactSplitWordsUptoRow.holds Try.pinned (OpenSpec.upto fnExactSplitWordsSpec)

/-- 'laws.FnExactReadPt', WHERE WHAT IT READS IS OF BULK AT MOST 1048576: true; the input reads as it did. -/
def fnExactReadPtUptoRow : OpenClaim := { program := "ythellegojnndlaa", sum := "6671e2d41b058cd923638a6961ef96d31c26ac08ba110cb7721514a222b6fa33", func := "loop.example/g00883/laws.FnExactReadPt", spec := "fnExactReadPt", inPlace := ["internal/bytealg.IndexByteString", "internal/bytealg.IndexString"], named := ["internal/bytealg.MaxLen"], apart := false, narrowed := true }
def FnExactReadPtUptoSaid : Prop := fnExactReadPtUptoRow.holds Try.pinned (OpenSpec.upto fnExactReadPtSpec)

/-- 'laws.FnExactReadFrac', WHERE WHAT IT READS IS OF BULK AT MOST 1048576: true; the input reads as it did. -/
def fnExactReadFracUptoRow : OpenClaim := { program := "ythellegojnndlaa", sum := "6671e2d41b058cd923638a6961ef96d31c26ac08ba110cb7721514a222b6fa33", func := "loop.example/g00883/laws.FnExactReadFrac", spec := "fnExactReadFrac", inPlace := ["internal/bytealg.IndexByteString", "internal/bytealg.IndexString"], named := ["internal/bytealg.MaxLen"], apart := false, narrowed := true }
def FnExactReadFracUptoSaid : Prop := fnExactReadFracUptoRow.holds Try.pinned (OpenSpec.upto fnExactReadFracSpec)

/-- 'laws.FnExactNameLinear', WHERE WHAT IT READS IS OF BULK AT MOST 1048576: true; the input reads as it did. -/
def fnExactNameLinearUptoRow : OpenClaim := { program := "ythellegojnndlaa", sum := "6671e2d41b058cd923638a6961ef96d31c26ac08ba110cb7721514a222b6fa33", func := "loop.example/g00883/laws.FnExactNameLinear", spec := "fnExactNameLinear", apart := false, narrowed := true }
def FnExactNameLinearUptoSaid : Prop := fnExactNameLinearUptoRow.holds Try.pinned (OpenSpec.upto fnExactNameLinearSpec)

/-- 'laws.FnFractions', WHERE WHAT IT READS IS OF BULK AT MOST 1048576: true; the input reads as it did. -/
def fnFractionsUptoRow : OpenClaim := { program := "ythellegojnndlaa", sum := "6671e2d41b058cd923638a6961ef96d31c26ac08ba110cb7721514a222b6fa33", func := "loop.example/g00883/laws.FnFractions", spec := "fnFractions", inPlace := ["internal/bytealg.IndexByteString", "internal/bytealg.IndexString"], named := ["internal/bytealg.MaxLen"], apart := false, narrowed := true }
def FnFractionsUptoSaid : Prop := fnFractionsUptoRow.holds Try.pinned (OpenSpec.upto fnFractionsSpec)

/-- 'laws.FnPoints', WHERE WHAT IT READS IS OF BULK AT MOST 1048576: true; the input reads as it did. -/
def fnPointsUptoRow : OpenClaim := { program := "ythellegojnndlaa", sum := "6671e2d41b058cd923638a6961ef96d31c26ac08ba110cb7721514a222b6fa33", func := "loop.example/g00883/laws.FnPoints", spec := "fnPoints", inPlace := ["internal/bytealg.IndexByteString", "internal/bytealg.IndexString"], named := ["internal/bytealg.MaxLen"], apart := false, narrowed := true }
def FnPointsUptoSaid : Prop := fnPointsUptoRow.holds Try.pinned (OpenSpec.upto fnPointsSpec)

end Rows
end Go.Proofs.Ythellegojnndlaa
