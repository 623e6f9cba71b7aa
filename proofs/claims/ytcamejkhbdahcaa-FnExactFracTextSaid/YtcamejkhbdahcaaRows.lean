/-
  No cell of these rows narrows 'for every input' (looked for: loops, veiled, ifaces, maps, wideKeys, modest, calm, conditions, laid).
  DERIVED. THE GIVEN ROWS OF THIS SEAT. 12 by the template 'for every input the law returns true; each argument reads behind the call as it read before'; 0 by the template 'total and deterministic' (their statements: YtcamejkhbdahcaaTotals.lean).
  GIVEN WITH THE SEED: the statements are not yours to turn. If you find one false, say at which input.
  Laid BY PROGRAM, IN A SANDBOX (cutbox-rows.mjs): the forced cells as the released guide's own fill.sh prints them over the translation 8e618212943809c0… (all of the seat's roots in one cut). By AI agents, Wed Nov 11 2026. No macro, syntax, notation, axiom, sorry.
-/
import Derived.Test.YtcamejkhbdahcaaChecked
import GoSem.Claim
import GoSem.ClaimJoined
import GoSem.ClaimMapViews
import Derived.JoinedTies
import Derived.KernelRfl
namespace Go.Proofs.Ytcamejkhbdahcaa
/- THE CELL 'sum', in the pinned program and in every row, IS THE sha256 OF THE DUMP (.gsa) THAT YtcamejkhbdahcaaProg.lean LOADS. Nothing in Lean hashes anything: it is a label: what it is worth is what the hold of that sum in a sandbox is worth. -/
noncomputable def Try.pinned : Pinned := { name := "ytcamejkhbdahcaa", sum := "8e618212943809c00adeaf04c1bbfddacff700927b5fcd0dfb5b013f949c1e00", checked := Try.checked }
namespace Rows
def none {H : Type} : Left H := { results := [], args := [] }

/-- 'laws.FnExactValidFrac': WHATEVER THE INPUT: true; the input reads as it did. -/
def fnExactValidFracSpec : ChangeSpec := { name := "fnExactValidFrac", fn := fun _ => fun
  | [d] => { results := [.lit (.bool true)], args := [d] }
  | _ => none }
def fnExactValidFracRow : OpenClaim := { program := "ytcamejkhbdahcaa", sum := "8e618212943809c00adeaf04c1bbfddacff700927b5fcd0dfb5b013f949c1e00", func := "loop.example/g00883/laws.FnExactValidFrac", spec := "fnExactValidFrac", apart := false }
def FnExactValidFracSaid : Prop := fnExactValidFracRow.holds Try.pinned (OpenSpec.ofChange fnExactValidFracSpec)

/-- ITS FALSE NEIGHBOUR: 'it returns false'. Refute it at one input. -/
def fnExactValidFracWrong : ChangeSpec := { name := "fnExactValidFrac", fn := fun _ => fun
  | [d] => { results := [.lit (.bool false)], args := [d] }
  | _ => none }
def FnExactValidFracWrongFalsely : Prop := fnExactValidFracRow.holds Try.pinned (OpenSpec.ofChange fnExactValidFracWrong)

/-- 'laws.FnExactFloorFrac': WHATEVER THE INPUT: true; the input reads as it did. -/
def fnExactFloorFracSpec : ChangeSpec := { name := "fnExactFloorFrac", fn := fun _ => fun
  | [d] => { results := [.lit (.bool true)], args := [d] }
  | _ => none }
def fnExactFloorFracRow : OpenClaim := { program := "ytcamejkhbdahcaa", sum := "8e618212943809c00adeaf04c1bbfddacff700927b5fcd0dfb5b013f949c1e00", func := "loop.example/g00883/laws.FnExactFloorFrac", spec := "fnExactFloorFrac", apart := false }
def FnExactFloorFracSaid : Prop := fnExactFloorFracRow.holds Try.pinned (OpenSpec.ofChange fnExactFloorFracSpec)

/-- ITS FALSE NEIGHBOUR: 'it returns false'. Refute it at one input. -/
def fnExactFloorFracWrong : ChangeSpec := { name := "fnExactFloorFrac", fn := fun _ => fun
  | [d] => { results := [.lit (.bool false)], args := [d] }
  | _ => none }
def FnExactFloorFracWrongFalsely : Prop := fnExactFloorFracRow.holds Try.pinned (OpenSpec.ofChange fnExactFloorFracWrong)

/-- 'laws.FnExactMakeFrac': WHATEVER THE INPUT: true; the input reads as it did. -/
def fnExactMakeFracSpec : ChangeSpec := { name := "fnExactMakeFrac", fn := fun _ => fun
  | [d1, d2] => { results := [.lit (.bool true)], args := [d1, d2] }
  | _ => none }
def fnExactMakeFracRow : OpenClaim := { program := "ytcamejkhbdahcaa", sum := "8e618212943809c00adeaf04c1bbfddacff700927b5fcd0dfb5b013f949c1e00", func := "loop.example/g00883/laws.FnExactMakeFrac", spec := "fnExactMakeFrac", apart := false }
def FnExactMakeFracSaid : Prop := fnExactMakeFracRow.holds Try.pinned (OpenSpec.ofChange fnExactMakeFracSpec)

/-- ITS FALSE NEIGHBOUR: 'it returns false'. Refute it at one input. -/
def fnExactMakeFracWrong : ChangeSpec := { name := "fnExactMakeFrac", fn := fun _ => fun
  | [d1, d2] => { results := [.lit (.bool false)], args := [d1, d2] }
  | _ => none }
def FnExactMakeFracWrongFalsely : Prop := fnExactMakeFracRow.holds Try.pinned (OpenSpec.ofChange fnExactMakeFracWrong)

/-- 'laws.FnExactCompareFrac': WHATEVER THE INPUT: true; the input reads as it did. -/
def fnExactCompareFracSpec : ChangeSpec := { name := "fnExactCompareFrac", fn := fun _ => fun
  | [d1, d2] => { results := [.lit (.bool true)], args := [d1, d2] }
  | _ => none }
def fnExactCompareFracRow : OpenClaim := { program := "ytcamejkhbdahcaa", sum := "8e618212943809c00adeaf04c1bbfddacff700927b5fcd0dfb5b013f949c1e00", func := "loop.example/g00883/laws.FnExactCompareFrac", spec := "fnExactCompareFrac", apart := false }
def FnExactCompareFracSaid : Prop := fnExactCompareFracRow.holds Try.pinned (OpenSpec.ofChange fnExactCompareFracSpec)

/-- ITS FALSE NEIGHBOUR: 'it returns false'. Refute it at one input. -/
def fnExactCompareFracWrong : ChangeSpec := { name := "fnExactCompareFrac", fn := fun _ => fun
  | [d1, d2] => { results := [.lit (.bool false)], args := [d1, d2] }
  | _ => none }
def FnExactCompareFracWrongFalsely : Prop := fnExactCompareFracRow.holds Try.pinned (OpenSpec.ofChange fnExactCompareFracWrong)

/-- 'laws.FnExactRoundFrac': WHATEVER THE INPUT: true; the input reads as it did. -/
def fnExactRoundFracSpec : ChangeSpec := { name := "fnExactRoundFrac", fn := fun _ => fun
  | [d] => { results := [.lit (.bool true)], args := [d] }
  | _ => none }
def fnExactRoundFracRow : OpenClaim := { program := "ytcamejkhbdahcaa", sum := "8e618212943809c00adeaf04c1bbfddacff700927b5fcd0dfb5b013f949c1e00", func := "loop.example/g00883/laws.FnExactRoundFrac", spec := "fnExactRoundFrac", apart := false }
def FnExactRoundFracSaid : Prop := fnExactRoundFracRow.holds Try.pinned (OpenSpec.ofChange fnExactRoundFracSpec)

/-- ITS FALSE NEIGHBOUR: 'it returns false'. Refute it at one input. -/
def fnExactRoundFracWrong : ChangeSpec := { name := "fnExactRoundFrac", fn := fun _ => fun
  | [d] => { results := [.lit (.bool false)], args := [d] }
  | _ => none }
def FnExactRoundFracWrongFalsely : Prop := fnExactRoundFracRow.holds Try.pinned (OpenSpec.ofChange fnExactRoundFracWrong)

/-- 'laws.FnExactScaleFrac': WHATEVER THE INPUT: true; the input reads as it did. -/
def fnExactScaleFracSpec : ChangeSpec := { name := "fnExactScaleFrac", fn := fun _ => fun
  | [d1, d2] => { results := [.lit (.bool true)], args := [d1, d2] }
  | _ => none }
def fnExactScaleFracRow : OpenClaim := { program := "ytcamejkhbdahcaa", sum := "8e618212943809c00adeaf04c1bbfddacff700927b5fcd0dfb5b013f949c1e00", func := "loop.example/g00883/laws.FnExactScaleFrac", spec := "fnExactScaleFrac", apart := false }
def FnExactScaleFracSaid : Prop := fnExactScaleFracRow.holds Try.pinned (OpenSpec.ofChange fnExactScaleFracSpec)

/-- ITS FALSE NEIGHBOUR: 'it returns false'. Refute it at one input. -/
def fnExactScaleFracWrong : ChangeSpec := { name := "fnExactScaleFrac", fn := fun _ => fun
  | [d1, d2] => { results := [.lit (.bool false)], args := [d1, d2] }
  | _ => none }
def FnExactScaleFracWrongFalsely : Prop := fnExactScaleFracRow.holds Try.pinned (OpenSpec.ofChange fnExactScaleFracWrong)

/-- 'laws.FnExactAddFrac': WHATEVER THE INPUT: true; the input reads as it did. -/
def fnExactAddFracSpec : ChangeSpec := { name := "fnExactAddFrac", fn := fun _ => fun
  | [d1, d2] => { results := [.lit (.bool true)], args := [d1, d2] }
  | _ => none }
def fnExactAddFracRow : OpenClaim := { program := "ytcamejkhbdahcaa", sum := "8e618212943809c00adeaf04c1bbfddacff700927b5fcd0dfb5b013f949c1e00", func := "loop.example/g00883/laws.FnExactAddFrac", spec := "fnExactAddFrac", apart := false }
def FnExactAddFracSaid : Prop := fnExactAddFracRow.holds Try.pinned (OpenSpec.ofChange fnExactAddFracSpec)

/-- ITS FALSE NEIGHBOUR: 'it returns false'. Refute it at one input. -/
def fnExactAddFracWrong : ChangeSpec := { name := "fnExactAddFrac", fn := fun _ => fun
  | [d1, d2] => { results := [.lit (.bool false)], args := [d1, d2] }
  | _ => none }
def FnExactAddFracWrongFalsely : Prop := fnExactAddFracRow.holds Try.pinned (OpenSpec.ofChange fnExactAddFracWrong)

/-- 'laws.FnExactMulFrac': WHATEVER THE INPUT: true; the input reads as it did. -/
def fnExactMulFracSpec : ChangeSpec := { name := "fnExactMulFrac", fn := fun _ => fun
  | [d1, d2] => { results := [.lit (.bool true)], args := [d1, d2] }
  | _ => none }
def fnExactMulFracRow : OpenClaim := { program := "ytcamejkhbdahcaa", sum := "8e618212943809c00adeaf04c1bbfddacff700927b5fcd0dfb5b013f949c1e00", func := "loop.example/g00883/laws.FnExactMulFrac", spec := "fnExactMulFrac", apart := false }
def FnExactMulFracSaid : Prop := fnExactMulFracRow.holds Try.pinned (OpenSpec.ofChange fnExactMulFracSpec)

/-- ITS FALSE NEIGHBOUR: 'it returns false'. Refute it at one input. -/
def fnExactMulFracWrong : ChangeSpec := { name := "fnExactMulFrac", fn := fun _ => fun
  | [d1, d2] => { results := [.lit (.bool false)], args := [d1, d2] }
  | _ => none }
def FnExactMulFracWrongFalsely : Prop := fnExactMulFracRow.holds Try.pinned (OpenSpec.ofChange fnExactMulFracWrong)

/-- 'laws.FnExactSubFrac': WHATEVER THE INPUT: true; the input reads as it did. -/
def fnExactSubFracSpec : ChangeSpec := { name := "fnExactSubFrac", fn := fun _ => fun
  | [d1, d2] => { results := [.lit (.bool true)], args := [d1, d2] }
  | _ => none }
def fnExactSubFracRow : OpenClaim := { program := "ytcamejkhbdahcaa", sum := "8e618212943809c00adeaf04c1bbfddacff700927b5fcd0dfb5b013f949c1e00", func := "loop.example/g00883/laws.FnExactSubFrac", spec := "fnExactSubFrac", apart := false }
def FnExactSubFracSaid : Prop := fnExactSubFracRow.holds Try.pinned (OpenSpec.ofChange fnExactSubFracSpec)

/-- ITS FALSE NEIGHBOUR: 'it returns false'. Refute it at one input. -/
def fnExactSubFracWrong : ChangeSpec := { name := "fnExactSubFrac", fn := fun _ => fun
  | [d1, d2] => { results := [.lit (.bool false)], args := [d1, d2] }
  | _ => none }
def FnExactSubFracWrongFalsely : Prop := fnExactSubFracRow.holds Try.pinned (OpenSpec.ofChange fnExactSubFracWrong)

/-- 'laws.FnExactDivFrac': WHATEVER THE INPUT: true; the input reads as it did. -/
def fnExactDivFracSpec : ChangeSpec := { name := "fnExactDivFrac", fn := fun _ => fun
  | [d1, d2] => { results := [.lit (.bool true)], args := [d1, d2] }
  | _ => none }
def fnExactDivFracRow : OpenClaim := { program := "ytcamejkhbdahcaa", sum := "8e618212943809c00adeaf04c1bbfddacff700927b5fcd0dfb5b013f949c1e00", func := "loop.example/g00883/laws.FnExactDivFrac", spec := "fnExactDivFrac", apart := false }
def FnExactDivFracSaid : Prop := fnExactDivFracRow.holds Try.pinned (OpenSpec.ofChange fnExactDivFracSpec)

/-- ITS FALSE NEIGHBOUR: 'it returns false'. Refute it at one input. -/
def fnExactDivFracWrong : ChangeSpec := { name := "fnExactDivFrac", fn := fun _ => fun
  | [d1, d2] => { results := [.lit (.bool false)], args := [d1, d2] }
  | _ => none }
def FnExactDivFracWrongFalsely : Prop := fnExactDivFracRow.holds Try.pinned (OpenSpec.ofChange fnExactDivFracWrong)

/-- 'laws.FnExactMixFrac': WHATEVER THE INPUT: true; the input reads as it did. -/
def fnExactMixFracSpec : ChangeSpec := { name := "fnExactMixFrac", fn := fun _ => fun
  | [d1, d2, d3] => { results := [.lit (.bool true)], args := [d1, d2, d3] }
  | _ => none }
def fnExactMixFracRow : OpenClaim := { program := "ytcamejkhbdahcaa", sum := "8e618212943809c00adeaf04c1bbfddacff700927b5fcd0dfb5b013f949c1e00", func := "loop.example/g00883/laws.FnExactMixFrac", spec := "fnExactMixFrac", apart := false }
def FnExactMixFracSaid : Prop := fnExactMixFracRow.holds Try.pinned (OpenSpec.ofChange fnExactMixFracSpec)

/-- ITS FALSE NEIGHBOUR: 'it returns false'. Refute it at one input. -/
def fnExactMixFracWrong : ChangeSpec := { name := "fnExactMixFrac", fn := fun _ => fun
  | [d1, d2, d3] => { results := [.lit (.bool false)], args := [d1, d2, d3] }
  | _ => none }
def FnExactMixFracWrongFalsely : Prop := fnExactMixFracRow.holds Try.pinned (OpenSpec.ofChange fnExactMixFracWrong)

/-- 'laws.FnExactFracText': WHATEVER THE INPUT: true; the input reads as it did. -/
def fnExactFracTextSpec : ChangeSpec := { name := "fnExactFracText", fn := fun _ => fun
  | [d] => { results := [.lit (.bool true)], args := [d] }
  | _ => none }
def fnExactFracTextRow : OpenClaim := { program := "ytcamejkhbdahcaa", sum := "8e618212943809c00adeaf04c1bbfddacff700927b5fcd0dfb5b013f949c1e00", func := "loop.example/g00883/laws.FnExactFracText", spec := "fnExactFracText", apart := false }
def FnExactFracTextSaid : Prop := fnExactFracTextRow.holds Try.pinned (OpenSpec.ofChange fnExactFracTextSpec)

/-- ITS FALSE NEIGHBOUR: 'it returns false'. Refute it at one input. -/
def fnExactFracTextWrong : ChangeSpec := { name := "fnExactFracText", fn := fun _ => fun
  | [d] => { results := [.lit (.bool false)], args := [d] }
  | _ => none }
def FnExactFracTextWrongFalsely : Prop := fnExactFracTextRow.holds Try.pinned (OpenSpec.ofChange fnExactFracTextWrong)

/- THE SECOND FORM. 'bulk': how many values and letters a reading holds, each counted each time it is reached (what is shared counts as often as it is met; a slice's spare places count too). A statement '..UptoSaid' is the law's where the arguments, and the package variables that the reading takes, are together of bulk at most 1048576: NARROWER than '..Said'. Prove '..Said' where nothing that the law and all that it calls make is longer than what came in: it says more and counts as full. Else prove '..UptoSaid'. A law counts once. -/
mutual
def uptoBulk {H : Type} : DataW H → Nat
  | .lit (.string bytes) => bytes.length + 1
  | .lit _ => 1
  | .nil => 1
  | .ptr d => uptoBulk d + 1
  | .slice elems spare => uptoBulkAll elems + uptoBulkAll spare + 1
  | .agg parts => uptoBulkAll parts + 1
  | .iface _ d => uptoBulk d + 1
  | .map entries => uptoBulkEntries entries + 1
  | .held _ => 1
def uptoBulkAll {H : Type} : List (DataW H) → Nat
  | [] => 0
  | d :: r => uptoBulk d + uptoBulkAll r
def uptoBulkEntries {H : Type} : List (Lit × DataW H) → Nat
  | [] => 0
  | x :: r => uptoBulkEntry x + uptoBulkEntries r
def uptoBulkEntry {H : Type} : Lit × DataW H → Nat
  | (.string bytes, d) => bytes.length + uptoBulk d + 1
  | (_, d) => uptoBulk d + 1
 end
def uptoSmall : (H : Type) → List (DataW H) → Bool := fun _ ds => decide (uptoBulkAll ds ≤ 1048576)
def OpenSpec.upto (s : _root_.Go.ChangeSpec) : _root_.Go.OpenSpec := { _root_.Go.OpenSpec.ofChange s with cond := some uptoSmall }

/-- 'laws.FnExactValidFrac', WHERE WHAT IT READS IS OF BULK AT MOST 1048576: true; the input reads as it did. -/
def fnExactValidFracUptoRow : OpenClaim := { program := "ytcamejkhbdahcaa", sum := "8e618212943809c00adeaf04c1bbfddacff700927b5fcd0dfb5b013f949c1e00", func := "loop.example/g00883/laws.FnExactValidFrac", spec := "fnExactValidFrac", apart := false, narrowed := true }
def FnExactValidFracUptoSaid : Prop := fnExactValidFracUptoRow.holds Try.pinned (OpenSpec.upto fnExactValidFracSpec)

/-- 'laws.FnExactFloorFrac', WHERE WHAT IT READS IS OF BULK AT MOST 1048576: true; the input reads as it did. -/
def fnExactFloorFracUptoRow : OpenClaim := { program := "ytcamejkhbdahcaa", sum := "8e618212943809c00adeaf04c1bbfddacff700927b5fcd0dfb5b013f949c1e00", func := "loop.example/g00883/laws.FnExactFloorFrac", spec := "fnExactFloorFrac", apart := false, narrowed := true }
def FnExactFloorFracUptoSaid : Prop := fnExactFloorFracUptoRow.holds Try.pinned (OpenSpec.upto fnExactFloorFracSpec)

/-- 'laws.FnExactMakeFrac', WHERE WHAT IT READS IS OF BULK AT MOST 1048576: true; the input reads as it did. -/
def fnExactMakeFracUptoRow : OpenClaim := { program := "ytcamejkhbdahcaa", sum := "8e618212943809c00adeaf04c1bbfddacff700927b5fcd0dfb5b013f949c1e00", func := "loop.example/g00883/laws.FnExactMakeFrac", spec := "fnExactMakeFrac", apart := false, narrowed := true }
def FnExactMakeFracUptoSaid : Prop := fnExactMakeFracUptoRow.holds Try.pinned (OpenSpec.upto fnExactMakeFracSpec)

/-- 'laws.FnExactCompareFrac', WHERE WHAT IT READS IS OF BULK AT MOST 1048576: true; the input reads as it did. -/
def fnExactCompareFracUptoRow : OpenClaim := { program := "ytcamejkhbdahcaa", sum := "8e618212943809c00adeaf04c1bbfddacff700927b5fcd0dfb5b013f949c1e00", func := "loop.example/g00883/laws.FnExactCompareFrac", spec := "fnExactCompareFrac", apart := false, narrowed := true }
def FnExactCompareFracUptoSaid : Prop := fnExactCompareFracUptoRow.holds Try.pinned (OpenSpec.upto fnExactCompareFracSpec)

/-- 'laws.FnExactRoundFrac', WHERE WHAT IT READS IS OF BULK AT MOST 1048576: true; the input reads as it did. -/
def fnExactRoundFracUptoRow : OpenClaim := { program := "ytcamejkhbdahcaa", sum := "8e618212943809c00adeaf04c1bbfddacff700927b5fcd0dfb5b013f949c1e00", func := "loop.example/g00883/laws.FnExactRoundFrac", spec := "fnExactRoundFrac", apart := false, narrowed := true }
def FnExactRoundFracUptoSaid : Prop := fnExactRoundFracUptoRow.holds Try.pinned (OpenSpec.upto fnExactRoundFracSpec)

/-- 'laws.FnExactScaleFrac', WHERE WHAT IT READS IS OF BULK AT MOST 1048576: true; the input reads as it did. -/
def fnExactScaleFracUptoRow : OpenClaim := { program := "ytcamejkhbdahcaa", sum := "8e618212943809c00adeaf04c1bbfddacff700927b5fcd0dfb5b013f949c1e00", func := "loop.example/g00883/laws.FnExactScaleFrac", spec := "fnExactScaleFrac", apart := false, narrowed := true }
def FnExactScaleFracUptoSaid : Prop := fnExactScaleFracUptoRow.holds Try.pinned (OpenSpec.upto fnExactScaleFracSpec)

/-- 'laws.FnExactAddFrac', WHERE WHAT IT READS IS OF BULK AT MOST 1048576: true; the input reads as it did. -/
def fnExactAddFracUptoRow : OpenClaim := { program := "ytcamejkhbdahcaa", sum := "8e618212943809c00adeaf04c1bbfddacff700927b5fcd0dfb5b013f949c1e00", func := "loop.example/g00883/laws.FnExactAddFrac", spec := "fnExactAddFrac", apart := false, narrowed := true }
def FnExactAddFracUptoSaid : Prop := fnExactAddFracUptoRow.holds Try.pinned (OpenSpec.upto fnExactAddFracSpec)

/-- 'laws.FnExactMulFrac', WHERE WHAT IT READS IS OF BULK AT MOST 1048576: true; the input reads as it did. -/
def fnExactMulFracUptoRow : OpenClaim := { program := "ytcamejkhbdahcaa", sum := "8e618212943809c00adeaf04c1bbfddacff700927b5fcd0dfb5b013f949c1e00", func := "loop.example/g00883/laws.FnExactMulFrac", spec := "fnExactMulFrac", apart := false, narrowed := true }
def FnExactMulFracUptoSaid : Prop := fnExactMulFracUptoRow.holds Try.pinned (OpenSpec.upto fnExactMulFracSpec)

/-- 'laws.FnExactSubFrac', WHERE WHAT IT READS IS OF BULK AT MOST 1048576: true; the input reads as it did. -/
def fnExactSubFracUptoRow : OpenClaim := { program := "ytcamejkhbdahcaa", sum := "8e618212943809c00adeaf04c1bbfddacff700927b5fcd0dfb5b013f949c1e00", func := "loop.example/g00883/laws.FnExactSubFrac", spec := "fnExactSubFrac", apart := false, narrowed := true }
def FnExactSubFracUptoSaid : Prop := fnExactSubFracUptoRow.holds Try.pinned (OpenSpec.upto fnExactSubFracSpec)

/-- 'laws.FnExactDivFrac', WHERE WHAT IT READS IS OF BULK AT MOST 1048576: true; the input reads as it did. -/
def fnExactDivFracUptoRow : OpenClaim := { program := "ytcamejkhbdahcaa", sum := "8e618212943809c00adeaf04c1bbfddacff700927b5fcd0dfb5b013f949c1e00", func := "loop.example/g00883/laws.FnExactDivFrac", spec := "fnExactDivFrac", apart := false, narrowed := true }
def FnExactDivFracUptoSaid : Prop := fnExactDivFracUptoRow.holds Try.pinned (OpenSpec.upto fnExactDivFracSpec)

/-- 'laws.FnExactMixFrac', WHERE WHAT IT READS IS OF BULK AT MOST 1048576: true; the input reads as it did. -/
def fnExactMixFracUptoRow : OpenClaim := { program := "ytcamejkhbdahcaa", sum := "8e618212943809c00adeaf04c1bbfddacff700927b5fcd0dfb5b013f949c1e00", func := "loop.example/g00883/laws.FnExactMixFrac", spec := "fnExactMixFrac", apart := false, narrowed := true }
def FnExactMixFracUptoSaid : Prop := fnExactMixFracUptoRow.holds Try.pinned (OpenSpec.upto fnExactMixFracSpec)

/-- 'laws.FnExactFracText', WHERE WHAT IT READS IS OF BULK AT MOST 1048576: true; the input reads as it did. -/
def fnExactFracTextUptoRow : OpenClaim := { program := "ytcamejkhbdahcaa", sum := "8e618212943809c00adeaf04c1bbfddacff700927b5fcd0dfb5b013f949c1e00", func := "loop.example/g00883/laws.FnExactFracText", spec := "fnExactFracText", apart := false, narrowed := true }
def FnExactFracTextUptoSaid : Prop := fnExactFracTextUptoRow.holds Try.pinned (OpenSpec.upto fnExactFracTextSpec)

end Rows
end Go.Proofs.Ytcamejkhbdahcaa
