/-
  No cell of these rows narrows 'for every input' (looked for: loops, veiled, ifaces, maps, wideKeys, modest, calm, conditions, laid).
  DERIVED. THE GIVEN ROWS OF THIS SEAT. 7 by the template 'for every input the law returns true; each argument reads behind the call as it read before'; 0 by the template 'total and deterministic' (their statements: YthojgmhionekbaaTotals.lean).
  GIVEN WITH THE SEED: the statements are not yours to turn. If you find one false, say at which input.
  Laid BY PROGRAM, IN A SANDBOX (cutbox-rows.mjs): the forced cells as the released guide's own fill.sh prints them over the translation e9021fd126e22b3e… (all of the seat's roots in one cut). By AI agents, Wed Nov 11 2026. No macro, syntax, notation, axiom, sorry.
-/
import Derived.Test.YthojgmhionekbaaChecked
import GoSem.Claim
import GoSem.ClaimJoined
import GoSem.ClaimMapViews
import Derived.JoinedTies
import Derived.KernelRfl
namespace Go.Proofs.Ythojgmhionekbaa
/- THE CELL 'sum', in the pinned program and in every row, IS THE sha256 OF THE DUMP (.gsa) THAT YthojgmhionekbaaProg.lean LOADS. Nothing in Lean hashes anything: it is a label: what it is worth is what the hold of that sum in a sandbox is worth. -/
noncomputable def Try.pinned : Pinned := { name := "ythojgmhionekbaa", sum := "e9021fd126e22b3e132db96456251c1812bbf36c454a184bc94e25e0c3ae7bb4", checked := Try.checked }
namespace Rows
def none {H : Type} : Left H := { results := [], args := [] }

/-- 'laws.FnExactSameLinear': WHATEVER THE INPUT: true; the input reads as it did. -/
def fnExactSameLinearSpec : ChangeSpec := { name := "fnExactSameLinear", fn := fun _ => fun
  | [d1, d2] => { results := [.lit (.bool true)], args := [d1, d2] }
  | _ => none }
def fnExactSameLinearRow : OpenClaim := { program := "ythojgmhionekbaa", sum := "e9021fd126e22b3e132db96456251c1812bbf36c454a184bc94e25e0c3ae7bb4", func := "loop.example/g00883/laws.FnExactSameLinear", spec := "fnExactSameLinear", apart := false }
def FnExactSameLinearSaid : Prop := fnExactSameLinearRow.holds Try.pinned (OpenSpec.ofChange fnExactSameLinearSpec)

/-- ITS FALSE NEIGHBOUR: 'it returns false'. Refute it at one input. -/
def fnExactSameLinearWrong : ChangeSpec := { name := "fnExactSameLinear", fn := fun _ => fun
  | [d1, d2] => { results := [.lit (.bool false)], args := [d1, d2] }
  | _ => none }
def FnExactSameLinearWrongFalsely : Prop := fnExactSameLinearRow.holds Try.pinned (OpenSpec.ofChange fnExactSameLinearWrong)

/-- 'laws.FnExactValidLinear': WHATEVER THE INPUT: true; the input reads as it did. -/
def fnExactValidLinearSpec : ChangeSpec := { name := "fnExactValidLinear", fn := fun _ => fun
  | [d] => { results := [.lit (.bool true)], args := [d] }
  | _ => none }
def fnExactValidLinearRow : OpenClaim := { program := "ythojgmhionekbaa", sum := "e9021fd126e22b3e132db96456251c1812bbf36c454a184bc94e25e0c3ae7bb4", func := "loop.example/g00883/laws.FnExactValidLinear", spec := "fnExactValidLinear", apart := false }
def FnExactValidLinearSaid : Prop := fnExactValidLinearRow.holds Try.pinned (OpenSpec.ofChange fnExactValidLinearSpec)

/-- ITS FALSE NEIGHBOUR: 'it returns false'. Refute it at one input. -/
def fnExactValidLinearWrong : ChangeSpec := { name := "fnExactValidLinear", fn := fun _ => fun
  | [d] => { results := [.lit (.bool false)], args := [d] }
  | _ => none }
def FnExactValidLinearWrongFalsely : Prop := fnExactValidLinearRow.holds Try.pinned (OpenSpec.ofChange fnExactValidLinearWrong)

/-- 'laws.FnExactSameSystem': WHATEVER THE INPUT: true; the input reads as it did. -/
def fnExactSameSystemSpec : ChangeSpec := { name := "fnExactSameSystem", fn := fun _ => fun
  | [d1, d2] => { results := [.lit (.bool true)], args := [d1, d2] }
  | _ => none }
def fnExactSameSystemRow : OpenClaim := { program := "ythojgmhionekbaa", sum := "e9021fd126e22b3e132db96456251c1812bbf36c454a184bc94e25e0c3ae7bb4", func := "loop.example/g00883/laws.FnExactSameSystem", spec := "fnExactSameSystem", unfollowed := true, recurses := true, apart := false }
def FnExactSameSystemSaid : Prop := fnExactSameSystemRow.holds Try.pinned (OpenSpec.ofChange fnExactSameSystemSpec)

/-- ITS FALSE NEIGHBOUR: 'it returns false'. Refute it at one input. -/
def fnExactSameSystemWrong : ChangeSpec := { name := "fnExactSameSystem", fn := fun _ => fun
  | [d1, d2] => { results := [.lit (.bool false)], args := [d1, d2] }
  | _ => none }
def FnExactSameSystemWrongFalsely : Prop := fnExactSameSystemRow.holds Try.pinned (OpenSpec.ofChange fnExactSameSystemWrong)

/-- 'laws.FnExactScaleLinear': WHATEVER THE INPUT: true; the input reads as it did. -/
def fnExactScaleLinearSpec : ChangeSpec := { name := "fnExactScaleLinear", fn := fun _ => fun
  | [d1, d2] => { results := [.lit (.bool true)], args := [d1, d2] }
  | _ => none }
def fnExactScaleLinearRow : OpenClaim := { program := "ythojgmhionekbaa", sum := "e9021fd126e22b3e132db96456251c1812bbf36c454a184bc94e25e0c3ae7bb4", func := "loop.example/g00883/laws.FnExactScaleLinear", spec := "fnExactScaleLinear", apart := false }
def FnExactScaleLinearSaid : Prop := fnExactScaleLinearRow.holds Try.pinned (OpenSpec.ofChange fnExactScaleLinearSpec)

/-- ITS FALSE NEIGHBOUR: 'it returns false'. Refute it at one input. -/
def fnExactScaleLinearWrong : ChangeSpec := { name := "fnExactScaleLinear", fn := fun _ => fun
  | [d1, d2] => { results := [.lit (.bool false)], args := [d1, d2] }
  | _ => none }
def FnExactScaleLinearWrongFalsely : Prop := fnExactScaleLinearRow.holds Try.pinned (OpenSpec.ofChange fnExactScaleLinearWrong)

/-- 'laws.FnExactValidSystem': WHATEVER THE INPUT: true; the input reads as it did. -/
def fnExactValidSystemSpec : ChangeSpec := { name := "fnExactValidSystem", fn := fun _ => fun
  | [d] => { results := [.lit (.bool true)], args := [d] }
  | _ => none }
def fnExactValidSystemRow : OpenClaim := { program := "ythojgmhionekbaa", sum := "e9021fd126e22b3e132db96456251c1812bbf36c454a184bc94e25e0c3ae7bb4", func := "loop.example/g00883/laws.FnExactValidSystem", spec := "fnExactValidSystem", inPlace := ["internal/bytealg.abigen_runtime_cmpstring"], unfollowed := true, recurses := true, apart := false }
def FnExactValidSystemSaid : Prop := fnExactValidSystemRow.holds Try.pinned (OpenSpec.ofChange fnExactValidSystemSpec)

/-- ITS FALSE NEIGHBOUR: 'it returns false'. Refute it at one input. -/
def fnExactValidSystemWrong : ChangeSpec := { name := "fnExactValidSystem", fn := fun _ => fun
  | [d] => { results := [.lit (.bool false)], args := [d] }
  | _ => none }
def FnExactValidSystemWrongFalsely : Prop := fnExactValidSystemRow.holds Try.pinned (OpenSpec.ofChange fnExactValidSystemWrong)

/-- 'laws.FnExactLinearText': WHATEVER THE INPUT: true; the input reads as it did. -/
def fnExactLinearTextSpec : ChangeSpec := { name := "fnExactLinearText", fn := fun _ => fun
  | [d] => { results := [.lit (.bool true)], args := [d] }
  | _ => none }
def fnExactLinearTextRow : OpenClaim := { program := "ythojgmhionekbaa", sum := "e9021fd126e22b3e132db96456251c1812bbf36c454a184bc94e25e0c3ae7bb4", func := "loop.example/g00883/laws.FnExactLinearText", spec := "fnExactLinearText", inPlace := ["internal/abi.NoEscape", "internal/bytealg.MakeNoZero"], apart := false }
def FnExactLinearTextSaid : Prop := fnExactLinearTextRow.holds Try.pinned (OpenSpec.ofChange fnExactLinearTextSpec)

/-- ITS FALSE NEIGHBOUR: 'it returns false'. Refute it at one input. -/
def fnExactLinearTextWrong : ChangeSpec := { name := "fnExactLinearText", fn := fun _ => fun
  | [d] => { results := [.lit (.bool false)], args := [d] }
  | _ => none }
def FnExactLinearTextWrongFalsely : Prop := fnExactLinearTextRow.holds Try.pinned (OpenSpec.ofChange fnExactLinearTextWrong)

/-- 'laws.FnExactValueOf': WHATEVER THE INPUT: true; the input reads as it did. -/
def fnExactValueOfSpec : ChangeSpec := { name := "fnExactValueOf", fn := fun _ => fun
  | [d1, d2] => { results := [.lit (.bool true)], args := [d1, d2] }
  | _ => none }
def fnExactValueOfRow : OpenClaim := { program := "ythojgmhionekbaa", sum := "e9021fd126e22b3e132db96456251c1812bbf36c454a184bc94e25e0c3ae7bb4", func := "loop.example/g00883/laws.FnExactValueOf", spec := "fnExactValueOf", inPlace := ["internal/bytealg.abigen_runtime_cmpstring"], unfollowed := true, recurses := true, apart := false }
def FnExactValueOfSaid : Prop := fnExactValueOfRow.holds Try.pinned (OpenSpec.ofChange fnExactValueOfSpec)

/-- ITS FALSE NEIGHBOUR: 'it returns false'. Refute it at one input. -/
def fnExactValueOfWrong : ChangeSpec := { name := "fnExactValueOf", fn := fun _ => fun
  | [d1, d2] => { results := [.lit (.bool false)], args := [d1, d2] }
  | _ => none }
def FnExactValueOfWrongFalsely : Prop := fnExactValueOfRow.holds Try.pinned (OpenSpec.ofChange fnExactValueOfWrong)

/- THE SECOND FORM. 'bulk': how many values and letters a reading holds, each counted each time it is reached (what is shared counts as often as it is met; a slice's spare places count too). A statement '..UptoSaid' is the law's where the arguments, and the package variables that the reading takes, are together of bulk at most 1048576: NARROWER than '..Said'. Prove '..Said' where nothing that the law and all that it calls make is longer than what came in: it says more and counts as full. Else prove '..UptoSaid'. A law counts once. -/
mutual
def uptoBulk {H : Type} : DataW H → Nat
  | .lit (.string bytes) => bytes.length + 1
  | .lit _ => 1
  | .nil => 1
  | .ptr d => uptoBulk d + 1
  | .slice elems spare => uptoBulkAll elems + uptoBulkAll spare + 1
  | .agg parts => uptoBulkAll parts + 1
  | .iface _ d => uptoBulk d + 1
  | .map entries => uptoBulkEntries entries + 1
  | .held _ => 1
def uptoBulkAll {H : Type} : List (DataW H) → Nat
  | [] => 0
  | d :: r => uptoBulk d + uptoBulkAll r
def uptoBulkEntries {H : Type} : List (Lit × DataW H) → Nat
  | [] => 0
  | x :: r => uptoBulkEntry x + uptoBulkEntries r
def uptoBulkEntry {H : Type} : Lit × DataW H → Nat
  | (.string bytes, d) => bytes.length + uptoBulk d + 1
  | (_, d) => uptoBulk d + 1
 end
def uptoSmall : (H : Type) → List (DataW H) → Bool := fun _ ds => decide (uptoBulkAll ds ≤ 1048576)
def OpenSpec.upto (s : _root_.Go.ChangeSpec) : _root_.Go.OpenSpec := { _root_.Go.OpenSpec.ofChange s with cond := some uptoSmall }

/-- 'laws.FnExactSameLinear', WHERE WHAT IT READS IS OF BULK AT MOST 1048576: true; the input reads as it did. -/
def fnExactSameLinearUptoRow : OpenClaim := { program := "ythojgmhionekbaa", sum := "e9021fd126e22b3e132db96456251c1812bbf36c454a184bc94e25e0c3ae7bb4", func := "loop.example/g00883/laws.FnExactSameLinear", spec := "fnExactSameLinear", apart := false, narrowed := true }
def FnExactSameLinearUptoSaid : Prop := fnExactSameLinearUptoRow.holds Try.pinned (OpenSpec.upto fnExactSameLinearSpec)

/-- 'laws.FnExactValidLinear', WHERE WHAT IT READS IS OF BULK AT MOST 1048576: true; the input reads as it did. -/
def fnExactValidLinearUptoRow : OpenClaim := { program := "ythojgmhionekbaa", sum := "e9021fd126e22b3e132db96456251c1812bbf36c454a184bc94e25e0c3ae7bb4", func := "loop.example/g00883/laws.FnExactValidLinear", spec := "fnExactValidLinear", apart := false, narrowed := true }
def FnExactValidLinearUptoSaid : Prop := fnExactValidLinearUptoRow.holds Try.pinned (OpenSpec.upto fnExactValidLinearSpec)

/-- 'laws.FnExactSameSystem', WHERE WHAT IT READS IS OF BULK AT MOST 1048576: true; the input reads as it did. -/
def fnExactSameSystemUptoRow : OpenClaim := { program := "ythojgmhionekbaa", sum := "e9021fd126e22b3e132db96456251c1812bbf36c454a184bc94e25e0c3ae7bb4", func := "loop.example/g00883/laws.FnExactSameSystem", spec := "fnExactSameSystem", unfollowed := true, recurses := true, apart := false, narrowed := true }
def FnExactSameSystemUptoSaid : Prop := fnExactSameSystemUptoRow.holds Try.pinned (OpenSpec.upto fnExactSameSystemSpec)

/-- 'laws.FnExactScaleLinear', WHERE WHAT IT READS IS OF BULK AT MOST 1048576: true; the input reads as it did. -/
def fnExactScaleLinearUptoRow : OpenClaim := { program := "ythojgmhionekbaa", sum := "e9021fd126e22b3e132db96456251c1812bbf36c454a184bc94e25e0c3ae7bb4", func := "loop.example/g00883/laws.FnExactScaleLinear", spec := "fnExactScaleLinear", apart := false, narrowed := true }
def FnExactScaleLinearUptoSaid : Prop := fnExactScaleLinearUptoRow.holds Try.pinned (OpenSpec.upto fnExactScaleLinearSpec)

/-- 'laws.FnExactValidSystem', WHERE WHAT IT READS IS OF BULK AT MOST 1048576: true; the input reads as it did. -/
def fnExactValidSystemUptoRow : OpenClaim := { program := "ythojgmhionekbaa", sum := "e9021fd126e22b3e132db96456251c1812bbf36c454a184bc94e25e0c3ae7bb4", func := "loop.example/g00883/laws.FnExactValidSystem", spec := "fnExactValidSystem", inPlace := ["internal/bytealg.abigen_runtime_cmpstring"], unfollowed := true, recurses := true, apart := false, narrowed := true }
def FnExactValidSystemUptoSaid : Prop := fnExactValidSystemUptoRow.holds Try.pinned (OpenSpec.upto fnExactValidSystemSpec)

/-- 'laws.FnExactLinearText', WHERE WHAT IT READS IS OF BULK AT MOST 1048576: true; the input reads as it did. -/
def fnExactLinearTextUptoRow : OpenClaim := { program := "ythojgmhionekbaa", sum := "e9021fd126e22b3e132db96456251c1812bbf36c454a184bc94e25e0c3ae7bb4", func := "loop.example/g00883/laws.FnExactLinearText", spec := "fnExactLinearText", inPlace := ["internal/abi.NoEscape", "internal/bytealg.MakeNoZero"], apart := false, narrowed := true }
def FnExactLinearTextUptoSaid : Prop := fnExactLinearTextUptoRow.holds Try.pinned (OpenSpec.upto fnExactLinearTextSpec)

/-- 'laws.FnExactValueOf', WHERE WHAT IT READS IS OF BULK AT MOST 1048576: true; the input reads as it did. -/
def fnExactValueOfUptoRow : OpenClaim := { program := "ythojgmhionekbaa", sum := "e9021fd126e22b3e132db96456251c1812bbf36c454a184bc94e25e0c3ae7bb4", func := "loop.example/g00883/laws.FnExactValueOf", spec := "fnExactValueOf", inPlace := ["internal/bytealg.abigen_runtime_cmpstring"], unfollowed := true, recurses := true, apart := false, narrowed := true }
def FnExactValueOfUptoSaid : Prop := fnExactValueOfUptoRow.holds Try.pinned (OpenSpec.upto fnExactValueOfSpec)

end Rows
end Go.Proofs.Ythojgmhionekbaa
