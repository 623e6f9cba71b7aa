/-
  No cell of these rows narrows 'for every input' (looked for: loops, veiled, ifaces, maps, wideKeys, modest, calm, conditions, laid).
  DERIVED. THE GIVEN ROWS OF THIS SEAT. 10 by the template 'for every input the law returns true; each argument reads behind the call as it read before'; 0 by the template 'total and deterministic' (their statements: YtickgkfgmbaalaaTotals.lean).
  GIVEN WITH THE SEED: the statements are not yours to turn. If you find one false, say at which input.
  Laid BY PROGRAM, IN A SANDBOX (cutbox-rows.mjs): the forced cells as the released guide's own fill.sh prints them over the translation 16dbb95cfbcd7436… (all of the seat's roots in one cut). By AI agents, Wed Nov 11 2026. No macro, syntax, notation, axiom, sorry.
-/
import Derived.Test.YtickgkfgmbaalaaChecked
import GoSem.Claim
import GoSem.ClaimJoined
import GoSem.ClaimMapViews
import Derived.JoinedTies
import Derived.KernelRfl
namespace Go.Proofs.Ytickgkfgmbaalaa
/- THE CELL 'sum', in the pinned program and in every row, IS THE sha256 OF THE DUMP (.gsa) THAT YtickgkfgmbaalaaProg.lean LOADS. Nothing in Lean hashes anything: it is a label: what it is worth is what the hold of that sum in a sandbox is worth. -/
noncomputable def Try.pinned : Pinned := { name := "ytickgkfgmbaalaa", sum := "16dbb95cfbcd7436fb6e66d65ea8d94ab300bc1f08516afe2eb62bbe08d40119", checked := Try.checked }
namespace Rows
def none {H : Type} : Left H := { results := [], args := [] }

/-- 'laws.FnExactQuarterMap': WHATEVER THE INPUT: true; the input reads as it did. -/
def fnExactQuarterMapSpec : ChangeSpec := { name := "fnExactQuarterMap", fn := fun _ => fun
  | [d] => { results := [.lit (.bool true)], args := [d] }
  | _ => none }
def fnExactQuarterMapRow : OpenClaim := { program := "ytickgkfgmbaalaa", sum := "16dbb95cfbcd7436fb6e66d65ea8d94ab300bc1f08516afe2eb62bbe08d40119", func := "loop.example/g00883/laws.FnExactQuarterMap", spec := "fnExactQuarterMap", apart := false }
def FnExactQuarterMapSaid : Prop := fnExactQuarterMapRow.holds Try.pinned (OpenSpec.ofChange fnExactQuarterMapSpec)

/-- ITS FALSE NEIGHBOUR: 'it returns false'. Refute it at one input. -/
def fnExactQuarterMapWrong : ChangeSpec := { name := "fnExactQuarterMap", fn := fun _ => fun
  | [d] => { results := [.lit (.bool false)], args := [d] }
  | _ => none }
def FnExactQuarterMapWrongFalsely : Prop := fnExactQuarterMapRow.holds Try.pinned (OpenSpec.ofChange fnExactQuarterMapWrong)

/-- 'laws.FnExactValidAffine': WHATEVER THE INPUT: true; the input reads as it did. -/
def fnExactValidAffineSpec : ChangeSpec := { name := "fnExactValidAffine", fn := fun _ => fun
  | [d] => { results := [.lit (.bool true)], args := [d] }
  | _ => none }
def fnExactValidAffineRow : OpenClaim := { program := "ytickgkfgmbaalaa", sum := "16dbb95cfbcd7436fb6e66d65ea8d94ab300bc1f08516afe2eb62bbe08d40119", func := "loop.example/g00883/laws.FnExactValidAffine", spec := "fnExactValidAffine", apart := false }
def FnExactValidAffineSaid : Prop := fnExactValidAffineRow.holds Try.pinned (OpenSpec.ofChange fnExactValidAffineSpec)

/-- ITS FALSE NEIGHBOUR: 'it returns false'. Refute it at one input. -/
def fnExactValidAffineWrong : ChangeSpec := { name := "fnExactValidAffine", fn := fun _ => fun
  | [d] => { results := [.lit (.bool false)], args := [d] }
  | _ => none }
def FnExactValidAffineWrongFalsely : Prop := fnExactValidAffineRow.holds Try.pinned (OpenSpec.ofChange fnExactValidAffineWrong)

/-- 'laws.FnExactSlantMap': WHATEVER THE INPUT: true; the input reads as it did. -/
def fnExactSlantMapSpec : ChangeSpec := { name := "fnExactSlantMap", fn := fun _ => fun
  | [d] => { results := [.lit (.bool true)], args := [d] }
  | _ => none }
def fnExactSlantMapRow : OpenClaim := { program := "ytickgkfgmbaalaa", sum := "16dbb95cfbcd7436fb6e66d65ea8d94ab300bc1f08516afe2eb62bbe08d40119", func := "loop.example/g00883/laws.FnExactSlantMap", spec := "fnExactSlantMap", apart := false }
def FnExactSlantMapSaid : Prop := fnExactSlantMapRow.holds Try.pinned (OpenSpec.ofChange fnExactSlantMapSpec)

/-- ITS FALSE NEIGHBOUR: 'it returns false'. Refute it at one input. -/
def fnExactSlantMapWrong : ChangeSpec := { name := "fnExactSlantMap", fn := fun _ => fun
  | [d] => { results := [.lit (.bool false)], args := [d] }
  | _ => none }
def FnExactSlantMapWrongFalsely : Prop := fnExactSlantMapRow.holds Try.pinned (OpenSpec.ofChange fnExactSlantMapWrong)

/-- 'laws.FnExactMoveMap': WHATEVER THE INPUT: true; the input reads as it did. -/
def fnExactMoveMapSpec : ChangeSpec := { name := "fnExactMoveMap", fn := fun _ => fun
  | [d1, d2] => { results := [.lit (.bool true)], args := [d1, d2] }
  | _ => none }
def fnExactMoveMapRow : OpenClaim := { program := "ytickgkfgmbaalaa", sum := "16dbb95cfbcd7436fb6e66d65ea8d94ab300bc1f08516afe2eb62bbe08d40119", func := "loop.example/g00883/laws.FnExactMoveMap", spec := "fnExactMoveMap", apart := false }
def FnExactMoveMapSaid : Prop := fnExactMoveMapRow.holds Try.pinned (OpenSpec.ofChange fnExactMoveMapSpec)

/-- ITS FALSE NEIGHBOUR: 'it returns false'. Refute it at one input. -/
def fnExactMoveMapWrong : ChangeSpec := { name := "fnExactMoveMap", fn := fun _ => fun
  | [d1, d2] => { results := [.lit (.bool false)], args := [d1, d2] }
  | _ => none }
def FnExactMoveMapWrongFalsely : Prop := fnExactMoveMapRow.holds Try.pinned (OpenSpec.ofChange fnExactMoveMapWrong)

/-- 'laws.FnExactScaleMap': WHATEVER THE INPUT: true; the input reads as it did. -/
def fnExactScaleMapSpec : ChangeSpec := { name := "fnExactScaleMap", fn := fun _ => fun
  | [d1, d2] => { results := [.lit (.bool true)], args := [d1, d2] }
  | _ => none }
def fnExactScaleMapRow : OpenClaim := { program := "ytickgkfgmbaalaa", sum := "16dbb95cfbcd7436fb6e66d65ea8d94ab300bc1f08516afe2eb62bbe08d40119", func := "loop.example/g00883/laws.FnExactScaleMap", spec := "fnExactScaleMap", apart := false }
def FnExactScaleMapSaid : Prop := fnExactScaleMapRow.holds Try.pinned (OpenSpec.ofChange fnExactScaleMapSpec)

/-- ITS FALSE NEIGHBOUR: 'it returns false'. Refute it at one input. -/
def fnExactScaleMapWrong : ChangeSpec := { name := "fnExactScaleMap", fn := fun _ => fun
  | [d1, d2] => { results := [.lit (.bool false)], args := [d1, d2] }
  | _ => none }
def FnExactScaleMapWrongFalsely : Prop := fnExactScaleMapRow.holds Try.pinned (OpenSpec.ofChange fnExactScaleMapWrong)

/-- 'laws.FnExactDeterminantOf': WHATEVER THE INPUT: true; the input reads as it did. -/
def fnExactDeterminantOfSpec : ChangeSpec := { name := "fnExactDeterminantOf", fn := fun _ => fun
  | [d] => { results := [.lit (.bool true)], args := [d] }
  | _ => none }
def fnExactDeterminantOfRow : OpenClaim := { program := "ytickgkfgmbaalaa", sum := "16dbb95cfbcd7436fb6e66d65ea8d94ab300bc1f08516afe2eb62bbe08d40119", func := "loop.example/g00883/laws.FnExactDeterminantOf", spec := "fnExactDeterminantOf", unfollowed := true, recurses := true, apart := false }
def FnExactDeterminantOfSaid : Prop := fnExactDeterminantOfRow.holds Try.pinned (OpenSpec.ofChange fnExactDeterminantOfSpec)

/-- ITS FALSE NEIGHBOUR: 'it returns false'. Refute it at one input. -/
def fnExactDeterminantOfWrong : ChangeSpec := { name := "fnExactDeterminantOf", fn := fun _ => fun
  | [d] => { results := [.lit (.bool false)], args := [d] }
  | _ => none }
def FnExactDeterminantOfWrongFalsely : Prop := fnExactDeterminantOfRow.holds Try.pinned (OpenSpec.ofChange fnExactDeterminantOfWrong)

/-- 'laws.FnExactThenMap': WHATEVER THE INPUT: true; the input reads as it did. -/
def fnExactThenMapSpec : ChangeSpec := { name := "fnExactThenMap", fn := fun _ => fun
  | [d1, d2] => { results := [.lit (.bool true)], args := [d1, d2] }
  | _ => none }
def fnExactThenMapRow : OpenClaim := { program := "ytickgkfgmbaalaa", sum := "16dbb95cfbcd7436fb6e66d65ea8d94ab300bc1f08516afe2eb62bbe08d40119", func := "loop.example/g00883/laws.FnExactThenMap", spec := "fnExactThenMap", unfollowed := true, recurses := true, apart := false }
def FnExactThenMapSaid : Prop := fnExactThenMapRow.holds Try.pinned (OpenSpec.ofChange fnExactThenMapSpec)

/-- ITS FALSE NEIGHBOUR: 'it returns false'. Refute it at one input. -/
def fnExactThenMapWrong : ChangeSpec := { name := "fnExactThenMap", fn := fun _ => fun
  | [d1, d2] => { results := [.lit (.bool false)], args := [d1, d2] }
  | _ => none }
def FnExactThenMapWrongFalsely : Prop := fnExactThenMapRow.holds Try.pinned (OpenSpec.ofChange fnExactThenMapWrong)

/-- 'laws.FnExactApplyMap': WHATEVER THE INPUT: true; the input reads as it did. -/
def fnExactApplyMapSpec : ChangeSpec := { name := "fnExactApplyMap", fn := fun _ => fun
  | [d1, d2] => { results := [.lit (.bool true)], args := [d1, d2] }
  | _ => none }
def fnExactApplyMapRow : OpenClaim := { program := "ytickgkfgmbaalaa", sum := "16dbb95cfbcd7436fb6e66d65ea8d94ab300bc1f08516afe2eb62bbe08d40119", func := "loop.example/g00883/laws.FnExactApplyMap", spec := "fnExactApplyMap", unfollowed := true, recurses := true, apart := false }
def FnExactApplyMapSaid : Prop := fnExactApplyMapRow.holds Try.pinned (OpenSpec.ofChange fnExactApplyMapSpec)

/-- ITS FALSE NEIGHBOUR: 'it returns false'. Refute it at one input. -/
def fnExactApplyMapWrong : ChangeSpec := { name := "fnExactApplyMap", fn := fun _ => fun
  | [d1, d2] => { results := [.lit (.bool false)], args := [d1, d2] }
  | _ => none }
def FnExactApplyMapWrongFalsely : Prop := fnExactApplyMapRow.holds Try.pinned (OpenSpec.ofChange fnExactApplyMapWrong)

/-- 'laws.FnExactInvertMap': WHATEVER THE INPUT: true; the input reads as it did. -/
def fnExactInvertMapSpec : ChangeSpec := { name := "fnExactInvertMap", fn := fun _ => fun
  | [d] => { results := [.lit (.bool true)], args := [d] }
  | _ => none }
def fnExactInvertMapRow : OpenClaim := { program := "ytickgkfgmbaalaa", sum := "16dbb95cfbcd7436fb6e66d65ea8d94ab300bc1f08516afe2eb62bbe08d40119", func := "loop.example/g00883/laws.FnExactInvertMap", spec := "fnExactInvertMap", unfollowed := true, recurses := true, apart := false }
def FnExactInvertMapSaid : Prop := fnExactInvertMapRow.holds Try.pinned (OpenSpec.ofChange fnExactInvertMapSpec)

/-- ITS FALSE NEIGHBOUR: 'it returns false'. Refute it at one input. -/
def fnExactInvertMapWrong : ChangeSpec := { name := "fnExactInvertMap", fn := fun _ => fun
  | [d] => { results := [.lit (.bool false)], args := [d] }
  | _ => none }
def FnExactInvertMapWrongFalsely : Prop := fnExactInvertMapRow.holds Try.pinned (OpenSpec.ofChange fnExactInvertMapWrong)

/-- 'laws.FnExactMapText': WHATEVER THE INPUT: true; the input reads as it did. -/
def fnExactMapTextSpec : ChangeSpec := { name := "fnExactMapText", fn := fun _ => fun
  | [d] => { results := [.lit (.bool true)], args := [d] }
  | _ => none }
def fnExactMapTextRow : OpenClaim := { program := "ytickgkfgmbaalaa", sum := "16dbb95cfbcd7436fb6e66d65ea8d94ab300bc1f08516afe2eb62bbe08d40119", func := "loop.example/g00883/laws.FnExactMapText", spec := "fnExactMapText", inPlace := ["internal/abi.NoEscape", "internal/bytealg.MakeNoZero"], apart := false }
def FnExactMapTextSaid : Prop := fnExactMapTextRow.holds Try.pinned (OpenSpec.ofChange fnExactMapTextSpec)

/-- ITS FALSE NEIGHBOUR: 'it returns false'. Refute it at one input. -/
def fnExactMapTextWrong : ChangeSpec := { name := "fnExactMapText", fn := fun _ => fun
  | [d] => { results := [.lit (.bool false)], args := [d] }
  | _ => none }
def FnExactMapTextWrongFalsely : Prop := fnExactMapTextRow.holds Try.pinned (OpenSpec.ofChange fnExactMapTextWrong)

/- THE SECOND FORM. 'bulk': how many values and letters a reading holds, each counted each time it is reached (what is shared counts as often as it is met; a slice's spare places count too). A statement '..UptoSaid' is the law's where the arguments, and the package variables that the reading takes, are together of bulk at most 1048576: NARROWER than '..Said'. Prove '..Said' where nothing that the law and all that it calls make is longer than what came in: it says more and counts as full. Else prove '..UptoSaid'. A law counts once. -/
mutual
def uptoBulk {H : Type} : DataW H → Nat
  | .lit (.string bytes) => bytes.length + 1
  | .lit _ => 1
  | .nil => 1
  | .ptr d => uptoBulk d + 1
  | .slice elems spare => uptoBulkAll elems + uptoBulkAll spare + 1
  | .agg parts => uptoBulkAll parts + 1
  | .iface _ d => uptoBulk d + 1
  | .map entries => uptoBulkEntries entries + 1
  | .held _ => 1
def uptoBulkAll {H : Type} : List (DataW H) → Nat
  | [] => 0
  | d :: r => uptoBulk d + uptoBulkAll r
def uptoBulkEntries {H : Type} : List (Lit × DataW H) → Nat
  | [] => 0
  | x :: r => uptoBulkEntry x + uptoBulkEntries r
def uptoBulkEntry {H : Type} : Lit × DataW H → Nat
  | (.string bytes, d) => bytes.length + uptoBulk d + 1
  | (_, d) => uptoBulk d + 1
 end
def uptoSmall : (H : Type) → List (DataW H) → Bool := fun _ ds => decide (uptoBulkAll ds ≤ 1048576)
def OpenSpec.upto (s : _root_.Go.ChangeSpec) : _root_.Go.OpenSpec := { _root_.Go.OpenSpec.ofChange s with cond := some uptoSmall }

/-- 'laws.FnExactQuarterMap', WHERE WHAT IT READS IS OF BULK AT MOST 1048576: true; the input reads as it did. -/
def fnExactQuarterMapUptoRow : OpenClaim := { program := "ytickgkfgmbaalaa", sum := "16dbb95cfbcd7436fb6e66d65ea8d94ab300bc1f08516afe2eb62bbe08d40119", func := "loop.example/g00883/laws.FnExactQuarterMap", spec := "fnExactQuarterMap", apart := false, narrowed := true }
def FnExactQuarterMapUptoSaid : Prop := fnExactQuarterMapUptoRow.holds Try.pinned (OpenSpec.upto fnExactQuarterMapSpec)

/-- 'laws.FnExactValidAffine', WHERE WHAT IT READS IS OF BULK AT MOST 1048576: true; the input reads as it did. -/
def fnExactValidAffineUptoRow : OpenClaim := { program := "ytickgkfgmbaalaa", sum := "16dbb95cfbcd7436fb6e66d65ea8d94ab300bc1f08516afe2eb62bbe08d40119", func := "loop.example/g00883/laws.FnExactValidAffine", spec := "fnExactValidAffine", apart := false, narrowed := true }
def FnExactValidAffineUptoSaid : Prop := fnExactValidAffineUptoRow.holds Try.pinned (OpenSpec.upto fnExactValidAffineSpec)

/-- 'laws.FnExactSlantMap', WHERE WHAT IT READS IS OF BULK AT MOST 1048576: true; the input reads as it did. -/
def fnExactSlantMapUptoRow : OpenClaim := { program := "ytickgkfgmbaalaa", sum := "16dbb95cfbcd7436fb6e66d65ea8d94ab300bc1f08516afe2eb62bbe08d40119", func := "loop.example/g00883/laws.FnExactSlantMap", spec := "fnExactSlantMap", apart := false, narrowed := true }
def FnExactSlantMapUptoSaid : Prop := fnExactSlantMapUptoRow.holds Try.pinned (OpenSpec.upto fnExactSlantMapSpec)

/-- 'laws.FnExactMoveMap', WHERE WHAT IT READS IS OF BULK AT MOST 1048576: true; the input reads as it did. -/
def fnExactMoveMapUptoRow : OpenClaim := { program := "ytickgkfgmbaalaa", sum := "16dbb95cfbcd7436fb6e66d65ea8d94ab300bc1f08516afe2eb62bbe08d40119", func := "loop.example/g00883/laws.FnExactMoveMap", spec := "fnExactMoveMap", apart := false, narrowed := true }
def FnExactMoveMapUptoSaid : Prop := fnExactMoveMapUptoRow.holds Try.pinned (OpenSpec.upto fnExactMoveMapSpec)

/-- 'laws.FnExactScaleMap', WHERE WHAT IT READS IS OF BULK AT MOST 1048576: true; the input reads as it did. -/
def fnExactScaleMapUptoRow : OpenClaim := { program := "ytickgkfgmbaalaa", sum := "16dbb95cfbcd7436fb6e66d65ea8d94ab300bc1f08516afe2eb62bbe08d40119", func := "loop.example/g00883/laws.FnExactScaleMap", spec := "fnExactScaleMap", apart := false, narrowed := true }
def FnExactScaleMapUptoSaid : Prop := fnExactScaleMapUptoRow.holds Try.pinned (OpenSpec.upto fnExactScaleMapSpec)

/-- 'laws.FnExactDeterminantOf', WHERE WHAT IT READS IS OF BULK AT MOST 1048576: true; the input reads as it did. -/
def fnExactDeterminantOfUptoRow : OpenClaim := { program := "ytickgkfgmbaalaa", sum := "16dbb95cfbcd7436fb6e66d65ea8d94ab300bc1f08516afe2eb62bbe08d40119", func := "loop.example/g00883/laws.FnExactDeterminantOf", spec := "fnExactDeterminantOf", unfollowed := true, recurses := true, apart := false, narrowed := true }
def FnExactDeterminantOfUptoSaid : Prop := fnExactDeterminantOfUptoRow.holds Try.pinned (OpenSpec.upto fnExactDeterminantOfSpec)

/-- 'laws.FnExactThenMap', WHERE WHAT IT READS IS OF BULK AT MOST 1048576: true; the input reads as it did. -/
def fnExactThenMapUptoRow : OpenClaim := { program := "ytickgkfgmbaalaa", sum := "16dbb95cfbcd7436fb6e66d65ea8d94ab300bc1f08516afe2eb62bbe08d40119", func := "loop.example/g00883/laws.FnExactThenMap", spec := "fnExactThenMap", unfollowed := true, recurses := true, apart := false, narrowed := true }
def FnExactThenMapUptoSaid : Prop := fnExactThenMapUptoRow.holds Try.pinned (OpenSpec.upto fnExactThenMapSpec)

/-- 'laws.FnExactApplyMap', WHERE WHAT IT READS IS OF BULK AT MOST 1048576: true; the input reads as it did. -/
def fnExactApplyMapUptoRow : OpenClaim := { program := "ytickgkfgmbaalaa", sum := "16dbb95cfbcd7436fb6e66d65ea8d94ab300bc1f08516afe2eb62bbe08d40119", func := "loop.example/g00883/laws.FnExactApplyMap", spec := "fnExactApplyMap", unfollowed := true, recurses := true, apart := false, narrowed := true }
def FnExactApplyMapUptoSaid : Prop := fnExactApplyMapUptoRow.holds Try.pinned (OpenSpec.upto fnExactApplyMapSpec)

/-- 'laws.FnExactInvertMap', WHERE WHAT IT READS IS OF BULK AT MOST 1048576: true; the input reads as it did. -/
def fnExactInvertMapUptoRow : OpenClaim := { program := "ytickgkfgmbaalaa", sum := "16dbb95cfbcd7436fb6e66d65ea8d94ab300bc1f08516afe2eb62bbe08d40119", func := "loop.example/g00883/laws.FnExactInvertMap", spec := "fnExactInvertMap", unfollowed := true, recurses := true, apart := false, narrowed := true }
def FnExactInvertMapUptoSaid : Prop := fnExactInvertMapUptoRow.holds Try.pinned (OpenSpec.upto fnExactInvertMapSpec)

/-- 'laws.FnExactMapText', WHERE WHAT IT READS IS OF BULK AT MOST 1048576: true; the input reads as it did. -/
def fnExactMapTextUptoRow : OpenClaim := { program := "ytickgkfgmbaalaa", sum := "16dbb95cfbcd7436fb6e66d65ea8d94ab300bc1f08516afe2eb62bbe08d40119", func := "loop.example/g00883/laws.FnExactMapText", spec := "fnExactMapText", inPlace := ["internal/abi.NoEscape", "internal/bytealg.MakeNoZero"], apart := false, narrowed := true }
def FnExactMapTextUptoSaid : Prop := fnExactMapTextUptoRow.holds Try.pinned (OpenSpec.upto fnExactMapTextSpec)

end Rows
end Go.Proofs.Ytickgkfgmbaalaa
