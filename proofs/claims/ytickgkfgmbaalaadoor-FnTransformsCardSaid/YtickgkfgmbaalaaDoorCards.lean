/-
  DERIVED. GIVEN WITH THE SEED: THE CARDS: each row of YtickgkfgmbaalaaDoorRows.lean that lists a variable, with what it lists TIED to the program's text (the seventh form; the later family's looks); each row that meets fmt, with fmt's text TOLD by the authors' own Lean function (tested against real Go, not proved from fmt's source: count such statements apart). THE CARD IS WHAT COUNTS. Prove the row's statement (the work); the ties are given (YtickgkfgmbaalaaDoorTie.lean); close each card by the builder's one call (the guide's Derived/Test/ToyasCard.lean, 'card_holds'). Laid BY PROGRAM, IN A SANDBOX (cutbox-door.mjs). By AI agents, Wed Nov 11 2026. No macro, syntax, notation, axiom, sorry.
-/
import Derived.Test.YtickgkfgmbaalaaDoorRows
import GoSem.ClaimSeven
namespace Go.Proofs.YtickgkfgmbaalaaDoor
namespace Rows

/-- THE TIED CARD OF 'laws.FnExactReadMap'. -/
def fnExactReadMapCard : Claim7 := { stood := { row := fnExactReadMapRow, standIns := [], harness := (true, "65cd69b48d8eb93b6f72e57bd674e37a98af51a0c6294fc3cba4f923656a0aa8"), looks := false }, kinds := [], alts := [], laidByText := true, laidKinds := [.data, .pinned], laidTests := true, laidLooks := .later }
def FnExactReadMapCardSaid : Prop := Claim7.holds Tryd.pinned (.plain (OpenSpec.ofChange fnExactReadMapSpec)) fnExactReadMapCard

/-- THE TIED CARD OF 'laws.FnTransforms'. -/
def fnTransformsCard : Claim7 := { stood := { row := fnTransformsRow, standIns := [], harness := (true, "65cd69b48d8eb93b6f72e57bd674e37a98af51a0c6294fc3cba4f923656a0aa8"), looks := false }, kinds := [], alts := [], laidByText := true, laidKinds := [.data, .pinned], laidTests := true, laidLooks := .later }
def FnTransformsCardSaid : Prop := Claim7.holds Tryd.pinned (.plain (OpenSpec.ofChange fnTransformsSpec)) fnTransformsCard

/-- THE SECOND FORM's CARD OF 'laws.FnExactReadMap'. -/
def fnExactReadMapUptoCard : Claim7 := { stood := { row := fnExactReadMapUptoRow, standIns := [], harness := (true, "65cd69b48d8eb93b6f72e57bd674e37a98af51a0c6294fc3cba4f923656a0aa8"), looks := false }, kinds := [], alts := [], laidByText := true, laidKinds := [.data, .pinned], laidTests := true, laidLooks := .later }
def FnExactReadMapUptoCardSaid : Prop := Claim7.holds Tryd.pinned (.plain (OpenSpec.upto fnExactReadMapSpec)) fnExactReadMapUptoCard

/-- THE SECOND FORM's CARD OF 'laws.FnTransforms'. -/
def fnTransformsUptoCard : Claim7 := { stood := { row := fnTransformsUptoRow, standIns := [], harness := (true, "65cd69b48d8eb93b6f72e57bd674e37a98af51a0c6294fc3cba4f923656a0aa8"), looks := false }, kinds := [], alts := [], laidByText := true, laidKinds := [.data, .pinned], laidTests := true, laidLooks := .later }
def FnTransformsUptoCardSaid : Prop := Claim7.holds Tryd.pinned (.plain (OpenSpec.upto fnTransformsSpec)) fnTransformsUptoCard
end Rows
end Go.Proofs.YtickgkfgmbaalaaDoor
