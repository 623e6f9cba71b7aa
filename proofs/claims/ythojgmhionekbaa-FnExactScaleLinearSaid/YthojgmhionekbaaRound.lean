/-
  CONTRACTS of the rounded quotients (impl.floorDiv, impl.DivRound, spec.l03Round, spec.DivRound): what each returns; the world stays. Conditions: the numbers are of 64 bits, the divisor of the helpers is positive.
-/
import Derived.Test.YthojgmhionekbaaBase
import Derived.Test.YthojgmhionekbaaMath
namespace Go.Proofs.Ythojgmhionekbaa
open Go.RowKit
set_option linter.unusedVariables false

end Go.Proofs.Ythojgmhionekbaa
