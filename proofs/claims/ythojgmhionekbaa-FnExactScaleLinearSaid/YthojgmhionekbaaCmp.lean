/-
  CONTRACTS of the comparison and the roundings of fractions (CompareFrac, FloorFrac, RoundFrac, ScaleFrac; packages impl and spec): what each returns at every fraction; no cell that was there is written. And the walks of their laws. Conditions: the numbers are of 64 bits.
-/
import Derived.Test.YthojgmhionekbaaOps
import Derived.Test.YthojgmhionekbaaRound
namespace Go.Proofs.Ythojgmhionekbaa
open Go.RowKit Go.Sort
set_option linter.unusedVariables false
attribute [local go_sem] cell_grow frozen_grow

/-- the sign of a number -/
def sgn (n : Int) : Int := if n < 0 then -1 else if 0 < n then 1 else 0
def cmpR (a b c d : Int) : Int := if okFr a b && okFr c d then sgn (a * d - c * b) else 0
def floorR (a b : Int) : Int := if okFr a b then a / b else 0
def roundR (a b : Int) : Int := if okFr a b then rnd a b else 0
def scaleR (n a b : Int) : Int := if okFr a b && inB n (-1073741824) 1073741824 then rnd (n * a) b else 0
def scaleC (n a b : Int) : Int := if okFr a b then (if inB n (-1073741824) 1073741824 then 0 else 2) else 1

end Go.Proofs.Ythojgmhionekbaa
