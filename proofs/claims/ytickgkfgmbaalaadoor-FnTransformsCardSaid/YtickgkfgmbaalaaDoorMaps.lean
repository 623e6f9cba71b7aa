/-
  DEFINITIONS: fractions as pairs, maps of the plane, and what the functions on them compute. No program in sight.
-/
import Derived.Test.YtickgkfgmbaalaaDoorMix
import Derived.Test.YtickgkfgmbaalaaDoorCmp
namespace Go.Proofs.YtickgkfgmbaalaaDoor
open Go.RowKit
set_option linter.unusedVariables false

abbrev F2 := Int × Int
def okF (p : F2) : Bool := okFr p.1 p.2
def addF (p q : F2) : F2 := (addN p.1 p.2 q.1 q.2, addD p.1 p.2 q.1 q.2)
def addK (p q : F2) : Int := addC p.1 p.2 q.1 q.2
def mulF (p q : F2) : F2 := (mulN p.1 p.2 q.1 q.2, mulD p.1 p.2 q.1 q.2)
def mulK (p q : F2) : Int := mulC p.1 p.2 q.1 q.2
def divF (p q : F2) : F2 := (divN p.1 p.2 q.1 q.2, divD p.1 p.2 q.1 q.2)
def divK (p q : F2) : Int := divC p.1 p.2 q.1 q.2
def negF (p : F2) : F2 := (-p.1, p.2)
/-- a * b + c * d -/
def dotF (a b c d : F2) : F2 := addF (mulF a b) (mulF c d)
def dotG (a b c d : F2) : Bool := decide (mulK a b = 0) && decide (mulK c d = 0) && decide (addK (mulF a b) (mulF c d) = 0)
/-- a * b + c * d + e -/
def movF (a b c d e : F2) : F2 := addF (dotF a b c d) e
def movG (a b c d e : F2) : Bool := dotG a b c d && decide (addK (dotF a b c d) e = 0)
structure Af where
  xx : F2
  xy : F2
  yx : F2
  yy : F2
  dx : F2
  dy : F2
  deriving DecidableEq
def okAf (m : Af) : Bool := okF m.xx && okF m.xy && okF m.yx && okF m.yy && okF m.dx && okF m.dy
def thenF (a b : Af) : Af := ⟨dotF b.xx a.xx b.xy a.yx, dotF b.xx a.xy b.xy a.yy, dotF b.yx a.xx b.yy a.yx, dotF b.yx a.xy b.yy a.yy, movF b.xx a.dx b.xy a.dy b.dx, movF b.yx a.dx b.yy a.dy b.dy⟩
def thenG (a b : Af) : Bool := dotG b.xx a.xx b.xy a.yx && dotG b.xx a.xy b.xy a.yy && dotG b.yx a.xx b.yy a.yx && dotG b.yx a.xy b.yy a.yy && movG b.xx a.dx b.xy a.dy b.dx && movG b.yx a.dx b.yy a.dy b.dy
def detF (m : Af) : F2 := dotF m.xx m.yy (negF m.xy) m.yx
def detG (m : Af) : Bool := dotG m.xx m.yy (negF m.xy) m.yx
def invF (m : Af) : Af := ⟨divF m.yy (detF m), divF (negF m.xy) (detF m), divF (negF m.yx) (detF m), divF m.xx (detF m), negF (dotF (divF m.yy (detF m)) m.dx (divF (negF m.xy) (detF m)) m.dy), negF (dotF (divF (negF m.yx) (detF m)) m.dx (divF m.xx (detF m)) m.dy)⟩
def invG (m : Af) : Bool := detG m && decide (¬ (detF m).1 = 0) && decide (divK m.yy (detF m) = 0) && decide (divK (negF m.xy) (detF m) = 0) && decide (divK (negF m.yx) (detF m) = 0) && decide (divK m.xx (detF m) = 0) &&
  dotG (divF m.yy (detF m)) m.dx (divF (negF m.xy) (detF m)) m.dy && dotG (divF (negF m.yx) (detF m)) m.dx (divF m.xx (detF m)) m.dy
def quarterC (k : Int) : Int := if k % 4 = 0 then 1 else if k % 4 = 2 then -1 else 0
def quarterS (k : Int) : Int := if k % 4 = 1 then 1 else if k % 4 = 3 then -1 else 0
def quarter (k : Int) : Af := ⟨(quarterC k, 1), (-(quarterS k), 1), (quarterS k, 1), (quarterC k, 1), (0, 1), (0, 1)⟩
def qF (p : F2) : Rat := (p.1 : Rat) / (p.2 : Rat)
end Go.Proofs.YtickgkfgmbaalaaDoor
