/-
  PLAIN LAW of meeting segments: the program's way (signs of turns; the order of points on a line) and the reference's way (the ends that lie on both) find the same kind and the same common point. No program in sight. Conditions: the coordinates are those of valid points.
-/
import Derived.Test.YthellegojnndlaaMath
namespace Go.Proofs.Ythellegojnndlaa
open Go.RowKit
set_option linter.unusedVariables false

/-- twice the signed area -/
def tn (ax ay bx by_ cx cy : Int) : Int := (bx - ax) * (cy - ay) - (by_ - ay) * (cx - ax)
/-- two vectors along a third one that is not zero are along each other -/
theorem cross_trans {ux uy vx vy wx wy : Int} (h1 : ux * vy = uy * vx) (h2 : ux * wy = uy * wx) (h0 : ux ≠ 0 ∨ uy ≠ 0) : vx * wy = vy * wx := by
  rcases h0 with h0 | h0
  · refine Int.eq_of_mul_eq_mul_left h0 ?_
    have e1 : ux * (vx * wy) = vx * (ux * wy) := by rw [← Int.mul_assoc, Int.mul_comm ux vx, Int.mul_assoc]
    have e2 : ux * (vy * wx) = (ux * vy) * wx := by rw [Int.mul_assoc]
    rw [e1, e2, h1, h2, ← Int.mul_assoc, Int.mul_comm vx uy]
  · refine Int.eq_of_mul_eq_mul_left h0 ?_
    have e1 : uy * (vx * wy) = (uy * vx) * wy := by rw [Int.mul_assoc]
    have e2 : uy * (vy * wx) = vy * (uy * wx) := by rw [← Int.mul_assoc, Int.mul_comm uy vy, Int.mul_assoc]
    rw [e1, e2, ← h1, ← h2, Int.mul_assoc, ← Int.mul_assoc vy ux, Int.mul_comm vy ux, Int.mul_assoc]
end Go.Proofs.Ythellegojnndlaa
