/-
  THE WALK OF laws.FnExactConstants: it answers true. Conditions: none.
-/
import Derived.Test.YtooflknjnklglaaRows
import Derived.WalkKit
namespace Go.Proofs.Ytooflknjnklglaa
open Go.RowKit
set_option maxHeartbeats 4000000 in
theorem fnConstants (w : World) : Calls Try.prog 3 #[] w fun e w' => e = .returned (.bool true) ∧ Below w.heap.size w w' := by
  go_enter Try.func3, Try.ntmps3
  go_wp2
  go_ret
  exact ⟨rfl, Below.refl _ _⟩
end Go.Proofs.Ytooflknjnklglaa
