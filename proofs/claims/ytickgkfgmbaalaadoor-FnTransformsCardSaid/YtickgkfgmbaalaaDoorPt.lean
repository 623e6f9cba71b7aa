/-
  CONTRACTS of the functions on points and on bounds (packages spec, impl, laws): what each returns at every argument; no cell that was there is written. Conditions: none.
-/
import Derived.Test.YtickgkfgmbaalaaDoorBase
namespace Go.Proofs.YtickgkfgmbaalaaDoor
open Go.RowKit
set_option linter.unusedVariables false

/-- b ≤ a ≤ c -/
def inB (a b c : Int) : Bool := decide (b ≤ a ∧ a ≤ c)
theorem inB_t {a b c : Int} (h : inB a b c = true) : b ≤ a ∧ a ≤ c := of_decide_eq_true h
theorem inB_f {a b c : Int} (h : inB a b c = false) : ¬ (b ≤ a ∧ a ≤ c) := of_decide_eq_false h
/-- a valid point -/
def okPt (x y : Int) : Bool := decide (-262144 ≤ x ∧ x ≤ 262144 ∧ -262144 ≤ y ∧ y ≤ 262144)
theorem okPt_t {x y : Int} (h : okPt x y = true) : -262144 ≤ x ∧ x ≤ 262144 ∧ -262144 ≤ y ∧ y ≤ 262144 := of_decide_eq_true h

set_option maxHeartbeats 400000 in
theorem l00In_any (a b c : Int) (w : World) : Calls Tryd.prog 67 #[.int .i64 a, .int .i64 b, .int .i64 c] w fun e w' => e = .returned (.bool (inB a b c)) ∧ w = w' := by
  go_enter Tryd.func67, Tryd.ntmps67
  go_wp2
  all_goals
    go_ret
    exact ⟨ret_bool (by unfold inB; rw [Bool.eq_iff_iff]; simp; try omega), rfl⟩
set_option maxHeartbeats 400000 in
theorem validPt_i (x y : Int) (w : World) : Calls Tryd.prog 44 #[.agg #[.int .i64 x, .int .i64 y]] w fun e w' => e = .returned (.bool (okPt x y)) ∧ Below w.heap.size w w' := by
  go_enter Tryd.func44, Tryd.ntmps44
  go_wp2
  all_goals
    go_ret
    exact ⟨ret_bool (by unfold okPt; rw [Bool.eq_iff_iff]; simp; try omega), (by repeat (first | exact Below.refl _ _ | assumption | (refine bl_alloc ?_ (Nat.le_refl _) _) | (refine bl_set ?_ (by simp <;> omega) _)))⟩
end Go.Proofs.YtickgkfgmbaalaaDoor
