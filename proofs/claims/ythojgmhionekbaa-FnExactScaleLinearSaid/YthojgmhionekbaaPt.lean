/-
  CONTRACTS of the functions on points and on bounds (packages spec, impl, laws): what each returns at every argument; no cell that was there is written. Conditions: none.
-/
import Derived.Test.YthojgmhionekbaaBase
namespace Go.Proofs.Ythojgmhionekbaa
open Go.RowKit
set_option linter.unusedVariables false

/-- b ≤ a ≤ c -/
def inB (a b c : Int) : Bool := decide (b ≤ a ∧ a ≤ c)
theorem inB_t {a b c : Int} (h : inB a b c = true) : b ≤ a ∧ a ≤ c := of_decide_eq_true h
theorem inB_f {a b c : Int} (h : inB a b c = false) : ¬ (b ≤ a ∧ a ≤ c) := of_decide_eq_false h
/-- a valid point -/
def okPt (x y : Int) : Bool := decide (-262144 ≤ x ∧ x ≤ 262144 ∧ -262144 ≤ y ∧ y ≤ 262144)
theorem okPt_t {x y : Int} (h : okPt x y = true) : -262144 ≤ x ∧ x ≤ 262144 ∧ -262144 ≤ y ∧ y ≤ 262144 := of_decide_eq_true h

set_option maxHeartbeats 400000 in
theorem l00In_any (a b c : Int) (w : World) : Calls Try.prog 69 #[.int .i64 a, .int .i64 b, .int .i64 c] w fun e w' => e = .returned (.bool (inB a b c)) ∧ w = w' := by
  go_enter Try.func69, Try.ntmps69
  go_wp2
  all_goals
    go_ret
    exact ⟨ret_bool (by unfold inB; rw [Bool.eq_iff_iff]; simp; try omega), rfl⟩
end Go.Proofs.Ythojgmhionekbaa
