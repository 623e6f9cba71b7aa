/-
  CONTRACT of laws.eqPt, by itself (the same text as in XMid, for seats that have no XMid). Conditions: none.
-/
import Derived.Test.YthellegojnndlaaPt
namespace Go.Proofs.Ythellegojnndlaa
open Go.RowKit Go.Sort
set_option linter.unusedVariables false
attribute [local go_sem] cell_grow frozen_grow
/-- the same numbers -/
def eqP (a b c d : Int) : Bool := decide (a = c ∧ b = d)
theorem eqP_self (a b : Int) : eqP a b a b = true := decide_eq_true ⟨rfl, rfl⟩
set_option maxHeartbeats 400000 in
theorem eqPt_any (a b c d : Int) (w : World) : Calls Try.prog 22 #[.agg #[.int .i64 a, .int .i64 b], .agg #[.int .i64 c, .int .i64 d]] w fun e w' => e = .returned (.bool (eqP a b c d)) ∧ Below w.heap.size w w' := by
  by_cases h1 : a = c
  · by_cases h2 : b = d
    · subst h1 h2
      go_enter Try.func22, Try.ntmps22
      go_wp2
      go_ret
      exact ⟨ret_bool (eqP_self a b).symm, (by repeat (first | exact Below.refl _ _ | assumption | (refine bl_alloc ?_ (Nat.le_refl _) _) | (refine bl_set ?_ (by simp <;> omega) _)))⟩
    · subst h1
      have q1 : (b == d) = false := by simp; omega
      have q2 : (b != d) = true := by simp; omega
      have HR := hide (show eqP a b a d = false from decide_eq_false (fun h => h2 h.2))
      go_enter Try.func22, Try.ntmps22
      go_wp2
      go_ret
      exact ⟨ret_bool HR.out.symm, (by repeat (first | exact Below.refl _ _ | assumption | (refine bl_alloc ?_ (Nat.le_refl _) _) | (refine bl_set ?_ (by simp <;> omega) _)))⟩
  · have q1 : (a == c) = false := by simp; omega
    have q2 : (a != c) = true := by simp; omega
    have HR := hide (show eqP a b c d = false from decide_eq_false (fun h => h1 h.1))
    go_enter Try.func22, Try.ntmps22
    go_wp2
    go_ret
    exact ⟨ret_bool HR.out.symm, (by repeat (first | exact Below.refl _ _ | assumption | (refine bl_alloc ?_ (Nat.le_refl _) _) | (refine bl_set ?_ (by simp <;> omega) _)))⟩
end Go.Proofs.Ythellegojnndlaa
