/-
  CONTRACTS of l05Const (package spec): a constant expression. Conditions: none.
-/
import Derived.Test.YthojgmhionekbaaLinA
import Derived.Test.YthojgmhionekbaaOps
namespace Go.Proofs.Ythojgmhionekbaa
open Go.RowKit Go.Sort
set_option linter.unusedVariables false
attribute [local go_sem] cell_grow frozen_grow
set_option maxRecDepth 100000 in
set_option maxHeartbeats 4000000 in
theorem l05Const_any (a b : Int) (w : World) : Calls Try.prog 73 #[.agg #[.int .i64 a, .int .i64 b]] w fun e w' => (e = .returned (.agg #[.int .i64 a, .int .i64 b, .slice (some ⟨w.heap.size + 2, 0, none⟩) 0 0]) ∧ w'.heap[w.heap.size + 2]? = some (.cells #[] 61 (0, 0))) ∧ Below w.heap.size w w' := by
  go_enter Try.func73, Try.ntmps73
  go_wp2
  refine bodyPost_ret (v := .agg #[.int .i64 a, .int .i64 b, .slice (some ⟨w.heap.size + 2, 0, none⟩) 0 0]) ?_ rfl ⟨⟨rfl, ?_⟩, (by repeat (first | (with_reducible refine bl_set ?_ (by simp <;> omega) _) | (with_reducible refine bl_alloc ?_ (Nat.le_refl _) _) | (with_reducible refine Below.drew ?_) | (with_reducible assumption) | (with_reducible exact Below.refl _ _)))⟩
  · simp (maxDischargeDepth := 9) [results, Try.results73, go_sem]
  · exact ug_new _ _ (by simp)
end Go.Proofs.Ythojgmhionekbaa
