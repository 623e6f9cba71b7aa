/-
  CONTRACTS of the square of a distance (impl.distSq, impl.DistSq, spec.l03Sq, spec.DistSq): what each returns; no cell that was there is written. Conditions: the helpers' points are valid.
-/
import Derived.Test.YthellegojnndlaaPts
import Derived.Test.YthellegojnndlaaMath
namespace Go.Proofs.Ythellegojnndlaa
open Go.RowKit Go.Sort
attribute [local go_sem] cell_grow frozen_grow
set_option linter.unusedVariables false

/-- the square of a distance -/
def dsq (a b c d : Int) : Int := (c - a) * (c - a) + (d - b) * (d - b)
theorem dsq_bd {a b c d : Int} (h1 : okPt a b = true) (h2 : okPt c d = true) : 0 ≤ (c - a) * (c - a) ∧ (c - a) * (c - a) ≤ 274877906944 ∧ 0 ≤ (d - b) * (d - b) ∧ (d - b) * (d - b) ≤ 274877906944 := by
  obtain ⟨a0, a1, b0, b1⟩ := okPt_t h1
  obtain ⟨c0, c1, d0, d1⟩ := okPt_t h2
  have h3 := mul_bd (c - a) (c - a) 524288 524288 (by omega) (by omega) (by omega) (by omega)
  have h4 := mul_bd (d - b) (d - b) 524288 524288 (by omega) (by omega) (by omega) (by omega)
  exact ⟨sq_nn _, by omega, sq_nn _, by omega⟩
def distSqR (a b c d : Int) : Int := if okPt a b && okPt c d then dsq a b c d else -1

set_option maxHeartbeats 400000 in
theorem l03Sq_any (a b c d : Int) (h1 : okPt a b = true) (h2 : okPt c d = true) (w : World) : Calls Try.prog 100 #[.agg #[.int .i64 a, .int .i64 b], .agg #[.int .i64 c, .int .i64 d]] w fun e w' => e = .returned (.int .i64 (dsq a b c d)) ∧ Below w.heap.size w w' := by
  obtain ⟨p0, p1, p2, p3⟩ := dsq_bd h1 h2
  obtain ⟨a0, a1, b0, b1⟩ := okPt_t h1
  obtain ⟨c0, c1, d0, d1⟩ := okPt_t h2
  clear h1 h2
  go_enter Try.func100, Try.ntmps100
  go_wp2
  go_ret
  exact ⟨rfl, (by repeat (first | exact Below.refl _ _ | assumption | (refine bl_alloc ?_ (Nat.le_refl _) _) | (refine bl_set ?_ (by simp <;> omega) _)))⟩
set_option maxHeartbeats 400000 in
theorem distSq_any (a b c d : Int) (h1 : okPt a b = true) (h2 : okPt c d = true) (w : World) : Calls Try.prog 96 #[.agg #[.int .i64 a, .int .i64 b], .agg #[.int .i64 c, .int .i64 d]] w fun e w' => e = .returned (.int .i64 (dsq a b c d)) ∧ Below w.heap.size w w' := by
  obtain ⟨p0, p1, p2, p3⟩ := dsq_bd h1 h2
  obtain ⟨a0, a1, b0, b1⟩ := okPt_t h1
  obtain ⟨c0, c1, d0, d1⟩ := okPt_t h2
  clear h1 h2
  go_enter Try.func96, Try.ntmps96
  go_wp2
  refine wp_region_quiet_below (by kernel_rfl) (by kernel_rfl) ?_
  repeat (first | go_big_quiet_step ((fail)) | quiet_step ((fail)))
  refine wpQuiet_nil ?_
  intro w1 hw1
  obtain ⟨pq, hpq⟩ := hw1
  have hb1 := below_of hpq
  clear hpq pq
  have hz4 := hb1.size
  (try simp at hz4)
  obtain ⟨hc1, hf1⟩ := bcell hb1
  have hw1 : Below w.heap.size w w1 := bl_call (by repeat (first | exact Below.refl _ _ | assumption | (refine bl_alloc ?_ (Nat.le_refl _) _) | (refine bl_set ?_ (by simp <;> omega) _))) hb1
  have hz1 : w.heap.size + 2 ≤ w1.heap.size := (by have hq := hb1.size; have hr := hw1.size; (try simp at hq); omega)
  have hza : w.heap.size < w1.heap.size := (by omega)
  have hzb : w.heap.size + 1 < w1.heap.size := (by omega)
  go_wp2
  go_ret
  exact ⟨rfl, (by repeat (first | exact Below.refl _ _ | assumption | (refine bl_alloc ?_ (Nat.le_refl _) _) | (refine bl_set ?_ (by simp <;> omega) _)))⟩
set_option maxHeartbeats 400000 in
theorem distSq_i (a b c d : Int) (w : World) : Calls Try.prog 53 #[.agg #[.int .i64 a, .int .i64 b], .agg #[.int .i64 c, .int .i64 d]] w fun e w' => e = .returned (.int .i64 (distSqR a b c d)) ∧ Below w.heap.size w w' := by
  cases h1 : okPt a b <;> cases h2 : okPt c d
  all_goals have HR := hide (show distSqR a b c d = if okPt a b && okPt c d then dsq a b c d else -1 from rfl)
  all_goals rw [h1, h2] at HR
  all_goals
    go_enter Try.func53, Try.ntmps53
    go_wp2_with (first | (go_at_call 62; (with_reducible refine (validPts2 _ _ a b c d _ (by simp) (by simp [go_sem]) (by simp [go_sem]) (by simp [go_sem]) (by simp [go_sem])).mono ?_); rintro e w1 ⟨rfl, hb1⟩; obtain ⟨hc1, hf1⟩ := bcell hb1; have hw1 : Below w.heap.size w w1 := bl_call (by repeat (first | exact Below.refl _ _ | assumption | (refine bl_alloc ?_ (Nat.le_refl _) _) | (refine bl_set ?_ (by simp <;> omega) _))) hb1; have hz1 : w.heap.size + 2 ≤ w1.heap.size := (by have hq := hb1.size; have hr := hw1.size; (try simp at hq); omega); have hza : w.heap.size < w1.heap.size := (by omega); have hzb : w.heap.size + 1 < w1.heap.size := (by omega); have hz4 := hb1.size; (try simp at hz4); (try have hz5 := Nat.lt_of_succ_le hz4)) | (go_at_call 96; (with_reducible refine (distSq_any _ _ _ _ h1 h2 _).mono ?_); rintro e w1 ⟨rfl, hb1⟩; obtain ⟨hc1, hf1⟩ := bcell hb1; have hw1 : Below w.heap.size w w1 := bl_call (by repeat (first | exact Below.refl _ _ | assumption | (refine bl_alloc ?_ (Nat.le_refl _) _) | (refine bl_set ?_ (by simp <;> omega) _))) hb1; have hz1 : w.heap.size + 2 ≤ w1.heap.size := (by have hq := hb1.size; have hr := hw1.size; (try simp at hq); omega); have hza : w.heap.size < w1.heap.size := (by omega); have hzb : w.heap.size + 1 < w1.heap.size := (by omega); have hz4 := hb1.size; (try simp at hz4); (try have hz5 := Nat.lt_of_succ_le hz4)))
    go_ret
    exact ⟨ret_int HR.out.symm, (by repeat (first | exact Below.refl _ _ | assumption | (refine bl_alloc ?_ (Nat.le_refl _) _) | (refine bl_set ?_ (by simp <;> omega) _)))⟩
end Go.Proofs.Ythellegojnndlaa
