/-
  CONTRACTS of the functions on points that compute areas, boxes, middles and directions (packages impl and spec), at valid points, and of the listed functions at every point; no cell that was there is written. And the walks of their laws. Conditions: those of each theorem.
-/
import Derived.Test.YthellegojnndlaaPts
import Derived.Test.YthellegojnndlaaDist
import Derived.Test.YthellegojnndlaaRound
import Derived.Test.YthellegojnndlaaMeet
import Derived.Test.YthellegojnndlaaTail
import Derived.Test.YthellegojnndlaaSeq
namespace Go.Proofs.Ythellegojnndlaa
open Go.RowKit Go.Sort
set_option linter.unusedVariables false
attribute [local go_sem] cell_grow frozen_grow
attribute [local go_sem] Oper.quietAt Oper.quietUpon

theorem tn_bd {a b c d e f : Int} (h1 : okPt a b = true) (h2 : okPt c d = true) (h3 : okPt e f = true) : -274877906944 ≤ (c - a) * (f - b) ∧ (c - a) * (f - b) ≤ 274877906944 ∧ -274877906944 ≤ (d - b) * (e - a) ∧ (d - b) * (e - a) ≤ 274877906944 := by
  obtain ⟨a0, a1, b0, b1⟩ := okPt_t h1
  obtain ⟨c0, c1, d0, d1⟩ := okPt_t h2
  obtain ⟨e0, e1, f0, f1⟩ := okPt_t h3
  have h4 := mul_bd (c - a) (f - b) 524288 524288 (by omega) (by omega) (by omega) (by omega)
  have h5 := mul_bd (d - b) (e - a) 524288 524288 (by omega) (by omega) (by omega) (by omega)
  omega
def turnR (a b c d e f : Int) : Int := if okPt a b && okPt c d && okPt e f then tn a b c d e f else 0
/-- in the box of two points -/
def boxB (a b c d e f : Int) : Bool := decide (min a c ≤ e ∧ e ≤ max a c ∧ min b d ≤ f ∧ f ≤ max b d)
/-- on the segment of two points -/
def onB (a b c d e f : Int) : Bool := decide (tn a b c d e f = 0) && boxB a b c d e f
def onR (a b c d e f : Int) : Bool := okPt a b && okPt c d && okPt e f && onB a b c d e f

set_option maxHeartbeats 400000 in
theorem turn_any (a b c d e f : Int) (h1 : okPt a b = true) (h2 : okPt c d = true) (h3 : okPt e f = true) (w : World) : Calls Try.prog 95 #[.agg #[.int .i64 a, .int .i64 b], .agg #[.int .i64 c, .int .i64 d], .agg #[.int .i64 e, .int .i64 f]] w fun E w' => E = .returned (.int .i64 (tn a b c d e f)) ∧ Below w.heap.size w w' := by
  obtain ⟨p0, p1, p2, p3⟩ := tn_bd h1 h2 h3
  obtain ⟨a0, a1, b0, b1⟩ := okPt_t h1
  obtain ⟨c0, c1, d0, d1⟩ := okPt_t h2
  obtain ⟨e0, e1, f0, f1⟩ := okPt_t h3
  clear h1 h2 h3
  go_enter Try.func95, Try.ntmps95
  go_wp2
  go_ret
  exact ⟨rfl, (by repeat (first | exact Below.refl _ _ | assumption | (refine bl_alloc ?_ (Nat.le_refl _) _) | (refine bl_set ?_ (by simp <;> omega) _)))⟩
set_option maxHeartbeats 400000 in
theorem l03Turn_any (a b c d e f : Int) (h1 : okPt a b = true) (h2 : okPt c d = true) (h3 : okPt e f = true) (w : World) : Calls Try.prog 101 #[.agg #[.int .i64 a, .int .i64 b], .agg #[.int .i64 c, .int .i64 d], .agg #[.int .i64 e, .int .i64 f]] w fun E w' => E = .returned (.int .i64 (tn a b c d e f)) ∧ Below w.heap.size w w' := by
  obtain ⟨p0, p1, p2, p3⟩ := tn_bd h1 h2 h3
  obtain ⟨a0, a1, b0, b1⟩ := okPt_t h1
  obtain ⟨c0, c1, d0, d1⟩ := okPt_t h2
  obtain ⟨e0, e1, f0, f1⟩ := okPt_t h3
  clear h1 h2 h3
  go_enter Try.func101, Try.ntmps101
  go_wp2
  go_ret
  exact ⟨rfl, (by repeat (first | exact Below.refl _ _ | assumption | (refine bl_alloc ?_ (Nat.le_refl _) _) | (refine bl_set ?_ (by simp <;> omega) _)))⟩
set_option maxHeartbeats 1000000 in
theorem turn_i (a b c d e f : Int) (w : World) : Calls Try.prog 52 #[.agg #[.int .i64 a, .int .i64 b], .agg #[.int .i64 c, .int .i64 d], .agg #[.int .i64 e, .int .i64 f]] w fun E w' => E = .returned (.int .i64 (turnR a b c d e f)) ∧ Below w.heap.size w w' := by
  by_cases hk : okPt a b = true ∧ okPt c d = true ∧ okPt e f = true
  · obtain ⟨h1, h2, h3⟩ := hk
    have HR := hide (show turnR a b c d e f = tn a b c d e f by unfold turnR; rw [h1, h2, h3]; rfl)
    go_enter Try.func52, Try.ntmps52
    go_wp2_with (first | (go_at_call 62; (with_reducible refine (validPts3 _ _ a b c d e f _ (by simp) (by simp [go_sem]) (by simp [go_sem]) (by simp [go_sem]) (by simp [go_sem]) (by simp [go_sem]) (by simp [go_sem])).mono ?_); rintro e w1 ⟨rfl, hb1⟩; obtain ⟨hc1, hf1⟩ := bcell hb1; have hw1 : Below w.heap.size w w1 := bl_call (by repeat (first | exact Below.refl _ _ | assumption | (refine bl_alloc ?_ (Nat.le_refl _) _) | (refine bl_set ?_ (by simp <;> omega) _))) hb1; have hz1 : w.heap.size + 3 ≤ w1.heap.size := (by have hq := hb1.size; have hr := hw1.size; (try simp at hq); omega); have hza : w.heap.size < w1.heap.size := (by omega); have hzb : w.heap.size + 1 < w1.heap.size := (by omega); have hzc : w.heap.size + 1 + 1 < w1.heap.size := (by omega); have hz4 := hb1.size; (try simp at hz4); (try have hz5 := Nat.lt_of_succ_le hz4)) | (go_at_call 95; (with_reducible refine (turn_any _ _ _ _ _ _ h1 h2 h3 _).mono ?_); rintro e w1 ⟨rfl, hb1⟩; obtain ⟨hc1, hf1⟩ := bcell hb1; have hw1 : Below w.heap.size w w1 := bl_call (by repeat (first | exact Below.refl _ _ | assumption | (refine bl_alloc ?_ (Nat.le_refl _) _) | (refine bl_set ?_ (by simp <;> omega) _))) hb1; have hz1 : w.heap.size + 3 ≤ w1.heap.size := (by have hq := hb1.size; have hr := hw1.size; (try simp at hq); omega); have hza : w.heap.size < w1.heap.size := (by omega); have hzb : w.heap.size + 1 < w1.heap.size := (by omega); have hzc : w.heap.size + 1 + 1 < w1.heap.size := (by omega); have hz4 := hb1.size; (try simp at hz4); (try have hz5 := Nat.lt_of_succ_le hz4)))
    go_ret
    exact ⟨ret_int HR.out.symm, (by repeat (first | exact Below.refl _ _ | assumption | (refine bl_alloc ?_ (Nat.le_refl _) _) | (refine bl_set ?_ (by simp <;> omega) _)))⟩
  · have hf : (okPt a b && okPt c d && okPt e f) = false := by
      cases h1 : okPt a b <;> cases h2 : okPt c d <;> cases h3 : okPt e f <;> simp_all
    have HR := hide (show turnR a b c d e f = 0 by unfold turnR; rw [hf]; rfl)
    have HF := hide hf
    clear hf hk
    go_enter Try.func52, Try.ntmps52
    go_wp2_with fail
    refine (validPts3 _ _ a b c d e f _ (by simp) (by simp [go_sem]) (by simp [go_sem]) (by simp [go_sem]) (by simp [go_sem]) (by simp [go_sem]) (by simp [go_sem])).mono ?_
    rw [HF.out]
    rintro E w1 ⟨rfl, hb1⟩
    have hw1 : Below w.heap.size w w1 := bl_call (by repeat (first | exact Below.refl _ _ | assumption | (refine bl_alloc ?_ (Nat.le_refl _) _) | (refine bl_set ?_ (by simp <;> omega) _))) hb1
    go_wp2
    go_ret
    exact ⟨ret_int HR.out.symm, (by repeat (first | exact Below.refl _ _ | assumption | (refine bl_alloc ?_ (Nat.le_refl _) _) | (refine bl_set ?_ (by simp <;> omega) _)))⟩
end Go.Proofs.Ythellegojnndlaa
