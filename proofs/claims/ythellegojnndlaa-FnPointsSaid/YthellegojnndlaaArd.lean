/-
  CONTRACTS of the functions that compare directions around a point (packages impl and spec). Conditions: the points of the helpers are valid.
-/
import Derived.Test.YthellegojnndlaaTurn
namespace Go.Proofs.Ythellegojnndlaa
open Go.RowKit Go.Sort
set_option linter.unusedVariables false
attribute [local go_sem] cell_grow frozen_grow

/-- the sign of a number -/
def sg (n : Int) : Int := if n < 0 then -1 else if 0 < n then 1 else 0
theorem sg_bd (n : Int) : -1 ≤ sg n ∧ sg n ≤ 1 := by unfold sg; split <;> (try split) <;> omega
/-- the half of a direction -/
def half (a b c d : Int) : Int := if b < d ∨ (d = b ∧ a < c) then 0 else 1
theorem half_bdd (a b c d : Int) : 0 ≤ half a b c d ∧ half a b c d ≤ 1 := by unfold half; split <;> omega
def arB (a b c d e f : Int) : Int := if half a b c d = half a b e f then -sg (tn a b c d e f) else sg (half a b c d - half a b e f)
def arR (a b c d e f : Int) : Int := if okPt a b && okPt c d && okPt e f && !(decide (c = a ∧ d = b)) && !(decide (e = a ∧ f = b)) then arB a b c d e f else 0

set_option maxHeartbeats 400000 in
theorem sign64_any (n : Int) (w : World) : Calls Try.prog 90 #[.int .i64 n] w fun e w' => e = .returned (.int .i64 (sg n)) ∧ w = w' := by
  by_cases h1 : n < 0
  · have HR := hide (show sg n = -1 by unfold sg; rw [if_pos h1])
    go_enter Try.func90, Try.ntmps90
    go_wp2
    go_ret
    exact ⟨ret_int HR.out.symm, rfl⟩
  · by_cases h2 : 0 < n
    · have HR := hide (show sg n = 1 by unfold sg; rw [if_neg h1, if_pos h2])
      go_enter Try.func90, Try.ntmps90
      go_wp2
      go_ret
      exact ⟨ret_int HR.out.symm, rfl⟩
    · have HR := hide (show sg n = 0 by unfold sg; rw [if_neg h1, if_neg h2])
      go_enter Try.func90, Try.ntmps90
      go_wp2
      go_ret
      exact ⟨ret_int HR.out.symm, rfl⟩
set_option maxHeartbeats 400000 in
theorem l03Sign_any (n : Int) (w : World) : Calls Try.prog 108 #[.int .i64 n] w fun e w' => e = .returned (.int .i64 (sg n)) ∧ w = w' := by
  by_cases h1 : n < 0
  · have HR := hide (show sg n = -1 by unfold sg; rw [if_pos h1])
    go_enter Try.func108, Try.ntmps108
    go_wp2
    go_ret
    exact ⟨ret_int HR.out.symm, rfl⟩
  · by_cases h2 : 0 < n
    · have HR := hide (show sg n = 1 by unfold sg; rw [if_neg h1, if_pos h2])
      go_enter Try.func108, Try.ntmps108
      go_wp2
      go_ret
      exact ⟨ret_int HR.out.symm, rfl⟩
    · have HR := hide (show sg n = 0 by unfold sg; rw [if_neg h1, if_neg h2])
      go_enter Try.func108, Try.ntmps108
      go_wp2
      go_ret
      exact ⟨ret_int HR.out.symm, rfl⟩
set_option maxHeartbeats 1000000 in
theorem lowerHalf_any (a b c d : Int) (w : World) : Calls Try.prog 126 #[.agg #[.int .i64 a, .int .i64 b], .agg #[.int .i64 c, .int .i64 d]] w fun E w' => E = .returned (.int .i64 (half a b c d)) ∧ Below w.heap.size w w' := by
  by_cases h1 : b < d
  · have HR := hide (show half a b c d = 0 by unfold half; rw [if_pos (by omega)])
    go_enter Try.func126, Try.ntmps126
    go_wp2
    go_ret
    exact ⟨ret_int HR.out.symm, (by repeat (first | exact Below.refl _ _ | assumption | (refine bl_alloc ?_ (Nat.le_refl _) _) | (refine bl_set ?_ (by simp <;> omega) _)))⟩
  · by_cases h2 : d = b
    · subst h2
      by_cases h3 : a < c
      · have HR := hide (show half a d c d = 0 by unfold half; rw [if_pos (by omega)])
        go_enter Try.func126, Try.ntmps126
        go_wp2
        go_ret
        exact ⟨ret_int HR.out.symm, (by repeat (first | exact Below.refl _ _ | assumption | (refine bl_alloc ?_ (Nat.le_refl _) _) | (refine bl_set ?_ (by simp <;> omega) _)))⟩
      · have HR := hide (show half a d c d = 1 by unfold half; rw [if_neg (by omega)])
        go_enter Try.func126, Try.ntmps126
        go_wp2
        go_ret
        exact ⟨ret_int HR.out.symm, (by repeat (first | exact Below.refl _ _ | assumption | (refine bl_alloc ?_ (Nat.le_refl _) _) | (refine bl_set ?_ (by simp <;> omega) _)))⟩
    · have HR := hide (show half a b c d = 1 by unfold half; rw [if_neg (by omega)])
      go_enter Try.func126, Try.ntmps126
      go_wp2
      go_ret
      exact ⟨ret_int HR.out.symm, (by repeat (first | exact Below.refl _ _ | assumption | (refine bl_alloc ?_ (Nat.le_refl _) _) | (refine bl_set ?_ (by simp <;> omega) _)))⟩
set_option maxHeartbeats 2000000 in
theorem compareAround_any (a b c d e f : Int) (h1 : okPt a b = true) (h2 : okPt c d = true) (h3 : okPt e f = true) (w : World) : Calls Try.prog 97 #[.agg #[.int .i64 a, .int .i64 b], .agg #[.int .i64 c, .int .i64 d], .agg #[.int .i64 e, .int .i64 f]] w fun E w' => E = .returned (.int .i64 (arB a b c d e f)) ∧ Below w.heap.size w w' := by
  obtain ⟨u0, u1⟩ := half_bdd a b c d
  obtain ⟨v0, v1⟩ := half_bdd a b e f
  obtain ⟨s0, s1⟩ := sg_bd (tn a b c d e f)
  by_cases h4 : half a b c d = half a b e f
  · have HR := hide (show arB a b c d e f = -sg (tn a b c d e f) by unfold arB; rw [if_pos h4])
    go_enter Try.func97, Try.ntmps97
    go_wp2
    refine wp_region_quiet_below (by kernel_rfl) (by kernel_rfl) ?_
    repeat (first | go_big_quiet_step (((go_at_call 126; with_reducible exact Calls.regrown_of (lowerHalf_any _ _ _ _ _)))) | quiet_step (((go_at_call 126; with_reducible exact Calls.regrown_of (lowerHalf_any _ _ _ _ _)))))
    refine wpQuiet_nil ?_
    intro w1 hw1
    obtain ⟨pq, hpq⟩ := hw1
    have hb1 := below_of hpq
    clear hpq pq
    have hz4 := hb1.size
    (try simp at hz4)
    obtain ⟨hc1, hf1⟩ := bcell hb1
    have hw1 : Below w.heap.size w w1 := bl_call (by repeat (first | exact Below.refl _ _ | assumption | (refine bl_alloc ?_ (Nat.le_refl _) _) | (refine bl_set ?_ (by simp <;> omega) _))) hb1
    have hz1 : w.heap.size + 3 ≤ w1.heap.size := (by have hq := hb1.size; have hr := hw1.size; (try simp at hq); omega)
    have hza : w.heap.size < w1.heap.size := (by omega)
    have hzb : w.heap.size + 1 < w1.heap.size := (by omega)
    have hzc : w.heap.size + 1 + 1 < w1.heap.size := (by omega)
    go_wp2_with (first | (go_at_call 95; (with_reducible refine (turn_any _ _ _ _ _ _ h1 h2 h3 _).mono ?_); rintro e w1 ⟨rfl, hb1⟩; obtain ⟨hc1, hf1⟩ := bcell hb1; have hw1 : Below w.heap.size w w1 := bl_call (by repeat (first | exact Below.refl _ _ | assumption | (refine bl_alloc ?_ (Nat.le_refl _) _) | (refine bl_set ?_ (by simp <;> omega) _))) hb1; have hz1 : w.heap.size + 3 ≤ w1.heap.size := (by have hq := hb1.size; have hr := hw1.size; (try simp at hq); omega); have hza : w.heap.size < w1.heap.size := (by omega); have hzb : w.heap.size + 1 < w1.heap.size := (by omega); have hzc : w.heap.size + 1 + 1 < w1.heap.size := (by omega); have hz4 := hb1.size; (try simp at hz4); (try have hz5 := Nat.lt_of_succ_le hz4)) | (go_at_call 90; (with_reducible refine (sign64_any _ _).mono ?_); rintro e w1 ⟨rfl, rfl⟩))
    go_ret
    exact ⟨ret_int HR.out.symm, (by repeat (first | exact Below.refl _ _ | assumption | (refine bl_alloc ?_ (Nat.le_refl _) _) | (refine bl_set ?_ (by simp <;> omega) _)))⟩
  · have HR := hide (show arB a b c d e f = sg (half a b c d - half a b e f) by unfold arB; rw [if_neg h4])
    go_enter Try.func97, Try.ntmps97
    go_wp2
    refine wp_region_quiet_below (by kernel_rfl) (by kernel_rfl) ?_
    repeat (first | go_big_quiet_step (((go_at_call 126; with_reducible exact Calls.regrown_of (lowerHalf_any _ _ _ _ _)))) | quiet_step (((go_at_call 126; with_reducible exact Calls.regrown_of (lowerHalf_any _ _ _ _ _)))))
    refine wpQuiet_nil ?_
    intro w1 hw1
    obtain ⟨pq, hpq⟩ := hw1
    have hb1 := below_of hpq
    clear hpq pq
    have hz4 := hb1.size
    (try simp at hz4)
    obtain ⟨hc1, hf1⟩ := bcell hb1
    have hw1 : Below w.heap.size w w1 := bl_call (by repeat (first | exact Below.refl _ _ | assumption | (refine bl_alloc ?_ (Nat.le_refl _) _) | (refine bl_set ?_ (by simp <;> omega) _))) hb1
    have hz1 : w.heap.size + 3 ≤ w1.heap.size := (by have hq := hb1.size; have hr := hw1.size; (try simp at hq); omega)
    have hza : w.heap.size < w1.heap.size := (by omega)
    have hzb : w.heap.size + 1 < w1.heap.size := (by omega)
    have hzc : w.heap.size + 1 + 1 < w1.heap.size := (by omega)
    go_wp2_with (first | (go_at_call 95; (with_reducible refine (turn_any _ _ _ _ _ _ h1 h2 h3 _).mono ?_); rintro e w1 ⟨rfl, hb1⟩; obtain ⟨hc1, hf1⟩ := bcell hb1; have hw1 : Below w.heap.size w w1 := bl_call (by repeat (first | exact Below.refl _ _ | assumption | (refine bl_alloc ?_ (Nat.le_refl _) _) | (refine bl_set ?_ (by simp <;> omega) _))) hb1; have hz1 : w.heap.size + 3 ≤ w1.heap.size := (by have hq := hb1.size; have hr := hw1.size; (try simp at hq); omega); have hza : w.heap.size < w1.heap.size := (by omega); have hzb : w.heap.size + 1 < w1.heap.size := (by omega); have hzc : w.heap.size + 1 + 1 < w1.heap.size := (by omega); have hz4 := hb1.size; (try simp at hz4); (try have hz5 := Nat.lt_of_succ_le hz4)) | (go_at_call 90; (with_reducible refine (sign64_any _ _).mono ?_); rintro e w1 ⟨rfl, rfl⟩))
    go_ret
    exact ⟨ret_int HR.out.symm, (by repeat (first | exact Below.refl _ _ | assumption | (refine bl_alloc ?_ (Nat.le_refl _) _) | (refine bl_set ?_ (by simp <;> omega) _)))⟩
set_option maxHeartbeats 1000000 in
theorem compareAround_i (a b c d e f : Int) (w : World) : Calls Try.prog 54 #[.agg #[.int .i64 a, .int .i64 b], .agg #[.int .i64 c, .int .i64 d], .agg #[.int .i64 e, .int .i64 f]] w fun E w' => E = .returned (.int .i64 (arR a b c d e f)) ∧ Below w.heap.size w w' := by
  by_cases hk : okPt a b = true ∧ okPt c d = true ∧ okPt e f = true
  · obtain ⟨h1, h2, h3⟩ := hk
    by_cases g6 : a = c
    · subst g6
      by_cases g7 : b = d
      · subst g7
        have HR := hide (show arR a b a b e f = 0 by unfold arR; simp [])
        go_enter Try.func54, Try.ntmps54
        go_wp2_with (first | (go_at_call 62; (with_reducible refine (validPts3 _ _ a b a b e f _ (by simp) (by simp [go_sem]) (by simp [go_sem]) (by simp [go_sem]) (by simp [go_sem]) (by simp [go_sem]) (by simp [go_sem])).mono ?_); rintro e w1 ⟨rfl, hb1⟩; obtain ⟨hc1, hf1⟩ := bcell hb1; have hw1 : Below w.heap.size w w1 := bl_call (by repeat (first | exact Below.refl _ _ | assumption | (refine bl_alloc ?_ (Nat.le_refl _) _) | (refine bl_set ?_ (by simp <;> omega) _))) hb1; have hz1 : w.heap.size + 3 ≤ w1.heap.size := (by have hq := hb1.size; have hr := hw1.size; (try simp at hq); omega); have hza : w.heap.size < w1.heap.size := (by omega); have hzb : w.heap.size + 1 < w1.heap.size := (by omega); have hzc : w.heap.size + 1 + 1 < w1.heap.size := (by omega); have hz4 := hb1.size; (try simp at hz4); (try have hz5 := Nat.lt_of_succ_le hz4)) | (go_at_call 97; (with_reducible refine (compareAround_any _ _ _ _ _ _ h1 h2 h3 _).mono ?_); rintro e w1 ⟨rfl, hb1⟩; obtain ⟨hc1, hf1⟩ := bcell hb1; have hw1 : Below w.heap.size w w1 := bl_call (by repeat (first | exact Below.refl _ _ | assumption | (refine bl_alloc ?_ (Nat.le_refl _) _) | (refine bl_set ?_ (by simp <;> omega) _))) hb1; have hz1 : w.heap.size + 3 ≤ w1.heap.size := (by have hq := hb1.size; have hr := hw1.size; (try simp at hq); omega); have hza : w.heap.size < w1.heap.size := (by omega); have hzb : w.heap.size + 1 < w1.heap.size := (by omega); have hzc : w.heap.size + 1 + 1 < w1.heap.size := (by omega); have hz4 := hb1.size; (try simp at hz4); (try have hz5 := Nat.lt_of_succ_le hz4)))
        go_ret
        exact ⟨ret_int HR.out.symm, (by repeat (first | exact Below.refl _ _ | assumption | (refine bl_alloc ?_ (Nat.le_refl _) _) | (refine bl_set ?_ (by simp <;> omega) _)))⟩
      · have g8 : ¬ d = b := fun h => g7 h.symm
        by_cases h6 : a = e
        · subst h6
          by_cases h7 : b = f
          · subst h7
            have HR := hide (show arR a b a d a b = 0 by unfold arR; simp [])
            go_enter Try.func54, Try.ntmps54
            go_wp2_with (first | (go_at_call 62; (with_reducible refine (validPts3 _ _ a b a d a b _ (by simp) (by simp [go_sem]) (by simp [go_sem]) (by simp [go_sem]) (by simp [go_sem]) (by simp [go_sem]) (by simp [go_sem])).mono ?_); rintro e w1 ⟨rfl, hb1⟩; obtain ⟨hc1, hf1⟩ := bcell hb1; have hw1 : Below w.heap.size w w1 := bl_call (by repeat (first | exact Below.refl _ _ | assumption | (refine bl_alloc ?_ (Nat.le_refl _) _) | (refine bl_set ?_ (by simp <;> omega) _))) hb1; have hz1 : w.heap.size + 3 ≤ w1.heap.size := (by have hq := hb1.size; have hr := hw1.size; (try simp at hq); omega); have hza : w.heap.size < w1.heap.size := (by omega); have hzb : w.heap.size + 1 < w1.heap.size := (by omega); have hzc : w.heap.size + 1 + 1 < w1.heap.size := (by omega); have hz4 := hb1.size; (try simp at hz4); (try have hz5 := Nat.lt_of_succ_le hz4)) | (go_at_call 97; (with_reducible refine (compareAround_any _ _ _ _ _ _ h1 h2 h3 _).mono ?_); rintro e w1 ⟨rfl, hb1⟩; obtain ⟨hc1, hf1⟩ := bcell hb1; have hw1 : Below w.heap.size w w1 := bl_call (by repeat (first | exact Below.refl _ _ | assumption | (refine bl_alloc ?_ (Nat.le_refl _) _) | (refine bl_set ?_ (by simp <;> omega) _))) hb1; have hz1 : w.heap.size + 3 ≤ w1.heap.size := (by have hq := hb1.size; have hr := hw1.size; (try simp at hq); omega); have hza : w.heap.size < w1.heap.size := (by omega); have hzb : w.heap.size + 1 < w1.heap.size := (by omega); have hzc : w.heap.size + 1 + 1 < w1.heap.size := (by omega); have hz4 := hb1.size; (try simp at hz4); (try have hz5 := Nat.lt_of_succ_le hz4)))
            go_ret
            exact ⟨ret_int HR.out.symm, (by repeat (first | exact Below.refl _ _ | assumption | (refine bl_alloc ?_ (Nat.le_refl _) _) | (refine bl_set ?_ (by simp <;> omega) _)))⟩
          · have h8 : ¬ f = b := fun h => h7 h.symm
            have HR := hide (show arR a b a d a f = arB a b a d a f by unfold arR; simp [h1, h2, h3, h8, g8])
            go_enter Try.func54, Try.ntmps54
            go_wp2_with (first | (go_at_call 62; (with_reducible refine (validPts3 _ _ a b a d a f _ (by simp) (by simp [go_sem]) (by simp [go_sem]) (by simp [go_sem]) (by simp [go_sem]) (by simp [go_sem]) (by simp [go_sem])).mono ?_); rintro e w1 ⟨rfl, hb1⟩; obtain ⟨hc1, hf1⟩ := bcell hb1; have hw1 : Below w.heap.size w w1 := bl_call (by repeat (first | exact Below.refl _ _ | assumption | (refine bl_alloc ?_ (Nat.le_refl _) _) | (refine bl_set ?_ (by simp <;> omega) _))) hb1; have hz1 : w.heap.size + 3 ≤ w1.heap.size := (by have hq := hb1.size; have hr := hw1.size; (try simp at hq); omega); have hza : w.heap.size < w1.heap.size := (by omega); have hzb : w.heap.size + 1 < w1.heap.size := (by omega); have hzc : w.heap.size + 1 + 1 < w1.heap.size := (by omega); have hz4 := hb1.size; (try simp at hz4); (try have hz5 := Nat.lt_of_succ_le hz4)) | (go_at_call 97; (with_reducible refine (compareAround_any _ _ _ _ _ _ h1 h2 h3 _).mono ?_); rintro e w1 ⟨rfl, hb1⟩; obtain ⟨hc1, hf1⟩ := bcell hb1; have hw1 : Below w.heap.size w w1 := bl_call (by repeat (first | exact Below.refl _ _ | assumption | (refine bl_alloc ?_ (Nat.le_refl _) _) | (refine bl_set ?_ (by simp <;> omega) _))) hb1; have hz1 : w.heap.size + 3 ≤ w1.heap.size := (by have hq := hb1.size; have hr := hw1.size; (try simp at hq); omega); have hza : w.heap.size < w1.heap.size := (by omega); have hzb : w.heap.size + 1 < w1.heap.size := (by omega); have hzc : w.heap.size + 1 + 1 < w1.heap.size := (by omega); have hz4 := hb1.size; (try simp at hz4); (try have hz5 := Nat.lt_of_succ_le hz4)))
            go_ret
            exact ⟨ret_int HR.out.symm, (by repeat (first | exact Below.refl _ _ | assumption | (refine bl_alloc ?_ (Nat.le_refl _) _) | (refine bl_set ?_ (by simp <;> omega) _)))⟩
        · have h9 : ¬ e = a := fun h => h6 h.symm
          have HR := hide (show arR a b a d e f = arB a b a d e f by unfold arR; simp [h1, h2, h3, h9, g8])
          go_enter Try.func54, Try.ntmps54
          go_wp2_with (first | (go_at_call 62; (with_reducible refine (validPts3 _ _ a b a d e f _ (by simp) (by simp [go_sem]) (by simp [go_sem]) (by simp [go_sem]) (by simp [go_sem]) (by simp [go_sem]) (by simp [go_sem])).mono ?_); rintro e w1 ⟨rfl, hb1⟩; obtain ⟨hc1, hf1⟩ := bcell hb1; have hw1 : Below w.heap.size w w1 := bl_call (by repeat (first | exact Below.refl _ _ | assumption | (refine bl_alloc ?_ (Nat.le_refl _) _) | (refine bl_set ?_ (by simp <;> omega) _))) hb1; have hz1 : w.heap.size + 3 ≤ w1.heap.size := (by have hq := hb1.size; have hr := hw1.size; (try simp at hq); omega); have hza : w.heap.size < w1.heap.size := (by omega); have hzb : w.heap.size + 1 < w1.heap.size := (by omega); have hzc : w.heap.size + 1 + 1 < w1.heap.size := (by omega); have hz4 := hb1.size; (try simp at hz4); (try have hz5 := Nat.lt_of_succ_le hz4)) | (go_at_call 97; (with_reducible refine (compareAround_any _ _ _ _ _ _ h1 h2 h3 _).mono ?_); rintro e w1 ⟨rfl, hb1⟩; obtain ⟨hc1, hf1⟩ := bcell hb1; have hw1 : Below w.heap.size w w1 := bl_call (by repeat (first | exact Below.refl _ _ | assumption | (refine bl_alloc ?_ (Nat.le_refl _) _) | (refine bl_set ?_ (by simp <;> omega) _))) hb1; have hz1 : w.heap.size + 3 ≤ w1.heap.size := (by have hq := hb1.size; have hr := hw1.size; (try simp at hq); omega); have hza : w.heap.size < w1.heap.size := (by omega); have hzb : w.heap.size + 1 < w1.heap.size := (by omega); have hzc : w.heap.size + 1 + 1 < w1.heap.size := (by omega); have hz4 := hb1.size; (try simp at hz4); (try have hz5 := Nat.lt_of_succ_le hz4)))
          go_ret
          exact ⟨ret_int HR.out.symm, (by repeat (first | exact Below.refl _ _ | assumption | (refine bl_alloc ?_ (Nat.le_refl _) _) | (refine bl_set ?_ (by simp <;> omega) _)))⟩
    · have g9 : ¬ c = a := fun h => g6 h.symm
      by_cases h6 : a = e
      · subst h6
        by_cases h7 : b = f
        · subst h7
          have HR := hide (show arR a b c d a b = 0 by unfold arR; simp [])
          go_enter Try.func54, Try.ntmps54
          go_wp2_with (first | (go_at_call 62; (with_reducible refine (validPts3 _ _ a b c d a b _ (by simp) (by simp [go_sem]) (by simp [go_sem]) (by simp [go_sem]) (by simp [go_sem]) (by simp [go_sem]) (by simp [go_sem])).mono ?_); rintro e w1 ⟨rfl, hb1⟩; obtain ⟨hc1, hf1⟩ := bcell hb1; have hw1 : Below w.heap.size w w1 := bl_call (by repeat (first | exact Below.refl _ _ | assumption | (refine bl_alloc ?_ (Nat.le_refl _) _) | (refine bl_set ?_ (by simp <;> omega) _))) hb1; have hz1 : w.heap.size + 3 ≤ w1.heap.size := (by have hq := hb1.size; have hr := hw1.size; (try simp at hq); omega); have hza : w.heap.size < w1.heap.size := (by omega); have hzb : w.heap.size + 1 < w1.heap.size := (by omega); have hzc : w.heap.size + 1 + 1 < w1.heap.size := (by omega); have hz4 := hb1.size; (try simp at hz4); (try have hz5 := Nat.lt_of_succ_le hz4)) | (go_at_call 97; (with_reducible refine (compareAround_any _ _ _ _ _ _ h1 h2 h3 _).mono ?_); rintro e w1 ⟨rfl, hb1⟩; obtain ⟨hc1, hf1⟩ := bcell hb1; have hw1 : Below w.heap.size w w1 := bl_call (by repeat (first | exact Below.refl _ _ | assumption | (refine bl_alloc ?_ (Nat.le_refl _) _) | (refine bl_set ?_ (by simp <;> omega) _))) hb1; have hz1 : w.heap.size + 3 ≤ w1.heap.size := (by have hq := hb1.size; have hr := hw1.size; (try simp at hq); omega); have hza : w.heap.size < w1.heap.size := (by omega); have hzb : w.heap.size + 1 < w1.heap.size := (by omega); have hzc : w.heap.size + 1 + 1 < w1.heap.size := (by omega); have hz4 := hb1.size; (try simp at hz4); (try have hz5 := Nat.lt_of_succ_le hz4)))
          go_ret
          exact ⟨ret_int HR.out.symm, (by repeat (first | exact Below.refl _ _ | assumption | (refine bl_alloc ?_ (Nat.le_refl _) _) | (refine bl_set ?_ (by simp <;> omega) _)))⟩
        · have h8 : ¬ f = b := fun h => h7 h.symm
          have HR := hide (show arR a b c d a f = arB a b c d a f by unfold arR; simp [h1, h2, h3, h8, g9])
          go_enter Try.func54, Try.ntmps54
          go_wp2_with (first | (go_at_call 62; (with_reducible refine (validPts3 _ _ a b c d a f _ (by simp) (by simp [go_sem]) (by simp [go_sem]) (by simp [go_sem]) (by simp [go_sem]) (by simp [go_sem]) (by simp [go_sem])).mono ?_); rintro e w1 ⟨rfl, hb1⟩; obtain ⟨hc1, hf1⟩ := bcell hb1; have hw1 : Below w.heap.size w w1 := bl_call (by repeat (first | exact Below.refl _ _ | assumption | (refine bl_alloc ?_ (Nat.le_refl _) _) | (refine bl_set ?_ (by simp <;> omega) _))) hb1; have hz1 : w.heap.size + 3 ≤ w1.heap.size := (by have hq := hb1.size; have hr := hw1.size; (try simp at hq); omega); have hza : w.heap.size < w1.heap.size := (by omega); have hzb : w.heap.size + 1 < w1.heap.size := (by omega); have hzc : w.heap.size + 1 + 1 < w1.heap.size := (by omega); have hz4 := hb1.size; (try simp at hz4); (try have hz5 := Nat.lt_of_succ_le hz4)) | (go_at_call 97; (with_reducible refine (compareAround_any _ _ _ _ _ _ h1 h2 h3 _).mono ?_); rintro e w1 ⟨rfl, hb1⟩; obtain ⟨hc1, hf1⟩ := bcell hb1; have hw1 : Below w.heap.size w w1 := bl_call (by repeat (first | exact Below.refl _ _ | assumption | (refine bl_alloc ?_ (Nat.le_refl _) _) | (refine bl_set ?_ (by simp <;> omega) _))) hb1; have hz1 : w.heap.size + 3 ≤ w1.heap.size := (by have hq := hb1.size; have hr := hw1.size; (try simp at hq); omega); have hza : w.heap.size < w1.heap.size := (by omega); have hzb : w.heap.size + 1 < w1.heap.size := (by omega); have hzc : w.heap.size + 1 + 1 < w1.heap.size := (by omega); have hz4 := hb1.size; (try simp at hz4); (try have hz5 := Nat.lt_of_succ_le hz4)))
          go_ret
          exact ⟨ret_int HR.out.symm, (by repeat (first | exact Below.refl _ _ | assumption | (refine bl_alloc ?_ (Nat.le_refl _) _) | (refine bl_set ?_ (by simp <;> omega) _)))⟩
      · have h9 : ¬ e = a := fun h => h6 h.symm
        have HR := hide (show arR a b c d e f = arB a b c d e f by unfold arR; simp [h1, h2, h3, h9, g9])
        go_enter Try.func54, Try.ntmps54
        go_wp2_with (first | (go_at_call 62; (with_reducible refine (validPts3 _ _ a b c d e f _ (by simp) (by simp [go_sem]) (by simp [go_sem]) (by simp [go_sem]) (by simp [go_sem]) (by simp [go_sem]) (by simp [go_sem])).mono ?_); rintro e w1 ⟨rfl, hb1⟩; obtain ⟨hc1, hf1⟩ := bcell hb1; have hw1 : Below w.heap.size w w1 := bl_call (by repeat (first | exact Below.refl _ _ | assumption | (refine bl_alloc ?_ (Nat.le_refl _) _) | (refine bl_set ?_ (by simp <;> omega) _))) hb1; have hz1 : w.heap.size + 3 ≤ w1.heap.size := (by have hq := hb1.size; have hr := hw1.size; (try simp at hq); omega); have hza : w.heap.size < w1.heap.size := (by omega); have hzb : w.heap.size + 1 < w1.heap.size := (by omega); have hzc : w.heap.size + 1 + 1 < w1.heap.size := (by omega); have hz4 := hb1.size; (try simp at hz4); (try have hz5 := Nat.lt_of_succ_le hz4)) | (go_at_call 97; (with_reducible refine (compareAround_any _ _ _ _ _ _ h1 h2 h3 _).mono ?_); rintro e w1 ⟨rfl, hb1⟩; obtain ⟨hc1, hf1⟩ := bcell hb1; have hw1 : Below w.heap.size w w1 := bl_call (by repeat (first | exact Below.refl _ _ | assumption | (refine bl_alloc ?_ (Nat.le_refl _) _) | (refine bl_set ?_ (by simp <;> omega) _))) hb1; have hz1 : w.heap.size + 3 ≤ w1.heap.size := (by have hq := hb1.size; have hr := hw1.size; (try simp at hq); omega); have hza : w.heap.size < w1.heap.size := (by omega); have hzb : w.heap.size + 1 < w1.heap.size := (by omega); have hzc : w.heap.size + 1 + 1 < w1.heap.size := (by omega); have hz4 := hb1.size; (try simp at hz4); (try have hz5 := Nat.lt_of_succ_le hz4)))
        go_ret
        exact ⟨ret_int HR.out.symm, (by repeat (first | exact Below.refl _ _ | assumption | (refine bl_alloc ?_ (Nat.le_refl _) _) | (refine bl_set ?_ (by simp <;> omega) _)))⟩
  · have hf : (okPt a b && okPt c d && okPt e f) = false := by
      cases h1 : okPt a b <;> cases h2 : okPt c d <;> cases h3 : okPt e f <;> simp_all
    have HR := hide (show arR a b c d e f = 0 by unfold arR; rw [hf]; rfl)
    have HF := hide hf
    clear hf hk
    go_enter Try.func54, Try.ntmps54
    go_wp2_with fail
    refine (validPts3 _ _ a b c d e f _ (by simp) (by simp [go_sem]) (by simp [go_sem]) (by simp [go_sem]) (by simp [go_sem]) (by simp [go_sem]) (by simp [go_sem])).mono ?_
    rw [HF.out]
    rintro E w1 ⟨rfl, hb1⟩
    have hw1 : Below w.heap.size w w1 := bl_call (by repeat (first | exact Below.refl _ _ | assumption | (refine bl_alloc ?_ (Nat.le_refl _) _) | (refine bl_set ?_ (by simp <;> omega) _))) hb1
    go_wp2
    go_ret
    exact ⟨ret_int HR.out.symm, (by repeat (first | exact Below.refl _ _ | assumption | (refine bl_alloc ?_ (Nat.le_refl _) _) | (refine bl_set ?_ (by simp <;> omega) _)))⟩
end Go.Proofs.Ythellegojnndlaa
