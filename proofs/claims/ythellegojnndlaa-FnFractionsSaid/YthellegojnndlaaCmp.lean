/-
  CONTRACTS of the comparison and the roundings of fractions (CompareFrac, FloorFrac, RoundFrac, ScaleFrac; packages impl and spec): what each returns at every fraction; no cell that was there is written. And the walks of their laws. Conditions: the numbers are of 64 bits.
-/
import Derived.Test.YthellegojnndlaaOps
import Derived.Test.YthellegojnndlaaRound
namespace Go.Proofs.Ythellegojnndlaa
open Go.RowKit Go.Sort
set_option linter.unusedVariables false
attribute [local go_sem] cell_grow frozen_grow

/-- the sign of a number -/
def sgn (n : Int) : Int := if n < 0 then -1 else if 0 < n then 1 else 0
def cmpR (a b c d : Int) : Int := if okFr a b && okFr c d then sgn (a * d - c * b) else 0
def floorR (a b : Int) : Int := if okFr a b then a / b else 0
def roundR (a b : Int) : Int := if okFr a b then rnd a b else 0
def scaleR (n a b : Int) : Int := if okFr a b && inB n (-1073741824) 1073741824 then rnd (n * a) b else 0
def scaleC (n a b : Int) : Int := if okFr a b then (if inB n (-1073741824) 1073741824 then 0 else 2) else 1

set_option maxHeartbeats 400000 in
theorem sign64_i (n : Int) (w : World) : Calls Try.prog 90 #[.int .i64 n] w fun e w' => e = .returned (.int .i64 (sgn n)) ∧ w = w' := by
  by_cases h1 : n < 0
  · have HR := hide (show sgn n = -1 by unfold sgn; rw [if_pos h1])
    go_enter Try.func90, Try.ntmps90
    go_wp2
    go_ret
    exact ⟨ret_int HR.out.symm, rfl⟩
  · by_cases h2 : 0 < n
    · have HR := hide (show sgn n = 1 by unfold sgn; rw [if_neg h1, if_pos h2])
      go_enter Try.func90, Try.ntmps90
      go_wp2
      go_ret
      exact ⟨ret_int HR.out.symm, rfl⟩
    · have HR := hide (show sgn n = 0 by unfold sgn; rw [if_neg h1, if_neg h2])
      go_enter Try.func90, Try.ntmps90
      go_wp2
      go_ret
      exact ⟨ret_int HR.out.symm, rfl⟩
set_option maxHeartbeats 1000000 in
theorem compareFrac_i (a b c d : Int) (ha0 : -9223372036854775808 ≤ a) (ha1 : a ≤ 9223372036854775807) (hq0 : -9223372036854775808 ≤ c) (hq1 : c ≤ 9223372036854775807) (w : World) :
    Calls Try.prog 45 #[.agg #[.int .i64 a, .int .i64 b], .agg #[.int .i64 c, .int .i64 d]] w fun e w' => e = .returned (.int .i64 (cmpR a b c d)) ∧ Below w.heap.size w w' := by
  cases h1 : okFr a b
  · have HR := hide (show cmpR a b c d = 0 by unfold cmpR; rw [h1]; rfl)
    go_enter Try.func45, Try.ntmps45
    go_wp2_with (go_at_call 87; (with_reducible refine (validFrac_i a b ha0 ha1 _).mono ?_); rintro e w1 ⟨rfl, hb1⟩; obtain ⟨hc1, hf1⟩ := bcell hb1; have hw1 : Below w.heap.size w w1 := bl_call (by repeat (first | exact Below.refl _ _ | assumption | (refine bl_alloc ?_ (Nat.le_refl _) _) | (refine bl_set ?_ (by simp <;> omega) _))) hb1; have hz1 : w.heap.size + 2 ≤ w1.heap.size := (by have hq := hb1.size; have hr := hw1.size; (try simp at hq); omega); have hza : w.heap.size < w1.heap.size := (by omega); have hzb : w.heap.size + 1 < w1.heap.size := (by omega); have hz4 := hb1.size; (try simp at hz4); (try have hz5 := Nat.lt_of_succ_le hz4))
    go_ret
    exact ⟨ret_int HR.out.symm, (by repeat (first | exact Below.refl _ _ | assumption | (refine bl_alloc ?_ (Nat.le_refl _) _) | (refine bl_set ?_ (by simp <;> omega) _)))⟩
  · cases h2 : okFr c d
    · have HR := hide (show cmpR a b c d = 0 by unfold cmpR; rw [h1, h2]; rfl)
      go_enter Try.func45, Try.ntmps45
      go_wp2_with (first | (go_at_call 87; (with_reducible refine (validFrac_i a b ha0 ha1 _).mono ?_); rintro e w1 ⟨rfl, hb1⟩; obtain ⟨hc1, hf1⟩ := bcell hb1; have hw1 : Below w.heap.size w w1 := bl_call (by repeat (first | exact Below.refl _ _ | assumption | (refine bl_alloc ?_ (Nat.le_refl _) _) | (refine bl_set ?_ (by simp <;> omega) _))) hb1; have hz1 : w.heap.size + 2 ≤ w1.heap.size := (by have hq := hb1.size; have hr := hw1.size; (try simp at hq); omega); have hza : w.heap.size < w1.heap.size := (by omega); have hzb : w.heap.size + 1 < w1.heap.size := (by omega); have hz4 := hb1.size; (try simp at hz4); (try have hz5 := Nat.lt_of_succ_le hz4)) | (go_at_call 87; (with_reducible refine (validFrac_i c d hq0 hq1 _).mono ?_); rintro e w1 ⟨rfl, hb1⟩; obtain ⟨hc1, hf1⟩ := bcell hb1; have hw1 : Below w.heap.size w w1 := bl_call (by repeat (first | exact Below.refl _ _ | assumption | (refine bl_alloc ?_ (Nat.le_refl _) _) | (refine bl_set ?_ (by simp <;> omega) _))) hb1; have hz1 : w.heap.size + 2 ≤ w1.heap.size := (by have hq := hb1.size; have hr := hw1.size; (try simp at hq); omega); have hza : w.heap.size < w1.heap.size := (by omega); have hzb : w.heap.size + 1 < w1.heap.size := (by omega); have hz4 := hb1.size; (try simp at hz4); (try have hz5 := Nat.lt_of_succ_le hz4)))
      go_ret
      exact ⟨ret_int HR.out.symm, (by repeat (first | exact Below.refl _ _ | assumption | (refine bl_alloc ?_ (Nat.le_refl _) _) | (refine bl_set ?_ (by simp <;> omega) _)))⟩
    · have HR := hide (show cmpR a b c d = sgn (a * d - c * b) by unfold cmpR; rw [h1, h2]; rfl)
      obtain ⟨p1, p2, p3, p4, _⟩ := okFr_t h1
      obtain ⟨q1, q2, q3, q4, _⟩ := okFr_t h2
      obtain ⟨u10, u11⟩ := prod_nd p3 p4 q1 q2
      obtain ⟨u20, u21⟩ := prod_nd q3 q4 p1 p2
      go_enter Try.func45, Try.ntmps45
      go_wp2_with (first | (go_at_call 87; (with_reducible refine (validFrac_i a b ha0 ha1 _).mono ?_); rintro e w1 ⟨rfl, hb1⟩; obtain ⟨hc1, hf1⟩ := bcell hb1; have hw1 : Below w.heap.size w w1 := bl_call (by repeat (first | exact Below.refl _ _ | assumption | (refine bl_alloc ?_ (Nat.le_refl _) _) | (refine bl_set ?_ (by simp <;> omega) _))) hb1; have hz1 : w.heap.size + 2 ≤ w1.heap.size := (by have hq := hb1.size; have hr := hw1.size; (try simp at hq); omega); have hza : w.heap.size < w1.heap.size := (by omega); have hzb : w.heap.size + 1 < w1.heap.size := (by omega); have hz4 := hb1.size; (try simp at hz4); (try have hz5 := Nat.lt_of_succ_le hz4)) | (go_at_call 87; (with_reducible refine (validFrac_i c d hq0 hq1 _).mono ?_); rintro e w1 ⟨rfl, hb1⟩; obtain ⟨hc1, hf1⟩ := bcell hb1; have hw1 : Below w.heap.size w w1 := bl_call (by repeat (first | exact Below.refl _ _ | assumption | (refine bl_alloc ?_ (Nat.le_refl _) _) | (refine bl_set ?_ (by simp <;> omega) _))) hb1; have hz1 : w.heap.size + 2 ≤ w1.heap.size := (by have hq := hb1.size; have hr := hw1.size; (try simp at hq); omega); have hza : w.heap.size < w1.heap.size := (by omega); have hzb : w.heap.size + 1 < w1.heap.size := (by omega); have hz4 := hb1.size; (try simp at hz4); (try have hz5 := Nat.lt_of_succ_le hz4)) | (go_at_call 90; (with_reducible refine (sign64_i _ _).mono ?_); rintro e w1 ⟨rfl, rfl⟩))
      go_ret
      exact ⟨ret_int HR.out.symm, (by repeat (first | exact Below.refl _ _ | assumption | (refine bl_alloc ?_ (Nat.le_refl _) _) | (refine bl_set ?_ (by simp <;> omega) _)))⟩
set_option maxHeartbeats 400000 in
theorem floorFrac_i (a b : Int) (ha0 : -9223372036854775808 ≤ a) (ha1 : a ≤ 9223372036854775807) (w : World) : Calls Try.prog 47 #[.agg #[.int .i64 a, .int .i64 b]] w fun e w' => e = .returned (.int .i64 (floorR a b)) ∧ Below w.heap.size w w' := by
  cases h1 : okFr a b
  · have HR := hide (show floorR a b = 0 by unfold floorR; rw [h1]; rfl)
    go_enter Try.func47, Try.ntmps47
    go_wp2_with (go_at_call 87; (with_reducible refine (validFrac_i a b ha0 ha1 _).mono ?_); rintro e w1 ⟨rfl, hb1⟩; obtain ⟨hc1, hf1⟩ := bcell hb1; have hw1 : Below w.heap.size w w1 := bl_call (by repeat (first | exact Below.refl _ _ | assumption | (refine bl_alloc ?_ (Nat.le_refl _) _) | (refine bl_set ?_ (by simp <;> omega) _))) hb1; have hz1 : w.heap.size + 1 ≤ w1.heap.size := (by have hq := hb1.size; have hr := hw1.size; (try simp at hq); omega); have hza : w.heap.size < w1.heap.size := (by omega); have hz4 := hb1.size; (try simp at hz4); (try have hz5 := Nat.lt_of_succ_le hz4))
    go_ret
    exact ⟨ret_int HR.out.symm, (by repeat (first | exact Below.refl _ _ | assumption | (refine bl_alloc ?_ (Nat.le_refl _) _) | (refine bl_set ?_ (by simp <;> omega) _)))⟩
  · have HR := hide (show floorR a b = a / b by unfold floorR; rw [h1]; rfl)
    obtain ⟨p1, p2, p3, p4, _⟩ := okFr_t h1
    go_enter Try.func47, Try.ntmps47
    go_wp2_with (first | (go_at_call 87; (with_reducible refine (validFrac_i a b ha0 ha1 _).mono ?_); rintro e w1 ⟨rfl, hb1⟩; obtain ⟨hc1, hf1⟩ := bcell hb1; have hw1 : Below w.heap.size w w1 := bl_call (by repeat (first | exact Below.refl _ _ | assumption | (refine bl_alloc ?_ (Nat.le_refl _) _) | (refine bl_set ?_ (by simp <;> omega) _))) hb1; have hz1 : w.heap.size + 1 ≤ w1.heap.size := (by have hq := hb1.size; have hr := hw1.size; (try simp at hq); omega); have hza : w.heap.size < w1.heap.size := (by omega); have hz4 := hb1.size; (try simp at hz4); (try have hz5 := Nat.lt_of_succ_le hz4)) | (go_at_call 92; (with_reducible refine (floorDiv_any a b ha0 ha1 p1 (by omega) _).mono ?_); rintro e w1 ⟨rfl, rfl⟩))
    go_ret
    exact ⟨ret_int HR.out.symm, (by repeat (first | exact Below.refl _ _ | assumption | (refine bl_alloc ?_ (Nat.le_refl _) _) | (refine bl_set ?_ (by simp <;> omega) _)))⟩
set_option maxHeartbeats 400000 in
theorem roundFrac_i (a b : Int) (ha0 : -9223372036854775808 ≤ a) (ha1 : a ≤ 9223372036854775807) (w : World) : Calls Try.prog 46 #[.agg #[.int .i64 a, .int .i64 b]] w fun e w' => e = .returned (.int .i64 (roundR a b)) ∧ Below w.heap.size w w' := by
  cases h1 : okFr a b
  · have HR := hide (show roundR a b = 0 by unfold roundR; rw [h1]; rfl)
    go_enter Try.func46, Try.ntmps46
    go_wp2_with (go_at_call 87; (with_reducible refine (validFrac_i a b ha0 ha1 _).mono ?_); rintro e w1 ⟨rfl, hb1⟩; obtain ⟨hc1, hf1⟩ := bcell hb1; have hw1 : Below w.heap.size w w1 := bl_call (by repeat (first | exact Below.refl _ _ | assumption | (refine bl_alloc ?_ (Nat.le_refl _) _) | (refine bl_set ?_ (by simp <;> omega) _))) hb1; have hz1 : w.heap.size + 1 ≤ w1.heap.size := (by have hq := hb1.size; have hr := hw1.size; (try simp at hq); omega); have hza : w.heap.size < w1.heap.size := (by omega); have hz4 := hb1.size; (try simp at hz4); (try have hz5 := Nat.lt_of_succ_le hz4))
    go_ret
    exact ⟨ret_int HR.out.symm, (by repeat (first | exact Below.refl _ _ | assumption | (refine bl_alloc ?_ (Nat.le_refl _) _) | (refine bl_set ?_ (by simp <;> omega) _)))⟩
  · obtain ⟨p1, p2, p3, p4, _⟩ := okFr_t h1
    have HR := hide (show divRound a b = roundR a b by unfold roundR divRound; rw [h1, if_neg (by omega)]; rfl)
    go_enter Try.func46, Try.ntmps46
    go_wp2_with (first | (go_at_call 87; (with_reducible refine (validFrac_i a b ha0 ha1 _).mono ?_); rintro e w1 ⟨rfl, hb1⟩; obtain ⟨hc1, hf1⟩ := bcell hb1; have hw1 : Below w.heap.size w w1 := bl_call (by repeat (first | exact Below.refl _ _ | assumption | (refine bl_alloc ?_ (Nat.le_refl _) _) | (refine bl_set ?_ (by simp <;> omega) _))) hb1; have hz1 : w.heap.size + 1 ≤ w1.heap.size := (by have hq := hb1.size; have hr := hw1.size; (try simp at hq); omega); have hza : w.heap.size < w1.heap.size := (by omega); have hz4 := hb1.size; (try simp at hz4); (try have hz5 := Nat.lt_of_succ_le hz4)) | (go_at_call 91; (with_reducible refine (divRound_i a b ha0 ha1 (by omega) _).mono ?_); rintro e w1 ⟨rfl, rfl⟩))
    go_ret
    exact ⟨ret_int HR.out, (by repeat (first | exact Below.refl _ _ | assumption | (refine bl_alloc ?_ (Nat.le_refl _) _) | (refine bl_set ?_ (by simp <;> omega) _)))⟩
theorem prod_sc {n a : Int} (h0 : -1073741824 ≤ n) (h1 : n ≤ 1073741824) (g0 : -1000000000 ≤ a) (g1 : a ≤ 1000000000) : -1073741824000000000 ≤ n * a ∧ n * a ≤ 1073741824000000000 := by
  have h := mul_bd n a 1073741824 1000000000 (by omega) (by omega) (by omega) (by omega)
  omega
set_option maxHeartbeats 1000000 in
theorem scaleFrac_i (n a b : Int) (ha0 : -9223372036854775808 ≤ a) (ha1 : a ≤ 9223372036854775807) (w : World) : Calls Try.prog 49 #[.int .i64 n, .agg #[.int .i64 a, .int .i64 b]] w fun e w' => e = .returned (.tuple #[.int .i64 (scaleR n a b), .int .i64 (scaleC n a b)]) ∧ Below w.heap.size w w' := by
  cases h1 : okFr a b
  · have HR := hide (show scaleR n a b = 0 by unfold scaleR; rw [h1]; rfl)
    have HC := hide (show scaleC n a b = 1 by unfold scaleC; rw [h1]; rfl)
    go_enter Try.func49, Try.ntmps49
    go_wp2_with (go_at_call 87; (with_reducible refine (validFrac_i a b ha0 ha1 _).mono ?_); rintro e w1 ⟨rfl, hb1⟩; obtain ⟨hc1, hf1⟩ := bcell hb1; have hw1 : Below w.heap.size w w1 := bl_call (by repeat (first | exact Below.refl _ _ | assumption | (refine bl_alloc ?_ (Nat.le_refl _) _) | (refine bl_set ?_ (by simp <;> omega) _))) hb1; have hz1 : w.heap.size + 1 ≤ w1.heap.size := (by have hq := hb1.size; have hr := hw1.size; (try simp at hq); omega); have hza : w.heap.size < w1.heap.size := (by omega); have hz4 := hb1.size; (try simp at hz4); (try have hz5 := Nat.lt_of_succ_le hz4))
    go_ret2
    exact ⟨by rw [HR.out, HC.out]; rfl, (by repeat (first | exact Below.refl _ _ | assumption | (refine bl_alloc ?_ (Nat.le_refl _) _) | (refine bl_set ?_ (by simp <;> omega) _)))⟩
  · obtain ⟨p1, p2, p3, p4, _⟩ := okFr_t h1
    cases h2 : inB n (-1073741824) 1073741824
    · have HR := hide (show scaleR n a b = 0 by unfold scaleR; rw [h1, h2]; rfl)
      have HC := hide (show scaleC n a b = 2 by unfold scaleC; rw [h1, h2]; rfl)
      have h3 := inB_f h2
      by_cases h4 : n < -1073741824
      · have h5 : decide (n < -1073741824) = true := by simp; omega
        clear h3 h4
        go_enter Try.func49, Try.ntmps49
        go_wp2_with (go_at_call 87; (with_reducible refine (validFrac_i a b ha0 ha1 _).mono ?_); rintro e w1 ⟨rfl, hb1⟩; obtain ⟨hc1, hf1⟩ := bcell hb1; have hw1 : Below w.heap.size w w1 := bl_call (by repeat (first | exact Below.refl _ _ | assumption | (refine bl_alloc ?_ (Nat.le_refl _) _) | (refine bl_set ?_ (by simp <;> omega) _))) hb1; have hz1 : w.heap.size + 1 ≤ w1.heap.size := (by have hq := hb1.size; have hr := hw1.size; (try simp at hq); omega); have hza : w.heap.size < w1.heap.size := (by omega); have hz4 := hb1.size; (try simp at hz4); (try have hz5 := Nat.lt_of_succ_le hz4))
        go_ret2
        exact ⟨by rw [HR.out, HC.out]; rfl, (by repeat (first | exact Below.refl _ _ | assumption | (refine bl_alloc ?_ (Nat.le_refl _) _) | (refine bl_set ?_ (by simp <;> omega) _)))⟩
      · have h5 : decide (n < -1073741824) = false := by simp; omega
        have h6 : decide (1073741824 < n) = true := by simp; omega
        clear h3 h4
        go_enter Try.func49, Try.ntmps49
        go_wp2_with (go_at_call 87; (with_reducible refine (validFrac_i a b ha0 ha1 _).mono ?_); rintro e w1 ⟨rfl, hb1⟩; obtain ⟨hc1, hf1⟩ := bcell hb1; have hw1 : Below w.heap.size w w1 := bl_call (by repeat (first | exact Below.refl _ _ | assumption | (refine bl_alloc ?_ (Nat.le_refl _) _) | (refine bl_set ?_ (by simp <;> omega) _))) hb1; have hz1 : w.heap.size + 1 ≤ w1.heap.size := (by have hq := hb1.size; have hr := hw1.size; (try simp at hq); omega); have hza : w.heap.size < w1.heap.size := (by omega); have hz4 := hb1.size; (try simp at hz4); (try have hz5 := Nat.lt_of_succ_le hz4))
        go_ret2
        exact ⟨by rw [HR.out, HC.out]; rfl, (by repeat (first | exact Below.refl _ _ | assumption | (refine bl_alloc ?_ (Nat.le_refl _) _) | (refine bl_set ?_ (by simp <;> omega) _)))⟩
    · obtain ⟨q1, q2⟩ := inB_t h2
      obtain ⟨u1, u2⟩ := prod_sc q1 q2 p3 p4
      have HR := hide (show divRound (n * a) b = scaleR n a b by unfold scaleR divRound; rw [h1, h2, if_neg (by omega)]; rfl)
      have HC := hide (show scaleC n a b = 0 by unfold scaleC; rw [h1, h2]; rfl)
      have h5 : decide (n < -1073741824) = false := by simp; omega
      have h6 : decide (1073741824 < n) = false := by simp; omega
      go_enter Try.func49, Try.ntmps49
      go_wp2_with (first | (go_at_call 87; (with_reducible refine (validFrac_i a b ha0 ha1 _).mono ?_); rintro e w1 ⟨rfl, hb1⟩; obtain ⟨hc1, hf1⟩ := bcell hb1; have hw1 : Below w.heap.size w w1 := bl_call (by repeat (first | exact Below.refl _ _ | assumption | (refine bl_alloc ?_ (Nat.le_refl _) _) | (refine bl_set ?_ (by simp <;> omega) _))) hb1; have hz1 : w.heap.size + 1 ≤ w1.heap.size := (by have hq := hb1.size; have hr := hw1.size; (try simp at hq); omega); have hza : w.heap.size < w1.heap.size := (by omega); have hz4 := hb1.size; (try simp at hz4); (try have hz5 := Nat.lt_of_succ_le hz4)) | (go_at_call 91; (with_reducible refine (divRound_i (n * a) b (by omega) (by omega) (by omega) _).mono ?_); rintro e w1 ⟨rfl, rfl⟩))
      go_ret2
      exact ⟨by rw [← HR.out, HC.out]; rfl, (by repeat (first | exact Below.refl _ _ | assumption | (refine bl_alloc ?_ (Nat.le_refl _) _) | (refine bl_set ?_ (by simp <;> omega) _)))⟩
end Go.Proofs.Ythellegojnndlaa
