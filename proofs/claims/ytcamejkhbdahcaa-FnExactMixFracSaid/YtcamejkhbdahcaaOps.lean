/-
  CONTRACTS of the operations on fractions (AddFrac, SubFrac, MulFrac, DivFrac; packages impl and spec): what each returns at every pair of fractions; no cell that was there is written. And the walks of their laws. Conditions: the numbers are of 64 bits.
-/
import Derived.Test.YtcamejkhbdahcaaFr
import Derived.Test.YtcamejkhbdahcaaTail
namespace Go.Proofs.Ytcamejkhbdahcaa
open Go.RowKit Go.Sort
set_option linter.unusedVariables false
attribute [local go_sem] cell_grow frozen_grow
attribute [local go_sem] Oper.quietAt Oper.quietUpon

/-- a fraction made of two numbers, if the arguments are valid -/
def rN (ok : Bool) (n d : Int) : Int := if ok then mkN n d else 0
def rD (ok : Bool) (n d : Int) : Int := if ok then mkD n d else 0
def rC (ok : Bool) (n d : Int) : Int := if ok then mkC n d else 1
theorem prod_nd {n d : Int} (hn0 : -1000000000 ≤ n) (hn1 : n ≤ 1000000000) (hd0 : 1 ≤ d) (hd1 : d ≤ 1000000) : -1000000000000000 ≤ n * d ∧ n * d ≤ 1000000000000000 := by
  have h := mul_bd n d 1000000000 1000000 (by omega) (by omega) (by omega) (by omega)
  omega
theorem prod_nn {n d : Int} (hn0 : -1000000000 ≤ n) (hn1 : n ≤ 1000000000) (hd0 : -1000000000 ≤ d) (hd1 : d ≤ 1000000000) : -1000000000000000000 ≤ n * d ∧ n * d ≤ 1000000000000000000 := by
  have h := mul_bd n d 1000000000 1000000000 (by omega) (by omega) (by omega) (by omega)
  omega
theorem prod_dd {n d : Int} (hn0 : 1 ≤ n) (hn1 : n ≤ 1000000) (hd0 : 1 ≤ d) (hd1 : d ≤ 1000000) : 1 ≤ n * d ∧ n * d ≤ 1000000000000 := by
  have h := mul_bd n d 1000000 1000000 (by omega) (by omega) (by omega) (by omega)
  have h2 := Int.mul_le_mul hn0 hd0 (by omega) (by omega)
  omega
def addN (a b c d : Int) : Int := rN (okFr a b && okFr c d) (a * d + c * b) (b * d)
def addD (a b c d : Int) : Int := rD (okFr a b && okFr c d) (a * d + c * b) (b * d)
def addC (a b c d : Int) : Int := rC (okFr a b && okFr c d) (a * d + c * b) (b * d)

set_option maxHeartbeats 1000000 in
theorem addFrac_i (a b c d : Int) (ha0 : -9223372036854775808 ≤ a) (ha1 : a ≤ 9223372036854775807) (hq0 : -9223372036854775808 ≤ c) (hq1 : c ≤ 9223372036854775807) (w : World) :
    Calls Try.prog 30 #[.agg #[.int .i64 a, .int .i64 b], .agg #[.int .i64 c, .int .i64 d]] w fun e w' => e = .returned (.tuple #[.agg #[.int .i64 (addN a b c d), .int .i64 (addD a b c d)], .int .i64 (addC a b c d)]) ∧ Below w.heap.size w w' := by
  by_cases h : okFr a b = true ∧ okFr c d = true
  · obtain ⟨h1, h2⟩ := h
    obtain ⟨p1, p2, p3, p4, _⟩ := okFr_t h1
    obtain ⟨q1, q2, q3, q4, _⟩ := okFr_t h2
    have u1 := prod_nd p3 p4 q1 q2
    have u2 := prod_nd q3 q4 p1 p2
    have u3 := prod_dd p1 p2 q1 q2
    obtain ⟨u10, u11⟩ := u1
    obtain ⟨u20, u21⟩ := u2
    obtain ⟨u30, u31⟩ := u3
    have HN := hide (show addN a b c d = mkN (a * d + c * b) (b * d) by unfold addN rN; rw [h1, h2]; rfl)
    have HD := hide (show addD a b c d = mkD (a * d + c * b) (b * d) by unfold addD rD; rw [h1, h2]; rfl)
    have HC := hide (show addC a b c d = mkC (a * d + c * b) (b * d) by unfold addC rC; rw [h1, h2]; rfl)
    go_enter Try.func30, Try.ntmps30
    go_wp2_with (first | (go_at_call 17; (with_reducible refine (validFrac_i a b ha0 ha1 _).mono ?_); rintro e w1 ⟨rfl, hb1⟩; obtain ⟨hc1, hf1⟩ := bcell hb1; have hw1 : Below w.heap.size w w1 := bl_call (by repeat (first | exact Below.refl _ _ | assumption | (refine bl_alloc ?_ (Nat.le_refl _) _) | (refine bl_set ?_ (by simp <;> omega) _))) hb1; have hz1 : w.heap.size + 3 ≤ w1.heap.size := (by have hq := hb1.size; have hr := hw1.size; (try simp at hq); omega); have hza : w.heap.size < w1.heap.size := (by omega); have hzb : w.heap.size + 1 < w1.heap.size := (by omega); have hzc : w.heap.size + 1 + 1 < w1.heap.size := (by omega); have hz4 := hb1.size; (try simp at hz4); (try have hz5 := Nat.lt_of_succ_le hz4)) | (go_at_call 17; (with_reducible refine (validFrac_i c d hq0 hq1 _).mono ?_); rintro e w1 ⟨rfl, hb1⟩; obtain ⟨hc1, hf1⟩ := bcell hb1; have hw1 : Below w.heap.size w w1 := bl_call (by repeat (first | exact Below.refl _ _ | assumption | (refine bl_alloc ?_ (Nat.le_refl _) _) | (refine bl_set ?_ (by simp <;> omega) _))) hb1; have hz1 : w.heap.size + 3 ≤ w1.heap.size := (by have hq := hb1.size; have hr := hw1.size; (try simp at hq); omega); have hza : w.heap.size < w1.heap.size := (by omega); have hzb : w.heap.size + 1 < w1.heap.size := (by omega); have hzc : w.heap.size + 1 + 1 < w1.heap.size := (by omega); have hz4 := hb1.size; (try simp at hz4); (try have hz5 := Nat.lt_of_succ_le hz4)) | (go_at_call 21; (with_reducible refine (makeFrac_i (a * d + c * b) (b * d) (by omega) (by omega) (by omega) (by omega) _).mono ?_); rintro e w1 ⟨rfl, hb1⟩; obtain ⟨hc1, hf1⟩ := bcell hb1; have hw1 : Below w.heap.size w w1 := bl_call (by repeat (first | exact Below.refl _ _ | assumption | (refine bl_alloc ?_ (Nat.le_refl _) _) | (refine bl_set ?_ (by simp <;> omega) _))) hb1; have hz1 : w.heap.size + 3 ≤ w1.heap.size := (by have hq := hb1.size; have hr := hw1.size; (try simp at hq); omega); have hza : w.heap.size < w1.heap.size := (by omega); have hzb : w.heap.size + 1 < w1.heap.size := (by omega); have hzc : w.heap.size + 1 + 1 < w1.heap.size := (by omega); have hz4 := hb1.size; (try simp at hz4); (try have hz5 := Nat.lt_of_succ_le hz4)))
    refine bodyPost_ret (v := .tuple #[.agg #[.int .i64 (addN a b c d), .int .i64 (addD a b c d)], .int .i64 (addC a b c d)]) ?_ rfl ⟨rfl, (by repeat (first | exact Below.refl _ _ | assumption | (refine bl_alloc ?_ (Nat.le_refl _) _) | (refine bl_set ?_ (by simp <;> omega) _)))⟩
    rw [HN.out, HD.out, HC.out]
    simp [results, Try.results30, go_sem, *]
  · cases h1 : okFr a b
    · clear h
      have HN := hide (show addN a b c d = 0 by unfold addN rN; rw [h1]; rfl)
      have HD := hide (show addD a b c d = 0 by unfold addD rD; rw [h1]; rfl)
      have HC := hide (show addC a b c d = 1 by unfold addC rC; rw [h1]; rfl)
      go_enter Try.func30, Try.ntmps30
      go_wp2_with (first | (go_at_call 17; (with_reducible refine (validFrac_i a b ha0 ha1 _).mono ?_); rintro e w1 ⟨rfl, hb1⟩; obtain ⟨hc1, hf1⟩ := bcell hb1; have hw1 : Below w.heap.size w w1 := bl_call (by repeat (first | exact Below.refl _ _ | assumption | (refine bl_alloc ?_ (Nat.le_refl _) _) | (refine bl_set ?_ (by simp <;> omega) _))) hb1; have hz1 : w.heap.size + 3 ≤ w1.heap.size := (by have hq := hb1.size; have hr := hw1.size; (try simp at hq); omega); have hza : w.heap.size < w1.heap.size := (by omega); have hzb : w.heap.size + 1 < w1.heap.size := (by omega); have hzc : w.heap.size + 1 + 1 < w1.heap.size := (by omega); have hz4 := hb1.size; (try simp at hz4); (try have hz5 := Nat.lt_of_succ_le hz4)) | (go_at_call 17; (with_reducible refine (validFrac_i c d hq0 hq1 _).mono ?_); rintro e w1 ⟨rfl, hb1⟩; obtain ⟨hc1, hf1⟩ := bcell hb1; have hw1 : Below w.heap.size w w1 := bl_call (by repeat (first | exact Below.refl _ _ | assumption | (refine bl_alloc ?_ (Nat.le_refl _) _) | (refine bl_set ?_ (by simp <;> omega) _))) hb1; have hz1 : w.heap.size + 3 ≤ w1.heap.size := (by have hq := hb1.size; have hr := hw1.size; (try simp at hq); omega); have hza : w.heap.size < w1.heap.size := (by omega); have hzb : w.heap.size + 1 < w1.heap.size := (by omega); have hzc : w.heap.size + 1 + 1 < w1.heap.size := (by omega); have hz4 := hb1.size; (try simp at hz4); (try have hz5 := Nat.lt_of_succ_le hz4)))
      refine bodyPost_ret (v := .tuple #[.agg #[.int .i64 (addN a b c d), .int .i64 (addD a b c d)], .int .i64 (addC a b c d)]) ?_ rfl ⟨rfl, (by repeat (first | exact Below.refl _ _ | assumption | (refine bl_alloc ?_ (Nat.le_refl _) _) | (refine bl_set ?_ (by simp <;> omega) _)))⟩
      rw [HN.out, HD.out, HC.out]
      simp [results, Try.results30, go_sem, *]
    · have h2 : okFr c d = false := by simpa [h1] using h
      clear h
      have HN := hide (show addN a b c d = 0 by unfold addN rN; rw [h1, h2]; rfl)
      have HD := hide (show addD a b c d = 0 by unfold addD rD; rw [h1, h2]; rfl)
      have HC := hide (show addC a b c d = 1 by unfold addC rC; rw [h1, h2]; rfl)
      go_enter Try.func30, Try.ntmps30
      go_wp2_with (first | (go_at_call 17; (with_reducible refine (validFrac_i a b ha0 ha1 _).mono ?_); rintro e w1 ⟨rfl, hb1⟩; obtain ⟨hc1, hf1⟩ := bcell hb1; have hw1 : Below w.heap.size w w1 := bl_call (by repeat (first | exact Below.refl _ _ | assumption | (refine bl_alloc ?_ (Nat.le_refl _) _) | (refine bl_set ?_ (by simp <;> omega) _))) hb1; have hz1 : w.heap.size + 3 ≤ w1.heap.size := (by have hq := hb1.size; have hr := hw1.size; (try simp at hq); omega); have hza : w.heap.size < w1.heap.size := (by omega); have hzb : w.heap.size + 1 < w1.heap.size := (by omega); have hzc : w.heap.size + 1 + 1 < w1.heap.size := (by omega); have hz4 := hb1.size; (try simp at hz4); (try have hz5 := Nat.lt_of_succ_le hz4)) | (go_at_call 17; (with_reducible refine (validFrac_i c d hq0 hq1 _).mono ?_); rintro e w1 ⟨rfl, hb1⟩; obtain ⟨hc1, hf1⟩ := bcell hb1; have hw1 : Below w.heap.size w w1 := bl_call (by repeat (first | exact Below.refl _ _ | assumption | (refine bl_alloc ?_ (Nat.le_refl _) _) | (refine bl_set ?_ (by simp <;> omega) _))) hb1; have hz1 : w.heap.size + 3 ≤ w1.heap.size := (by have hq := hb1.size; have hr := hw1.size; (try simp at hq); omega); have hza : w.heap.size < w1.heap.size := (by omega); have hzb : w.heap.size + 1 < w1.heap.size := (by omega); have hzc : w.heap.size + 1 + 1 < w1.heap.size := (by omega); have hz4 := hb1.size; (try simp at hz4); (try have hz5 := Nat.lt_of_succ_le hz4)))
      refine bodyPost_ret (v := .tuple #[.agg #[.int .i64 (addN a b c d), .int .i64 (addD a b c d)], .int .i64 (addC a b c d)]) ?_ rfl ⟨rfl, (by repeat (first | exact Below.refl _ _ | assumption | (refine bl_alloc ?_ (Nat.le_refl _) _) | (refine bl_set ?_ (by simp <;> omega) _)))⟩
      rw [HN.out, HD.out, HC.out]
      simp [results, Try.results30, go_sem, *]

set_option maxHeartbeats 1000000 in
theorem addFrac_s (a b c d : Int) (ha0 : -9223372036854775808 ≤ a) (ha1 : a ≤ 9223372036854775807) (hq0 : -9223372036854775808 ≤ c) (hq1 : c ≤ 9223372036854775807) (w : World) :
    Calls Try.prog 29 #[.agg #[.int .i64 a, .int .i64 b], .agg #[.int .i64 c, .int .i64 d]] w fun e w' => e = .returned (.tuple #[.agg #[.int .i64 (addN a b c d), .int .i64 (addD a b c d)], .int .i64 (addC a b c d)]) ∧ Below w.heap.size w w' := by
  by_cases h : okFr a b = true ∧ okFr c d = true
  · obtain ⟨h1, h2⟩ := h
    obtain ⟨p1, p2, p3, p4, _⟩ := okFr_t h1
    obtain ⟨q1, q2, q3, q4, _⟩ := okFr_t h2
    have u1 := prod_nd p3 p4 q1 q2
    have u2 := prod_nd q3 q4 p1 p2
    have u3 := prod_dd p1 p2 q1 q2
    obtain ⟨u10, u11⟩ := u1
    obtain ⟨u20, u21⟩ := u2
    obtain ⟨u30, u31⟩ := u3
    have HN := hide (show addN a b c d = mkN (a * d + c * b) (b * d) by unfold addN rN; rw [h1, h2]; rfl)
    have HD := hide (show addD a b c d = mkD (a * d + c * b) (b * d) by unfold addD rD; rw [h1, h2]; rfl)
    have HC := hide (show addC a b c d = mkC (a * d + c * b) (b * d) by unfold addC rC; rw [h1, h2]; rfl)
    go_enter Try.func29, Try.ntmps29
    go_wp2_with (first | (go_at_call 41; (with_reducible refine (l02Ok_any a b ha0 ha1 _).mono ?_); rintro e w1 ⟨rfl, hb1⟩; obtain ⟨hc1, hf1⟩ := bcell hb1; have hw1 : Below w.heap.size w w1 := bl_call (by repeat (first | exact Below.refl _ _ | assumption | (refine bl_alloc ?_ (Nat.le_refl _) _) | (refine bl_set ?_ (by simp <;> omega) _))) hb1; have hz1 : w.heap.size + 3 ≤ w1.heap.size := (by have hq := hb1.size; have hr := hw1.size; (try simp at hq); omega); have hza : w.heap.size < w1.heap.size := (by omega); have hzb : w.heap.size + 1 < w1.heap.size := (by omega); have hzc : w.heap.size + 1 + 1 < w1.heap.size := (by omega); have hz4 := hb1.size; (try simp at hz4); (try have hz5 := Nat.lt_of_succ_le hz4)) | (go_at_call 41; (with_reducible refine (l02Ok_any c d hq0 hq1 _).mono ?_); rintro e w1 ⟨rfl, hb1⟩; obtain ⟨hc1, hf1⟩ := bcell hb1; have hw1 : Below w.heap.size w w1 := bl_call (by repeat (first | exact Below.refl _ _ | assumption | (refine bl_alloc ?_ (Nat.le_refl _) _) | (refine bl_set ?_ (by simp <;> omega) _))) hb1; have hz1 : w.heap.size + 3 ≤ w1.heap.size := (by have hq := hb1.size; have hr := hw1.size; (try simp at hq); omega); have hza : w.heap.size < w1.heap.size := (by omega); have hzb : w.heap.size + 1 < w1.heap.size := (by omega); have hzc : w.heap.size + 1 + 1 < w1.heap.size := (by omega); have hz4 := hb1.size; (try simp at hz4); (try have hz5 := Nat.lt_of_succ_le hz4)) | (go_at_call 20; (with_reducible refine (makeFrac_s (a * d + c * b) (b * d) (by omega) (by omega) (by omega) (by omega) _).mono ?_); rintro e w1 ⟨rfl, hb1⟩; obtain ⟨hc1, hf1⟩ := bcell hb1; have hw1 : Below w.heap.size w w1 := bl_call (by repeat (first | exact Below.refl _ _ | assumption | (refine bl_alloc ?_ (Nat.le_refl _) _) | (refine bl_set ?_ (by simp <;> omega) _))) hb1; have hz1 : w.heap.size + 3 ≤ w1.heap.size := (by have hq := hb1.size; have hr := hw1.size; (try simp at hq); omega); have hza : w.heap.size < w1.heap.size := (by omega); have hzb : w.heap.size + 1 < w1.heap.size := (by omega); have hzc : w.heap.size + 1 + 1 < w1.heap.size := (by omega); have hz4 := hb1.size; (try simp at hz4); (try have hz5 := Nat.lt_of_succ_le hz4)))
    refine bodyPost_ret (v := .tuple #[.agg #[.int .i64 (addN a b c d), .int .i64 (addD a b c d)], .int .i64 (addC a b c d)]) ?_ rfl ⟨rfl, (by repeat (first | exact Below.refl _ _ | assumption | (refine bl_alloc ?_ (Nat.le_refl _) _) | (refine bl_set ?_ (by simp <;> omega) _)))⟩
    rw [HN.out, HD.out, HC.out]
    simp [results, Try.results29, go_sem, *]
  · cases h1 : okFr a b
    · clear h
      have HN := hide (show addN a b c d = 0 by unfold addN rN; rw [h1]; rfl)
      have HD := hide (show addD a b c d = 0 by unfold addD rD; rw [h1]; rfl)
      have HC := hide (show addC a b c d = 1 by unfold addC rC; rw [h1]; rfl)
      go_enter Try.func29, Try.ntmps29
      go_wp2_with (first | (go_at_call 41; (with_reducible refine (l02Ok_any a b ha0 ha1 _).mono ?_); rintro e w1 ⟨rfl, hb1⟩; obtain ⟨hc1, hf1⟩ := bcell hb1; have hw1 : Below w.heap.size w w1 := bl_call (by repeat (first | exact Below.refl _ _ | assumption | (refine bl_alloc ?_ (Nat.le_refl _) _) | (refine bl_set ?_ (by simp <;> omega) _))) hb1; have hz1 : w.heap.size + 3 ≤ w1.heap.size := (by have hq := hb1.size; have hr := hw1.size; (try simp at hq); omega); have hza : w.heap.size < w1.heap.size := (by omega); have hzb : w.heap.size + 1 < w1.heap.size := (by omega); have hzc : w.heap.size + 1 + 1 < w1.heap.size := (by omega); have hz4 := hb1.size; (try simp at hz4); (try have hz5 := Nat.lt_of_succ_le hz4)) | (go_at_call 41; (with_reducible refine (l02Ok_any c d hq0 hq1 _).mono ?_); rintro e w1 ⟨rfl, hb1⟩; obtain ⟨hc1, hf1⟩ := bcell hb1; have hw1 : Below w.heap.size w w1 := bl_call (by repeat (first | exact Below.refl _ _ | assumption | (refine bl_alloc ?_ (Nat.le_refl _) _) | (refine bl_set ?_ (by simp <;> omega) _))) hb1; have hz1 : w.heap.size + 3 ≤ w1.heap.size := (by have hq := hb1.size; have hr := hw1.size; (try simp at hq); omega); have hza : w.heap.size < w1.heap.size := (by omega); have hzb : w.heap.size + 1 < w1.heap.size := (by omega); have hzc : w.heap.size + 1 + 1 < w1.heap.size := (by omega); have hz4 := hb1.size; (try simp at hz4); (try have hz5 := Nat.lt_of_succ_le hz4)))
      refine bodyPost_ret (v := .tuple #[.agg #[.int .i64 (addN a b c d), .int .i64 (addD a b c d)], .int .i64 (addC a b c d)]) ?_ rfl ⟨rfl, (by repeat (first | exact Below.refl _ _ | assumption | (refine bl_alloc ?_ (Nat.le_refl _) _) | (refine bl_set ?_ (by simp <;> omega) _)))⟩
      rw [HN.out, HD.out, HC.out]
      simp [results, Try.results29, go_sem, *]
    · have h2 : okFr c d = false := by simpa [h1] using h
      clear h
      have HN := hide (show addN a b c d = 0 by unfold addN rN; rw [h1, h2]; rfl)
      have HD := hide (show addD a b c d = 0 by unfold addD rD; rw [h1, h2]; rfl)
      have HC := hide (show addC a b c d = 1 by unfold addC rC; rw [h1, h2]; rfl)
      go_enter Try.func29, Try.ntmps29
      go_wp2_with (first | (go_at_call 41; (with_reducible refine (l02Ok_any a b ha0 ha1 _).mono ?_); rintro e w1 ⟨rfl, hb1⟩; obtain ⟨hc1, hf1⟩ := bcell hb1; have hw1 : Below w.heap.size w w1 := bl_call (by repeat (first | exact Below.refl _ _ | assumption | (refine bl_alloc ?_ (Nat.le_refl _) _) | (refine bl_set ?_ (by simp <;> omega) _))) hb1; have hz1 : w.heap.size + 3 ≤ w1.heap.size := (by have hq := hb1.size; have hr := hw1.size; (try simp at hq); omega); have hza : w.heap.size < w1.heap.size := (by omega); have hzb : w.heap.size + 1 < w1.heap.size := (by omega); have hzc : w.heap.size + 1 + 1 < w1.heap.size := (by omega); have hz4 := hb1.size; (try simp at hz4); (try have hz5 := Nat.lt_of_succ_le hz4)) | (go_at_call 41; (with_reducible refine (l02Ok_any c d hq0 hq1 _).mono ?_); rintro e w1 ⟨rfl, hb1⟩; obtain ⟨hc1, hf1⟩ := bcell hb1; have hw1 : Below w.heap.size w w1 := bl_call (by repeat (first | exact Below.refl _ _ | assumption | (refine bl_alloc ?_ (Nat.le_refl _) _) | (refine bl_set ?_ (by simp <;> omega) _))) hb1; have hz1 : w.heap.size + 3 ≤ w1.heap.size := (by have hq := hb1.size; have hr := hw1.size; (try simp at hq); omega); have hza : w.heap.size < w1.heap.size := (by omega); have hzb : w.heap.size + 1 < w1.heap.size := (by omega); have hzc : w.heap.size + 1 + 1 < w1.heap.size := (by omega); have hz4 := hb1.size; (try simp at hz4); (try have hz5 := Nat.lt_of_succ_le hz4)))
      refine bodyPost_ret (v := .tuple #[.agg #[.int .i64 (addN a b c d), .int .i64 (addD a b c d)], .int .i64 (addC a b c d)]) ?_ rfl ⟨rfl, (by repeat (first | exact Below.refl _ _ | assumption | (refine bl_alloc ?_ (Nat.le_refl _) _) | (refine bl_set ?_ (by simp <;> omega) _)))⟩
      rw [HN.out, HD.out, HC.out]
      simp [results, Try.results29, go_sem, *]
set_option maxHeartbeats 1000000 in
theorem fnAddFrac (a b c d : Int) (wa : (Lit.int .i64 a).wf = true) (wb : (Lit.int .i64 b).wf = true) (wc : (Lit.int .i64 c).wf = true) (wd : (Lit.int .i64 d).wf = true) (w : World) :
    Calls Try.prog 9 #[.agg #[.int .i64 a, .int .i64 b], .agg #[.int .i64 c, .int .i64 d]] w fun e w' => e = .returned (.bool true) ∧ Below w.heap.size w w' := by
  obtain ⟨ha0, ha1⟩ := wf64 wa
  obtain ⟨hq0, hq1⟩ := wf64 wc
  have he := eqB_self (addN a b c d) (addD a b c d)
  go_enter Try.func9, Try.ntmps9
  go_wp2
  refine wp_region_made 8 _ _ (.cells #[.int .i64 0, .int .i64 0] 25) (.cells #[.int .i64 (addN a b c d), .int .i64 (addD a b c d)] 25) (by kernel_rfl) (by kernel_rfl) rfl rfl (fun _ _ => by kernel_rfl) ?_
  simp only [List.take_succ_cons, List.take_zero, List.drop_succ_cons, List.drop_zero]
  repeat (refine wpSteady_step (fun K hK => ?_); go_simp; first | (refine hK _ ?_; clear hK K) | (apply Exists.intro; refine ⟨fun _ => ?_, hK _ ?_⟩; (first | (go_at_call 16; with_reducible exact keeps_of (toFrac_any _ _ _)) | (go_at_call 29; with_reducible exact keeps_of (addFrac_s a b c d ha0 ha1 hq0 hq1 _))); clear hK K))
  refine wpSteady_nil ?_
  refine ⟨?_, ?_⟩
  · intro gx w1 _ hx
    have hk := cell_blk hx
    have hf := frozen_blk hx
    exact ⟨(World.setCell (World.setCell w1 ⟨gx, 0, none⟩ (.int .i64 (addN a b c d))) ⟨gx, 1, none⟩ (.int .i64 (addD a b c d))), (by simp [go_sem, hk, hf]), (heap_set (heap_set hx 0 _) 1 _), (only_set ((only_set (only_refl w1 gx) 0 _)) 1 _)⟩
  intro gx w1 hgx hlx hb1 hx
  have hkx := cell_blk hx
  have hfx := frozen_blk hx
  clear hx
  try simp at hgx
  obtain ⟨hc1, hf1⟩ := bcell hb1
  have hw1 : Below w.heap.size w w1 := bl_call (by repeat (first | exact Below.refl _ _ | assumption | (refine bl_alloc ?_ (Nat.le_refl _) _) | (refine bl_set ?_ (by simp <;> omega) _))) hb1
  have hz1 : w.heap.size + 2 ≤ w1.heap.size := (by have hq := hb1.size; have hr := hw1.size; (try simp at hq); omega)
  have hza : w.heap.size < w1.heap.size := (by omega)
  have hzb : w.heap.size + 1 < w1.heap.size := (by omega)
  go_wp2
  refine wp_region_made 8 _ _ (.cells #[.int .i64 0, .int .i64 0] 25) (.cells #[.int .i64 (addN a b c d), .int .i64 (addD a b c d)] 25) (by kernel_rfl) (by kernel_rfl) rfl rfl (fun _ _ => by kernel_rfl) ?_
  simp only [List.take_succ_cons, List.take_zero, List.drop_succ_cons, List.drop_zero]
  repeat (refine wpSteady_step (fun K hK => ?_); go_simp; first | (refine hK _ ?_; clear hK K) | (apply Exists.intro; refine ⟨fun _ => ?_, hK _ ?_⟩; (first | (go_at_call 16; with_reducible exact keeps_of (toFrac_any _ _ _)) | (go_at_call 30; with_reducible exact keeps_of (addFrac_i a b c d ha0 ha1 hq0 hq1 _))); clear hK K))
  refine wpSteady_nil ?_
  refine ⟨?_, ?_⟩
  · intro gy w1 _ hx
    have hk := cell_blk hx
    have hf := frozen_blk hx
    exact ⟨(World.setCell (World.setCell w1 ⟨gy, 0, none⟩ (.int .i64 (addN a b c d))) ⟨gy, 1, none⟩ (.int .i64 (addD a b c d))), (by simp [go_sem, hk, hf]), (heap_set (heap_set hx 0 _) 1 _), (only_set ((only_set (only_refl w1 gy) 0 _)) 1 _)⟩
  intro gy w1 hgy hly hb1 hx
  have hky := cell_blk hx
  have hfy := frozen_blk hx
  clear hx
  try simp at hgy
  obtain ⟨hc1, hf1⟩ := bcell hb1
  have hw1 : Below w.heap.size w w1 := bl_call (by repeat (first | exact Below.refl _ _ | assumption | (refine bl_alloc ?_ (Nat.le_refl _) _) | (refine bl_set ?_ (by simp <;> omega) _))) hb1
  have hz1 : w.heap.size + 2 ≤ w1.heap.size := (by have hq := hb1.size; have hr := hw1.size; (try simp at hq); omega)
  have hza : w.heap.size < w1.heap.size := (by omega)
  have hzb : w.heap.size + 1 < w1.heap.size := (by omega)
  go_wp2_with (go_at_call 22; (with_reducible refine (eqFrac_any _ _ _ _ _).mono ?_); rintro e w1 ⟨rfl, hb1⟩; obtain ⟨hc1, hf1⟩ := bcell hb1; have hw1 : Below w.heap.size w w1 := bl_call (by repeat (first | exact Below.refl _ _ | assumption | (refine bl_alloc ?_ (Nat.le_refl _) _) | (refine bl_set ?_ (by simp <;> omega) _))) hb1; have hz1 : w.heap.size + 2 ≤ w1.heap.size := (by have hq := hb1.size; have hr := hw1.size; (try simp at hq); omega); have hza : w.heap.size < w1.heap.size := (by omega); have hzb : w.heap.size + 1 < w1.heap.size := (by omega); have hz4 := hb1.size; (try simp at hz4); (try have hz5 := Nat.lt_of_succ_le hz4))
  go_ret
  exact ⟨rfl, (by repeat (first | exact Below.refl _ _ | assumption | (refine bl_alloc ?_ (Nat.le_refl _) _) | (refine bl_set ?_ (by simp <;> omega) _)))⟩
def subN (a b c d : Int) : Int := rN (okFr a b && okFr c d) (a * d - c * b) (b * d)
def subD (a b c d : Int) : Int := rD (okFr a b && okFr c d) (a * d - c * b) (b * d)
def subC (a b c d : Int) : Int := rC (okFr a b && okFr c d) (a * d - c * b) (b * d)

set_option maxHeartbeats 1000000 in
theorem subFrac_i (a b c d : Int) (ha0 : -9223372036854775808 ≤ a) (ha1 : a ≤ 9223372036854775807) (hq0 : -9223372036854775808 ≤ c) (hq1 : c ≤ 9223372036854775807) (w : World) :
    Calls Try.prog 34 #[.agg #[.int .i64 a, .int .i64 b], .agg #[.int .i64 c, .int .i64 d]] w fun e w' => e = .returned (.tuple #[.agg #[.int .i64 (subN a b c d), .int .i64 (subD a b c d)], .int .i64 (subC a b c d)]) ∧ Below w.heap.size w w' := by
  by_cases h : okFr a b = true ∧ okFr c d = true
  · obtain ⟨h1, h2⟩ := h
    obtain ⟨p1, p2, p3, p4, _⟩ := okFr_t h1
    obtain ⟨q1, q2, q3, q4, _⟩ := okFr_t h2
    have u1 := prod_nd p3 p4 q1 q2
    have u2 := prod_nd q3 q4 p1 p2
    have u3 := prod_dd p1 p2 q1 q2
    obtain ⟨u10, u11⟩ := u1
    obtain ⟨u20, u21⟩ := u2
    obtain ⟨u30, u31⟩ := u3
    have HN := hide (show subN a b c d = mkN (a * d - c * b) (b * d) by unfold subN rN; rw [h1, h2]; rfl)
    have HD := hide (show subD a b c d = mkD (a * d - c * b) (b * d) by unfold subD rD; rw [h1, h2]; rfl)
    have HC := hide (show subC a b c d = mkC (a * d - c * b) (b * d) by unfold subC rC; rw [h1, h2]; rfl)
    go_enter Try.func34, Try.ntmps34
    go_wp2_with (first | (go_at_call 17; (with_reducible refine (validFrac_i a b ha0 ha1 _).mono ?_); rintro e w1 ⟨rfl, hb1⟩; obtain ⟨hc1, hf1⟩ := bcell hb1; have hw1 : Below w.heap.size w w1 := bl_call (by repeat (first | exact Below.refl _ _ | assumption | (refine bl_alloc ?_ (Nat.le_refl _) _) | (refine bl_set ?_ (by simp <;> omega) _))) hb1; have hz1 : w.heap.size + 3 ≤ w1.heap.size := (by have hq := hb1.size; have hr := hw1.size; (try simp at hq); omega); have hza : w.heap.size < w1.heap.size := (by omega); have hzb : w.heap.size + 1 < w1.heap.size := (by omega); have hzc : w.heap.size + 1 + 1 < w1.heap.size := (by omega); have hz4 := hb1.size; (try simp at hz4); (try have hz5 := Nat.lt_of_succ_le hz4)) | (go_at_call 17; (with_reducible refine (validFrac_i c d hq0 hq1 _).mono ?_); rintro e w1 ⟨rfl, hb1⟩; obtain ⟨hc1, hf1⟩ := bcell hb1; have hw1 : Below w.heap.size w w1 := bl_call (by repeat (first | exact Below.refl _ _ | assumption | (refine bl_alloc ?_ (Nat.le_refl _) _) | (refine bl_set ?_ (by simp <;> omega) _))) hb1; have hz1 : w.heap.size + 3 ≤ w1.heap.size := (by have hq := hb1.size; have hr := hw1.size; (try simp at hq); omega); have hza : w.heap.size < w1.heap.size := (by omega); have hzb : w.heap.size + 1 < w1.heap.size := (by omega); have hzc : w.heap.size + 1 + 1 < w1.heap.size := (by omega); have hz4 := hb1.size; (try simp at hz4); (try have hz5 := Nat.lt_of_succ_le hz4)) | (go_at_call 21; (with_reducible refine (makeFrac_i (a * d - c * b) (b * d) (by omega) (by omega) (by omega) (by omega) _).mono ?_); rintro e w1 ⟨rfl, hb1⟩; obtain ⟨hc1, hf1⟩ := bcell hb1; have hw1 : Below w.heap.size w w1 := bl_call (by repeat (first | exact Below.refl _ _ | assumption | (refine bl_alloc ?_ (Nat.le_refl _) _) | (refine bl_set ?_ (by simp <;> omega) _))) hb1; have hz1 : w.heap.size + 3 ≤ w1.heap.size := (by have hq := hb1.size; have hr := hw1.size; (try simp at hq); omega); have hza : w.heap.size < w1.heap.size := (by omega); have hzb : w.heap.size + 1 < w1.heap.size := (by omega); have hzc : w.heap.size + 1 + 1 < w1.heap.size := (by omega); have hz4 := hb1.size; (try simp at hz4); (try have hz5 := Nat.lt_of_succ_le hz4)))
    refine bodyPost_ret (v := .tuple #[.agg #[.int .i64 (subN a b c d), .int .i64 (subD a b c d)], .int .i64 (subC a b c d)]) ?_ rfl ⟨rfl, (by repeat (first | exact Below.refl _ _ | assumption | (refine bl_alloc ?_ (Nat.le_refl _) _) | (refine bl_set ?_ (by simp <;> omega) _)))⟩
    rw [HN.out, HD.out, HC.out]
    simp [results, Try.results34, go_sem, *]
  · cases h1 : okFr a b
    · clear h
      have HN := hide (show subN a b c d = 0 by unfold subN rN; rw [h1]; rfl)
      have HD := hide (show subD a b c d = 0 by unfold subD rD; rw [h1]; rfl)
      have HC := hide (show subC a b c d = 1 by unfold subC rC; rw [h1]; rfl)
      go_enter Try.func34, Try.ntmps34
      go_wp2_with (first | (go_at_call 17; (with_reducible refine (validFrac_i a b ha0 ha1 _).mono ?_); rintro e w1 ⟨rfl, hb1⟩; obtain ⟨hc1, hf1⟩ := bcell hb1; have hw1 : Below w.heap.size w w1 := bl_call (by repeat (first | exact Below.refl _ _ | assumption | (refine bl_alloc ?_ (Nat.le_refl _) _) | (refine bl_set ?_ (by simp <;> omega) _))) hb1; have hz1 : w.heap.size + 3 ≤ w1.heap.size := (by have hq := hb1.size; have hr := hw1.size; (try simp at hq); omega); have hza : w.heap.size < w1.heap.size := (by omega); have hzb : w.heap.size + 1 < w1.heap.size := (by omega); have hzc : w.heap.size + 1 + 1 < w1.heap.size := (by omega); have hz4 := hb1.size; (try simp at hz4); (try have hz5 := Nat.lt_of_succ_le hz4)) | (go_at_call 17; (with_reducible refine (validFrac_i c d hq0 hq1 _).mono ?_); rintro e w1 ⟨rfl, hb1⟩; obtain ⟨hc1, hf1⟩ := bcell hb1; have hw1 : Below w.heap.size w w1 := bl_call (by repeat (first | exact Below.refl _ _ | assumption | (refine bl_alloc ?_ (Nat.le_refl _) _) | (refine bl_set ?_ (by simp <;> omega) _))) hb1; have hz1 : w.heap.size + 3 ≤ w1.heap.size := (by have hq := hb1.size; have hr := hw1.size; (try simp at hq); omega); have hza : w.heap.size < w1.heap.size := (by omega); have hzb : w.heap.size + 1 < w1.heap.size := (by omega); have hzc : w.heap.size + 1 + 1 < w1.heap.size := (by omega); have hz4 := hb1.size; (try simp at hz4); (try have hz5 := Nat.lt_of_succ_le hz4)))
      refine bodyPost_ret (v := .tuple #[.agg #[.int .i64 (subN a b c d), .int .i64 (subD a b c d)], .int .i64 (subC a b c d)]) ?_ rfl ⟨rfl, (by repeat (first | exact Below.refl _ _ | assumption | (refine bl_alloc ?_ (Nat.le_refl _) _) | (refine bl_set ?_ (by simp <;> omega) _)))⟩
      rw [HN.out, HD.out, HC.out]
      simp [results, Try.results34, go_sem, *]
    · have h2 : okFr c d = false := by simpa [h1] using h
      clear h
      have HN := hide (show subN a b c d = 0 by unfold subN rN; rw [h1, h2]; rfl)
      have HD := hide (show subD a b c d = 0 by unfold subD rD; rw [h1, h2]; rfl)
      have HC := hide (show subC a b c d = 1 by unfold subC rC; rw [h1, h2]; rfl)
      go_enter Try.func34, Try.ntmps34
      go_wp2_with (first | (go_at_call 17; (with_reducible refine (validFrac_i a b ha0 ha1 _).mono ?_); rintro e w1 ⟨rfl, hb1⟩; obtain ⟨hc1, hf1⟩ := bcell hb1; have hw1 : Below w.heap.size w w1 := bl_call (by repeat (first | exact Below.refl _ _ | assumption | (refine bl_alloc ?_ (Nat.le_refl _) _) | (refine bl_set ?_ (by simp <;> omega) _))) hb1; have hz1 : w.heap.size + 3 ≤ w1.heap.size := (by have hq := hb1.size; have hr := hw1.size; (try simp at hq); omega); have hza : w.heap.size < w1.heap.size := (by omega); have hzb : w.heap.size + 1 < w1.heap.size := (by omega); have hzc : w.heap.size + 1 + 1 < w1.heap.size := (by omega); have hz4 := hb1.size; (try simp at hz4); (try have hz5 := Nat.lt_of_succ_le hz4)) | (go_at_call 17; (with_reducible refine (validFrac_i c d hq0 hq1 _).mono ?_); rintro e w1 ⟨rfl, hb1⟩; obtain ⟨hc1, hf1⟩ := bcell hb1; have hw1 : Below w.heap.size w w1 := bl_call (by repeat (first | exact Below.refl _ _ | assumption | (refine bl_alloc ?_ (Nat.le_refl _) _) | (refine bl_set ?_ (by simp <;> omega) _))) hb1; have hz1 : w.heap.size + 3 ≤ w1.heap.size := (by have hq := hb1.size; have hr := hw1.size; (try simp at hq); omega); have hza : w.heap.size < w1.heap.size := (by omega); have hzb : w.heap.size + 1 < w1.heap.size := (by omega); have hzc : w.heap.size + 1 + 1 < w1.heap.size := (by omega); have hz4 := hb1.size; (try simp at hz4); (try have hz5 := Nat.lt_of_succ_le hz4)))
      refine bodyPost_ret (v := .tuple #[.agg #[.int .i64 (subN a b c d), .int .i64 (subD a b c d)], .int .i64 (subC a b c d)]) ?_ rfl ⟨rfl, (by repeat (first | exact Below.refl _ _ | assumption | (refine bl_alloc ?_ (Nat.le_refl _) _) | (refine bl_set ?_ (by simp <;> omega) _)))⟩
      rw [HN.out, HD.out, HC.out]
      simp [results, Try.results34, go_sem, *]

set_option maxHeartbeats 1000000 in
theorem subFrac_s (a b c d : Int) (ha0 : -9223372036854775808 ≤ a) (ha1 : a ≤ 9223372036854775807) (hq0 : -9223372036854775808 ≤ c) (hq1 : c ≤ 9223372036854775807) (w : World) :
    Calls Try.prog 33 #[.agg #[.int .i64 a, .int .i64 b], .agg #[.int .i64 c, .int .i64 d]] w fun e w' => e = .returned (.tuple #[.agg #[.int .i64 (subN a b c d), .int .i64 (subD a b c d)], .int .i64 (subC a b c d)]) ∧ Below w.heap.size w w' := by
  by_cases h : okFr a b = true ∧ okFr c d = true
  · obtain ⟨h1, h2⟩ := h
    obtain ⟨p1, p2, p3, p4, _⟩ := okFr_t h1
    obtain ⟨q1, q2, q3, q4, _⟩ := okFr_t h2
    have u1 := prod_nd p3 p4 q1 q2
    have u2 := prod_nd q3 q4 p1 p2
    have u3 := prod_dd p1 p2 q1 q2
    obtain ⟨u10, u11⟩ := u1
    obtain ⟨u20, u21⟩ := u2
    obtain ⟨u30, u31⟩ := u3
    have HN := hide (show subN a b c d = mkN (a * d - c * b) (b * d) by unfold subN rN; rw [h1, h2]; rfl)
    have HD := hide (show subD a b c d = mkD (a * d - c * b) (b * d) by unfold subD rD; rw [h1, h2]; rfl)
    have HC := hide (show subC a b c d = mkC (a * d - c * b) (b * d) by unfold subC rC; rw [h1, h2]; rfl)
    go_enter Try.func33, Try.ntmps33
    go_wp2_with (first | (go_at_call 41; (with_reducible refine (l02Ok_any a b ha0 ha1 _).mono ?_); rintro e w1 ⟨rfl, hb1⟩; obtain ⟨hc1, hf1⟩ := bcell hb1; have hw1 : Below w.heap.size w w1 := bl_call (by repeat (first | exact Below.refl _ _ | assumption | (refine bl_alloc ?_ (Nat.le_refl _) _) | (refine bl_set ?_ (by simp <;> omega) _))) hb1; have hz1 : w.heap.size + 3 ≤ w1.heap.size := (by have hq := hb1.size; have hr := hw1.size; (try simp at hq); omega); have hza : w.heap.size < w1.heap.size := (by omega); have hzb : w.heap.size + 1 < w1.heap.size := (by omega); have hzc : w.heap.size + 1 + 1 < w1.heap.size := (by omega); have hz4 := hb1.size; (try simp at hz4); (try have hz5 := Nat.lt_of_succ_le hz4)) | (go_at_call 41; (with_reducible refine (l02Ok_any c d hq0 hq1 _).mono ?_); rintro e w1 ⟨rfl, hb1⟩; obtain ⟨hc1, hf1⟩ := bcell hb1; have hw1 : Below w.heap.size w w1 := bl_call (by repeat (first | exact Below.refl _ _ | assumption | (refine bl_alloc ?_ (Nat.le_refl _) _) | (refine bl_set ?_ (by simp <;> omega) _))) hb1; have hz1 : w.heap.size + 3 ≤ w1.heap.size := (by have hq := hb1.size; have hr := hw1.size; (try simp at hq); omega); have hza : w.heap.size < w1.heap.size := (by omega); have hzb : w.heap.size + 1 < w1.heap.size := (by omega); have hzc : w.heap.size + 1 + 1 < w1.heap.size := (by omega); have hz4 := hb1.size; (try simp at hz4); (try have hz5 := Nat.lt_of_succ_le hz4)) | (go_at_call 20; (with_reducible refine (makeFrac_s (a * d - c * b) (b * d) (by omega) (by omega) (by omega) (by omega) _).mono ?_); rintro e w1 ⟨rfl, hb1⟩; obtain ⟨hc1, hf1⟩ := bcell hb1; have hw1 : Below w.heap.size w w1 := bl_call (by repeat (first | exact Below.refl _ _ | assumption | (refine bl_alloc ?_ (Nat.le_refl _) _) | (refine bl_set ?_ (by simp <;> omega) _))) hb1; have hz1 : w.heap.size + 3 ≤ w1.heap.size := (by have hq := hb1.size; have hr := hw1.size; (try simp at hq); omega); have hza : w.heap.size < w1.heap.size := (by omega); have hzb : w.heap.size + 1 < w1.heap.size := (by omega); have hzc : w.heap.size + 1 + 1 < w1.heap.size := (by omega); have hz4 := hb1.size; (try simp at hz4); (try have hz5 := Nat.lt_of_succ_le hz4)))
    refine bodyPost_ret (v := .tuple #[.agg #[.int .i64 (subN a b c d), .int .i64 (subD a b c d)], .int .i64 (subC a b c d)]) ?_ rfl ⟨rfl, (by repeat (first | exact Below.refl _ _ | assumption | (refine bl_alloc ?_ (Nat.le_refl _) _) | (refine bl_set ?_ (by simp <;> omega) _)))⟩
    rw [HN.out, HD.out, HC.out]
    simp [results, Try.results33, go_sem, *]
  · cases h1 : okFr a b
    · clear h
      have HN := hide (show subN a b c d = 0 by unfold subN rN; rw [h1]; rfl)
      have HD := hide (show subD a b c d = 0 by unfold subD rD; rw [h1]; rfl)
      have HC := hide (show subC a b c d = 1 by unfold subC rC; rw [h1]; rfl)
      go_enter Try.func33, Try.ntmps33
      go_wp2_with (first | (go_at_call 41; (with_reducible refine (l02Ok_any a b ha0 ha1 _).mono ?_); rintro e w1 ⟨rfl, hb1⟩; obtain ⟨hc1, hf1⟩ := bcell hb1; have hw1 : Below w.heap.size w w1 := bl_call (by repeat (first | exact Below.refl _ _ | assumption | (refine bl_alloc ?_ (Nat.le_refl _) _) | (refine bl_set ?_ (by simp <;> omega) _))) hb1; have hz1 : w.heap.size + 3 ≤ w1.heap.size := (by have hq := hb1.size; have hr := hw1.size; (try simp at hq); omega); have hza : w.heap.size < w1.heap.size := (by omega); have hzb : w.heap.size + 1 < w1.heap.size := (by omega); have hzc : w.heap.size + 1 + 1 < w1.heap.size := (by omega); have hz4 := hb1.size; (try simp at hz4); (try have hz5 := Nat.lt_of_succ_le hz4)) | (go_at_call 41; (with_reducible refine (l02Ok_any c d hq0 hq1 _).mono ?_); rintro e w1 ⟨rfl, hb1⟩; obtain ⟨hc1, hf1⟩ := bcell hb1; have hw1 : Below w.heap.size w w1 := bl_call (by repeat (first | exact Below.refl _ _ | assumption | (refine bl_alloc ?_ (Nat.le_refl _) _) | (refine bl_set ?_ (by simp <;> omega) _))) hb1; have hz1 : w.heap.size + 3 ≤ w1.heap.size := (by have hq := hb1.size; have hr := hw1.size; (try simp at hq); omega); have hza : w.heap.size < w1.heap.size := (by omega); have hzb : w.heap.size + 1 < w1.heap.size := (by omega); have hzc : w.heap.size + 1 + 1 < w1.heap.size := (by omega); have hz4 := hb1.size; (try simp at hz4); (try have hz5 := Nat.lt_of_succ_le hz4)))
      refine bodyPost_ret (v := .tuple #[.agg #[.int .i64 (subN a b c d), .int .i64 (subD a b c d)], .int .i64 (subC a b c d)]) ?_ rfl ⟨rfl, (by repeat (first | exact Below.refl _ _ | assumption | (refine bl_alloc ?_ (Nat.le_refl _) _) | (refine bl_set ?_ (by simp <;> omega) _)))⟩
      rw [HN.out, HD.out, HC.out]
      simp [results, Try.results33, go_sem, *]
    · have h2 : okFr c d = false := by simpa [h1] using h
      clear h
      have HN := hide (show subN a b c d = 0 by unfold subN rN; rw [h1, h2]; rfl)
      have HD := hide (show subD a b c d = 0 by unfold subD rD; rw [h1, h2]; rfl)
      have HC := hide (show subC a b c d = 1 by unfold subC rC; rw [h1, h2]; rfl)
      go_enter Try.func33, Try.ntmps33
      go_wp2_with (first | (go_at_call 41; (with_reducible refine (l02Ok_any a b ha0 ha1 _).mono ?_); rintro e w1 ⟨rfl, hb1⟩; obtain ⟨hc1, hf1⟩ := bcell hb1; have hw1 : Below w.heap.size w w1 := bl_call (by repeat (first | exact Below.refl _ _ | assumption | (refine bl_alloc ?_ (Nat.le_refl _) _) | (refine bl_set ?_ (by simp <;> omega) _))) hb1; have hz1 : w.heap.size + 3 ≤ w1.heap.size := (by have hq := hb1.size; have hr := hw1.size; (try simp at hq); omega); have hza : w.heap.size < w1.heap.size := (by omega); have hzb : w.heap.size + 1 < w1.heap.size := (by omega); have hzc : w.heap.size + 1 + 1 < w1.heap.size := (by omega); have hz4 := hb1.size; (try simp at hz4); (try have hz5 := Nat.lt_of_succ_le hz4)) | (go_at_call 41; (with_reducible refine (l02Ok_any c d hq0 hq1 _).mono ?_); rintro e w1 ⟨rfl, hb1⟩; obtain ⟨hc1, hf1⟩ := bcell hb1; have hw1 : Below w.heap.size w w1 := bl_call (by repeat (first | exact Below.refl _ _ | assumption | (refine bl_alloc ?_ (Nat.le_refl _) _) | (refine bl_set ?_ (by simp <;> omega) _))) hb1; have hz1 : w.heap.size + 3 ≤ w1.heap.size := (by have hq := hb1.size; have hr := hw1.size; (try simp at hq); omega); have hza : w.heap.size < w1.heap.size := (by omega); have hzb : w.heap.size + 1 < w1.heap.size := (by omega); have hzc : w.heap.size + 1 + 1 < w1.heap.size := (by omega); have hz4 := hb1.size; (try simp at hz4); (try have hz5 := Nat.lt_of_succ_le hz4)))
      refine bodyPost_ret (v := .tuple #[.agg #[.int .i64 (subN a b c d), .int .i64 (subD a b c d)], .int .i64 (subC a b c d)]) ?_ rfl ⟨rfl, (by repeat (first | exact Below.refl _ _ | assumption | (refine bl_alloc ?_ (Nat.le_refl _) _) | (refine bl_set ?_ (by simp <;> omega) _)))⟩
      rw [HN.out, HD.out, HC.out]
      simp [results, Try.results33, go_sem, *]
set_option maxHeartbeats 1000000 in
theorem fnSubFrac (a b c d : Int) (wa : (Lit.int .i64 a).wf = true) (wb : (Lit.int .i64 b).wf = true) (wc : (Lit.int .i64 c).wf = true) (wd : (Lit.int .i64 d).wf = true) (w : World) :
    Calls Try.prog 11 #[.agg #[.int .i64 a, .int .i64 b], .agg #[.int .i64 c, .int .i64 d]] w fun e w' => e = .returned (.bool true) ∧ Below w.heap.size w w' := by
  obtain ⟨ha0, ha1⟩ := wf64 wa
  obtain ⟨hq0, hq1⟩ := wf64 wc
  have he := eqB_self (subN a b c d) (subD a b c d)
  go_enter Try.func11, Try.ntmps11
  go_wp2
  refine wp_region_made 8 _ _ (.cells #[.int .i64 0, .int .i64 0] 25) (.cells #[.int .i64 (subN a b c d), .int .i64 (subD a b c d)] 25) (by kernel_rfl) (by kernel_rfl) rfl rfl (fun _ _ => by kernel_rfl) ?_
  simp only [List.take_succ_cons, List.take_zero, List.drop_succ_cons, List.drop_zero]
  repeat (refine wpSteady_step (fun K hK => ?_); go_simp; first | (refine hK _ ?_; clear hK K) | (apply Exists.intro; refine ⟨fun _ => ?_, hK _ ?_⟩; (first | (go_at_call 16; with_reducible exact keeps_of (toFrac_any _ _ _)) | (go_at_call 33; with_reducible exact keeps_of (subFrac_s a b c d ha0 ha1 hq0 hq1 _))); clear hK K))
  refine wpSteady_nil ?_
  refine ⟨?_, ?_⟩
  · intro gx w1 _ hx
    have hk := cell_blk hx
    have hf := frozen_blk hx
    exact ⟨(World.setCell (World.setCell w1 ⟨gx, 0, none⟩ (.int .i64 (subN a b c d))) ⟨gx, 1, none⟩ (.int .i64 (subD a b c d))), (by simp [go_sem, hk, hf]), (heap_set (heap_set hx 0 _) 1 _), (only_set ((only_set (only_refl w1 gx) 0 _)) 1 _)⟩
  intro gx w1 hgx hlx hb1 hx
  have hkx := cell_blk hx
  have hfx := frozen_blk hx
  clear hx
  try simp at hgx
  obtain ⟨hc1, hf1⟩ := bcell hb1
  have hw1 : Below w.heap.size w w1 := bl_call (by repeat (first | exact Below.refl _ _ | assumption | (refine bl_alloc ?_ (Nat.le_refl _) _) | (refine bl_set ?_ (by simp <;> omega) _))) hb1
  have hz1 : w.heap.size + 2 ≤ w1.heap.size := (by have hq := hb1.size; have hr := hw1.size; (try simp at hq); omega)
  have hza : w.heap.size < w1.heap.size := (by omega)
  have hzb : w.heap.size + 1 < w1.heap.size := (by omega)
  go_wp2
  refine wp_region_made 8 _ _ (.cells #[.int .i64 0, .int .i64 0] 25) (.cells #[.int .i64 (subN a b c d), .int .i64 (subD a b c d)] 25) (by kernel_rfl) (by kernel_rfl) rfl rfl (fun _ _ => by kernel_rfl) ?_
  simp only [List.take_succ_cons, List.take_zero, List.drop_succ_cons, List.drop_zero]
  repeat (refine wpSteady_step (fun K hK => ?_); go_simp; first | (refine hK _ ?_; clear hK K) | (apply Exists.intro; refine ⟨fun _ => ?_, hK _ ?_⟩; (first | (go_at_call 16; with_reducible exact keeps_of (toFrac_any _ _ _)) | (go_at_call 34; with_reducible exact keeps_of (subFrac_i a b c d ha0 ha1 hq0 hq1 _))); clear hK K))
  refine wpSteady_nil ?_
  refine ⟨?_, ?_⟩
  · intro gy w1 _ hx
    have hk := cell_blk hx
    have hf := frozen_blk hx
    exact ⟨(World.setCell (World.setCell w1 ⟨gy, 0, none⟩ (.int .i64 (subN a b c d))) ⟨gy, 1, none⟩ (.int .i64 (subD a b c d))), (by simp [go_sem, hk, hf]), (heap_set (heap_set hx 0 _) 1 _), (only_set ((only_set (only_refl w1 gy) 0 _)) 1 _)⟩
  intro gy w1 hgy hly hb1 hx
  have hky := cell_blk hx
  have hfy := frozen_blk hx
  clear hx
  try simp at hgy
  obtain ⟨hc1, hf1⟩ := bcell hb1
  have hw1 : Below w.heap.size w w1 := bl_call (by repeat (first | exact Below.refl _ _ | assumption | (refine bl_alloc ?_ (Nat.le_refl _) _) | (refine bl_set ?_ (by simp <;> omega) _))) hb1
  have hz1 : w.heap.size + 2 ≤ w1.heap.size := (by have hq := hb1.size; have hr := hw1.size; (try simp at hq); omega)
  have hza : w.heap.size < w1.heap.size := (by omega)
  have hzb : w.heap.size + 1 < w1.heap.size := (by omega)
  go_wp2_with (go_at_call 22; (with_reducible refine (eqFrac_any _ _ _ _ _).mono ?_); rintro e w1 ⟨rfl, hb1⟩; obtain ⟨hc1, hf1⟩ := bcell hb1; have hw1 : Below w.heap.size w w1 := bl_call (by repeat (first | exact Below.refl _ _ | assumption | (refine bl_alloc ?_ (Nat.le_refl _) _) | (refine bl_set ?_ (by simp <;> omega) _))) hb1; have hz1 : w.heap.size + 2 ≤ w1.heap.size := (by have hq := hb1.size; have hr := hw1.size; (try simp at hq); omega); have hza : w.heap.size < w1.heap.size := (by omega); have hzb : w.heap.size + 1 < w1.heap.size := (by omega); have hz4 := hb1.size; (try simp at hz4); (try have hz5 := Nat.lt_of_succ_le hz4))
  go_ret
  exact ⟨rfl, (by repeat (first | exact Below.refl _ _ | assumption | (refine bl_alloc ?_ (Nat.le_refl _) _) | (refine bl_set ?_ (by simp <;> omega) _)))⟩
def mulN (a b c d : Int) : Int := rN (okFr a b && okFr c d) (a * c) (b * d)
def mulD (a b c d : Int) : Int := rD (okFr a b && okFr c d) (a * c) (b * d)
def mulC (a b c d : Int) : Int := rC (okFr a b && okFr c d) (a * c) (b * d)

set_option maxHeartbeats 1000000 in
theorem mulFrac_i (a b c d : Int) (ha0 : -9223372036854775808 ≤ a) (ha1 : a ≤ 9223372036854775807) (hq0 : -9223372036854775808 ≤ c) (hq1 : c ≤ 9223372036854775807) (w : World) :
    Calls Try.prog 32 #[.agg #[.int .i64 a, .int .i64 b], .agg #[.int .i64 c, .int .i64 d]] w fun e w' => e = .returned (.tuple #[.agg #[.int .i64 (mulN a b c d), .int .i64 (mulD a b c d)], .int .i64 (mulC a b c d)]) ∧ Below w.heap.size w w' := by
  by_cases h : okFr a b = true ∧ okFr c d = true
  · obtain ⟨h1, h2⟩ := h
    obtain ⟨p1, p2, p3, p4, _⟩ := okFr_t h1
    obtain ⟨q1, q2, q3, q4, _⟩ := okFr_t h2
    have u1 := prod_nn p3 p4 q3 q4
    have u3 := prod_dd p1 p2 q1 q2
    obtain ⟨u10, u11⟩ := u1
    obtain ⟨u30, u31⟩ := u3
    have HN := hide (show mulN a b c d = mkN (a * c) (b * d) by unfold mulN rN; rw [h1, h2]; rfl)
    have HD := hide (show mulD a b c d = mkD (a * c) (b * d) by unfold mulD rD; rw [h1, h2]; rfl)
    have HC := hide (show mulC a b c d = mkC (a * c) (b * d) by unfold mulC rC; rw [h1, h2]; rfl)
    go_enter Try.func32, Try.ntmps32
    go_wp2_with (first | (go_at_call 17; (with_reducible refine (validFrac_i a b ha0 ha1 _).mono ?_); rintro e w1 ⟨rfl, hb1⟩; obtain ⟨hc1, hf1⟩ := bcell hb1; have hw1 : Below w.heap.size w w1 := bl_call (by repeat (first | exact Below.refl _ _ | assumption | (refine bl_alloc ?_ (Nat.le_refl _) _) | (refine bl_set ?_ (by simp <;> omega) _))) hb1; have hz1 : w.heap.size + 3 ≤ w1.heap.size := (by have hq := hb1.size; have hr := hw1.size; (try simp at hq); omega); have hza : w.heap.size < w1.heap.size := (by omega); have hzb : w.heap.size + 1 < w1.heap.size := (by omega); have hzc : w.heap.size + 1 + 1 < w1.heap.size := (by omega); have hz4 := hb1.size; (try simp at hz4); (try have hz5 := Nat.lt_of_succ_le hz4)) | (go_at_call 17; (with_reducible refine (validFrac_i c d hq0 hq1 _).mono ?_); rintro e w1 ⟨rfl, hb1⟩; obtain ⟨hc1, hf1⟩ := bcell hb1; have hw1 : Below w.heap.size w w1 := bl_call (by repeat (first | exact Below.refl _ _ | assumption | (refine bl_alloc ?_ (Nat.le_refl _) _) | (refine bl_set ?_ (by simp <;> omega) _))) hb1; have hz1 : w.heap.size + 3 ≤ w1.heap.size := (by have hq := hb1.size; have hr := hw1.size; (try simp at hq); omega); have hza : w.heap.size < w1.heap.size := (by omega); have hzb : w.heap.size + 1 < w1.heap.size := (by omega); have hzc : w.heap.size + 1 + 1 < w1.heap.size := (by omega); have hz4 := hb1.size; (try simp at hz4); (try have hz5 := Nat.lt_of_succ_le hz4)) | (go_at_call 21; (with_reducible refine (makeFrac_i (a * c) (b * d) (by omega) (by omega) (by omega) (by omega) _).mono ?_); rintro e w1 ⟨rfl, hb1⟩; obtain ⟨hc1, hf1⟩ := bcell hb1; have hw1 : Below w.heap.size w w1 := bl_call (by repeat (first | exact Below.refl _ _ | assumption | (refine bl_alloc ?_ (Nat.le_refl _) _) | (refine bl_set ?_ (by simp <;> omega) _))) hb1; have hz1 : w.heap.size + 3 ≤ w1.heap.size := (by have hq := hb1.size; have hr := hw1.size; (try simp at hq); omega); have hza : w.heap.size < w1.heap.size := (by omega); have hzb : w.heap.size + 1 < w1.heap.size := (by omega); have hzc : w.heap.size + 1 + 1 < w1.heap.size := (by omega); have hz4 := hb1.size; (try simp at hz4); (try have hz5 := Nat.lt_of_succ_le hz4)))
    refine bodyPost_ret (v := .tuple #[.agg #[.int .i64 (mulN a b c d), .int .i64 (mulD a b c d)], .int .i64 (mulC a b c d)]) ?_ rfl ⟨rfl, (by repeat (first | exact Below.refl _ _ | assumption | (refine bl_alloc ?_ (Nat.le_refl _) _) | (refine bl_set ?_ (by simp <;> omega) _)))⟩
    rw [HN.out, HD.out, HC.out]
    simp [results, Try.results32, go_sem, *]
  · cases h1 : okFr a b
    · clear h
      have HN := hide (show mulN a b c d = 0 by unfold mulN rN; rw [h1]; rfl)
      have HD := hide (show mulD a b c d = 0 by unfold mulD rD; rw [h1]; rfl)
      have HC := hide (show mulC a b c d = 1 by unfold mulC rC; rw [h1]; rfl)
      go_enter Try.func32, Try.ntmps32
      go_wp2_with (first | (go_at_call 17; (with_reducible refine (validFrac_i a b ha0 ha1 _).mono ?_); rintro e w1 ⟨rfl, hb1⟩; obtain ⟨hc1, hf1⟩ := bcell hb1; have hw1 : Below w.heap.size w w1 := bl_call (by repeat (first | exact Below.refl _ _ | assumption | (refine bl_alloc ?_ (Nat.le_refl _) _) | (refine bl_set ?_ (by simp <;> omega) _))) hb1; have hz1 : w.heap.size + 3 ≤ w1.heap.size := (by have hq := hb1.size; have hr := hw1.size; (try simp at hq); omega); have hza : w.heap.size < w1.heap.size := (by omega); have hzb : w.heap.size + 1 < w1.heap.size := (by omega); have hzc : w.heap.size + 1 + 1 < w1.heap.size := (by omega); have hz4 := hb1.size; (try simp at hz4); (try have hz5 := Nat.lt_of_succ_le hz4)) | (go_at_call 17; (with_reducible refine (validFrac_i c d hq0 hq1 _).mono ?_); rintro e w1 ⟨rfl, hb1⟩; obtain ⟨hc1, hf1⟩ := bcell hb1; have hw1 : Below w.heap.size w w1 := bl_call (by repeat (first | exact Below.refl _ _ | assumption | (refine bl_alloc ?_ (Nat.le_refl _) _) | (refine bl_set ?_ (by simp <;> omega) _))) hb1; have hz1 : w.heap.size + 3 ≤ w1.heap.size := (by have hq := hb1.size; have hr := hw1.size; (try simp at hq); omega); have hza : w.heap.size < w1.heap.size := (by omega); have hzb : w.heap.size + 1 < w1.heap.size := (by omega); have hzc : w.heap.size + 1 + 1 < w1.heap.size := (by omega); have hz4 := hb1.size; (try simp at hz4); (try have hz5 := Nat.lt_of_succ_le hz4)))
      refine bodyPost_ret (v := .tuple #[.agg #[.int .i64 (mulN a b c d), .int .i64 (mulD a b c d)], .int .i64 (mulC a b c d)]) ?_ rfl ⟨rfl, (by repeat (first | exact Below.refl _ _ | assumption | (refine bl_alloc ?_ (Nat.le_refl _) _) | (refine bl_set ?_ (by simp <;> omega) _)))⟩
      rw [HN.out, HD.out, HC.out]
      simp [results, Try.results32, go_sem, *]
    · have h2 : okFr c d = false := by simpa [h1] using h
      clear h
      have HN := hide (show mulN a b c d = 0 by unfold mulN rN; rw [h1, h2]; rfl)
      have HD := hide (show mulD a b c d = 0 by unfold mulD rD; rw [h1, h2]; rfl)
      have HC := hide (show mulC a b c d = 1 by unfold mulC rC; rw [h1, h2]; rfl)
      go_enter Try.func32, Try.ntmps32
      go_wp2_with (first | (go_at_call 17; (with_reducible refine (validFrac_i a b ha0 ha1 _).mono ?_); rintro e w1 ⟨rfl, hb1⟩; obtain ⟨hc1, hf1⟩ := bcell hb1; have hw1 : Below w.heap.size w w1 := bl_call (by repeat (first | exact Below.refl _ _ | assumption | (refine bl_alloc ?_ (Nat.le_refl _) _) | (refine bl_set ?_ (by simp <;> omega) _))) hb1; have hz1 : w.heap.size + 3 ≤ w1.heap.size := (by have hq := hb1.size; have hr := hw1.size; (try simp at hq); omega); have hza : w.heap.size < w1.heap.size := (by omega); have hzb : w.heap.size + 1 < w1.heap.size := (by omega); have hzc : w.heap.size + 1 + 1 < w1.heap.size := (by omega); have hz4 := hb1.size; (try simp at hz4); (try have hz5 := Nat.lt_of_succ_le hz4)) | (go_at_call 17; (with_reducible refine (validFrac_i c d hq0 hq1 _).mono ?_); rintro e w1 ⟨rfl, hb1⟩; obtain ⟨hc1, hf1⟩ := bcell hb1; have hw1 : Below w.heap.size w w1 := bl_call (by repeat (first | exact Below.refl _ _ | assumption | (refine bl_alloc ?_ (Nat.le_refl _) _) | (refine bl_set ?_ (by simp <;> omega) _))) hb1; have hz1 : w.heap.size + 3 ≤ w1.heap.size := (by have hq := hb1.size; have hr := hw1.size; (try simp at hq); omega); have hza : w.heap.size < w1.heap.size := (by omega); have hzb : w.heap.size + 1 < w1.heap.size := (by omega); have hzc : w.heap.size + 1 + 1 < w1.heap.size := (by omega); have hz4 := hb1.size; (try simp at hz4); (try have hz5 := Nat.lt_of_succ_le hz4)))
      refine bodyPost_ret (v := .tuple #[.agg #[.int .i64 (mulN a b c d), .int .i64 (mulD a b c d)], .int .i64 (mulC a b c d)]) ?_ rfl ⟨rfl, (by repeat (first | exact Below.refl _ _ | assumption | (refine bl_alloc ?_ (Nat.le_refl _) _) | (refine bl_set ?_ (by simp <;> omega) _)))⟩
      rw [HN.out, HD.out, HC.out]
      simp [results, Try.results32, go_sem, *]

set_option maxHeartbeats 1000000 in
theorem mulFrac_s (a b c d : Int) (ha0 : -9223372036854775808 ≤ a) (ha1 : a ≤ 9223372036854775807) (hq0 : -9223372036854775808 ≤ c) (hq1 : c ≤ 9223372036854775807) (w : World) :
    Calls Try.prog 31 #[.agg #[.int .i64 a, .int .i64 b], .agg #[.int .i64 c, .int .i64 d]] w fun e w' => e = .returned (.tuple #[.agg #[.int .i64 (mulN a b c d), .int .i64 (mulD a b c d)], .int .i64 (mulC a b c d)]) ∧ Below w.heap.size w w' := by
  by_cases h : okFr a b = true ∧ okFr c d = true
  · obtain ⟨h1, h2⟩ := h
    obtain ⟨p1, p2, p3, p4, _⟩ := okFr_t h1
    obtain ⟨q1, q2, q3, q4, _⟩ := okFr_t h2
    have u1 := prod_nn p3 p4 q3 q4
    have u3 := prod_dd p1 p2 q1 q2
    obtain ⟨u10, u11⟩ := u1
    obtain ⟨u30, u31⟩ := u3
    have HN := hide (show mulN a b c d = mkN (a * c) (b * d) by unfold mulN rN; rw [h1, h2]; rfl)
    have HD := hide (show mulD a b c d = mkD (a * c) (b * d) by unfold mulD rD; rw [h1, h2]; rfl)
    have HC := hide (show mulC a b c d = mkC (a * c) (b * d) by unfold mulC rC; rw [h1, h2]; rfl)
    go_enter Try.func31, Try.ntmps31
    go_wp2_with (first | (go_at_call 41; (with_reducible refine (l02Ok_any a b ha0 ha1 _).mono ?_); rintro e w1 ⟨rfl, hb1⟩; obtain ⟨hc1, hf1⟩ := bcell hb1; have hw1 : Below w.heap.size w w1 := bl_call (by repeat (first | exact Below.refl _ _ | assumption | (refine bl_alloc ?_ (Nat.le_refl _) _) | (refine bl_set ?_ (by simp <;> omega) _))) hb1; have hz1 : w.heap.size + 3 ≤ w1.heap.size := (by have hq := hb1.size; have hr := hw1.size; (try simp at hq); omega); have hza : w.heap.size < w1.heap.size := (by omega); have hzb : w.heap.size + 1 < w1.heap.size := (by omega); have hzc : w.heap.size + 1 + 1 < w1.heap.size := (by omega); have hz4 := hb1.size; (try simp at hz4); (try have hz5 := Nat.lt_of_succ_le hz4)) | (go_at_call 41; (with_reducible refine (l02Ok_any c d hq0 hq1 _).mono ?_); rintro e w1 ⟨rfl, hb1⟩; obtain ⟨hc1, hf1⟩ := bcell hb1; have hw1 : Below w.heap.size w w1 := bl_call (by repeat (first | exact Below.refl _ _ | assumption | (refine bl_alloc ?_ (Nat.le_refl _) _) | (refine bl_set ?_ (by simp <;> omega) _))) hb1; have hz1 : w.heap.size + 3 ≤ w1.heap.size := (by have hq := hb1.size; have hr := hw1.size; (try simp at hq); omega); have hza : w.heap.size < w1.heap.size := (by omega); have hzb : w.heap.size + 1 < w1.heap.size := (by omega); have hzc : w.heap.size + 1 + 1 < w1.heap.size := (by omega); have hz4 := hb1.size; (try simp at hz4); (try have hz5 := Nat.lt_of_succ_le hz4)) | (go_at_call 20; (with_reducible refine (makeFrac_s (a * c) (b * d) (by omega) (by omega) (by omega) (by omega) _).mono ?_); rintro e w1 ⟨rfl, hb1⟩; obtain ⟨hc1, hf1⟩ := bcell hb1; have hw1 : Below w.heap.size w w1 := bl_call (by repeat (first | exact Below.refl _ _ | assumption | (refine bl_alloc ?_ (Nat.le_refl _) _) | (refine bl_set ?_ (by simp <;> omega) _))) hb1; have hz1 : w.heap.size + 3 ≤ w1.heap.size := (by have hq := hb1.size; have hr := hw1.size; (try simp at hq); omega); have hza : w.heap.size < w1.heap.size := (by omega); have hzb : w.heap.size + 1 < w1.heap.size := (by omega); have hzc : w.heap.size + 1 + 1 < w1.heap.size := (by omega); have hz4 := hb1.size; (try simp at hz4); (try have hz5 := Nat.lt_of_succ_le hz4)))
    refine bodyPost_ret (v := .tuple #[.agg #[.int .i64 (mulN a b c d), .int .i64 (mulD a b c d)], .int .i64 (mulC a b c d)]) ?_ rfl ⟨rfl, (by repeat (first | exact Below.refl _ _ | assumption | (refine bl_alloc ?_ (Nat.le_refl _) _) | (refine bl_set ?_ (by simp <;> omega) _)))⟩
    rw [HN.out, HD.out, HC.out]
    simp [results, Try.results31, go_sem, *]
  · cases h1 : okFr a b
    · clear h
      have HN := hide (show mulN a b c d = 0 by unfold mulN rN; rw [h1]; rfl)
      have HD := hide (show mulD a b c d = 0 by unfold mulD rD; rw [h1]; rfl)
      have HC := hide (show mulC a b c d = 1 by unfold mulC rC; rw [h1]; rfl)
      go_enter Try.func31, Try.ntmps31
      go_wp2_with (first | (go_at_call 41; (with_reducible refine (l02Ok_any a b ha0 ha1 _).mono ?_); rintro e w1 ⟨rfl, hb1⟩; obtain ⟨hc1, hf1⟩ := bcell hb1; have hw1 : Below w.heap.size w w1 := bl_call (by repeat (first | exact Below.refl _ _ | assumption | (refine bl_alloc ?_ (Nat.le_refl _) _) | (refine bl_set ?_ (by simp <;> omega) _))) hb1; have hz1 : w.heap.size + 3 ≤ w1.heap.size := (by have hq := hb1.size; have hr := hw1.size; (try simp at hq); omega); have hza : w.heap.size < w1.heap.size := (by omega); have hzb : w.heap.size + 1 < w1.heap.size := (by omega); have hzc : w.heap.size + 1 + 1 < w1.heap.size := (by omega); have hz4 := hb1.size; (try simp at hz4); (try have hz5 := Nat.lt_of_succ_le hz4)) | (go_at_call 41; (with_reducible refine (l02Ok_any c d hq0 hq1 _).mono ?_); rintro e w1 ⟨rfl, hb1⟩; obtain ⟨hc1, hf1⟩ := bcell hb1; have hw1 : Below w.heap.size w w1 := bl_call (by repeat (first | exact Below.refl _ _ | assumption | (refine bl_alloc ?_ (Nat.le_refl _) _) | (refine bl_set ?_ (by simp <;> omega) _))) hb1; have hz1 : w.heap.size + 3 ≤ w1.heap.size := (by have hq := hb1.size; have hr := hw1.size; (try simp at hq); omega); have hza : w.heap.size < w1.heap.size := (by omega); have hzb : w.heap.size + 1 < w1.heap.size := (by omega); have hzc : w.heap.size + 1 + 1 < w1.heap.size := (by omega); have hz4 := hb1.size; (try simp at hz4); (try have hz5 := Nat.lt_of_succ_le hz4)))
      refine bodyPost_ret (v := .tuple #[.agg #[.int .i64 (mulN a b c d), .int .i64 (mulD a b c d)], .int .i64 (mulC a b c d)]) ?_ rfl ⟨rfl, (by repeat (first | exact Below.refl _ _ | assumption | (refine bl_alloc ?_ (Nat.le_refl _) _) | (refine bl_set ?_ (by simp <;> omega) _)))⟩
      rw [HN.out, HD.out, HC.out]
      simp [results, Try.results31, go_sem, *]
    · have h2 : okFr c d = false := by simpa [h1] using h
      clear h
      have HN := hide (show mulN a b c d = 0 by unfold mulN rN; rw [h1, h2]; rfl)
      have HD := hide (show mulD a b c d = 0 by unfold mulD rD; rw [h1, h2]; rfl)
      have HC := hide (show mulC a b c d = 1 by unfold mulC rC; rw [h1, h2]; rfl)
      go_enter Try.func31, Try.ntmps31
      go_wp2_with (first | (go_at_call 41; (with_reducible refine (l02Ok_any a b ha0 ha1 _).mono ?_); rintro e w1 ⟨rfl, hb1⟩; obtain ⟨hc1, hf1⟩ := bcell hb1; have hw1 : Below w.heap.size w w1 := bl_call (by repeat (first | exact Below.refl _ _ | assumption | (refine bl_alloc ?_ (Nat.le_refl _) _) | (refine bl_set ?_ (by simp <;> omega) _))) hb1; have hz1 : w.heap.size + 3 ≤ w1.heap.size := (by have hq := hb1.size; have hr := hw1.size; (try simp at hq); omega); have hza : w.heap.size < w1.heap.size := (by omega); have hzb : w.heap.size + 1 < w1.heap.size := (by omega); have hzc : w.heap.size + 1 + 1 < w1.heap.size := (by omega); have hz4 := hb1.size; (try simp at hz4); (try have hz5 := Nat.lt_of_succ_le hz4)) | (go_at_call 41; (with_reducible refine (l02Ok_any c d hq0 hq1 _).mono ?_); rintro e w1 ⟨rfl, hb1⟩; obtain ⟨hc1, hf1⟩ := bcell hb1; have hw1 : Below w.heap.size w w1 := bl_call (by repeat (first | exact Below.refl _ _ | assumption | (refine bl_alloc ?_ (Nat.le_refl _) _) | (refine bl_set ?_ (by simp <;> omega) _))) hb1; have hz1 : w.heap.size + 3 ≤ w1.heap.size := (by have hq := hb1.size; have hr := hw1.size; (try simp at hq); omega); have hza : w.heap.size < w1.heap.size := (by omega); have hzb : w.heap.size + 1 < w1.heap.size := (by omega); have hzc : w.heap.size + 1 + 1 < w1.heap.size := (by omega); have hz4 := hb1.size; (try simp at hz4); (try have hz5 := Nat.lt_of_succ_le hz4)))
      refine bodyPost_ret (v := .tuple #[.agg #[.int .i64 (mulN a b c d), .int .i64 (mulD a b c d)], .int .i64 (mulC a b c d)]) ?_ rfl ⟨rfl, (by repeat (first | exact Below.refl _ _ | assumption | (refine bl_alloc ?_ (Nat.le_refl _) _) | (refine bl_set ?_ (by simp <;> omega) _)))⟩
      rw [HN.out, HD.out, HC.out]
      simp [results, Try.results31, go_sem, *]
set_option maxHeartbeats 1000000 in
theorem fnMulFrac (a b c d : Int) (wa : (Lit.int .i64 a).wf = true) (wb : (Lit.int .i64 b).wf = true) (wc : (Lit.int .i64 c).wf = true) (wd : (Lit.int .i64 d).wf = true) (w : World) :
    Calls Try.prog 10 #[.agg #[.int .i64 a, .int .i64 b], .agg #[.int .i64 c, .int .i64 d]] w fun e w' => e = .returned (.bool true) ∧ Below w.heap.size w w' := by
  obtain ⟨ha0, ha1⟩ := wf64 wa
  obtain ⟨hq0, hq1⟩ := wf64 wc
  have he := eqB_self (mulN a b c d) (mulD a b c d)
  go_enter Try.func10, Try.ntmps10
  go_wp2
  refine wp_region_made 8 _ _ (.cells #[.int .i64 0, .int .i64 0] 25) (.cells #[.int .i64 (mulN a b c d), .int .i64 (mulD a b c d)] 25) (by kernel_rfl) (by kernel_rfl) rfl rfl (fun _ _ => by kernel_rfl) ?_
  simp only [List.take_succ_cons, List.take_zero, List.drop_succ_cons, List.drop_zero]
  repeat (refine wpSteady_step (fun K hK => ?_); go_simp; first | (refine hK _ ?_; clear hK K) | (apply Exists.intro; refine ⟨fun _ => ?_, hK _ ?_⟩; (first | (go_at_call 16; with_reducible exact keeps_of (toFrac_any _ _ _)) | (go_at_call 31; with_reducible exact keeps_of (mulFrac_s a b c d ha0 ha1 hq0 hq1 _))); clear hK K))
  refine wpSteady_nil ?_
  refine ⟨?_, ?_⟩
  · intro gx w1 _ hx
    have hk := cell_blk hx
    have hf := frozen_blk hx
    exact ⟨(World.setCell (World.setCell w1 ⟨gx, 0, none⟩ (.int .i64 (mulN a b c d))) ⟨gx, 1, none⟩ (.int .i64 (mulD a b c d))), (by simp [go_sem, hk, hf]), (heap_set (heap_set hx 0 _) 1 _), (only_set ((only_set (only_refl w1 gx) 0 _)) 1 _)⟩
  intro gx w1 hgx hlx hb1 hx
  have hkx := cell_blk hx
  have hfx := frozen_blk hx
  clear hx
  try simp at hgx
  obtain ⟨hc1, hf1⟩ := bcell hb1
  have hw1 : Below w.heap.size w w1 := bl_call (by repeat (first | exact Below.refl _ _ | assumption | (refine bl_alloc ?_ (Nat.le_refl _) _) | (refine bl_set ?_ (by simp <;> omega) _))) hb1
  have hz1 : w.heap.size + 2 ≤ w1.heap.size := (by have hq := hb1.size; have hr := hw1.size; (try simp at hq); omega)
  have hza : w.heap.size < w1.heap.size := (by omega)
  have hzb : w.heap.size + 1 < w1.heap.size := (by omega)
  go_wp2
  refine wp_region_made 8 _ _ (.cells #[.int .i64 0, .int .i64 0] 25) (.cells #[.int .i64 (mulN a b c d), .int .i64 (mulD a b c d)] 25) (by kernel_rfl) (by kernel_rfl) rfl rfl (fun _ _ => by kernel_rfl) ?_
  simp only [List.take_succ_cons, List.take_zero, List.drop_succ_cons, List.drop_zero]
  repeat (refine wpSteady_step (fun K hK => ?_); go_simp; first | (refine hK _ ?_; clear hK K) | (apply Exists.intro; refine ⟨fun _ => ?_, hK _ ?_⟩; (first | (go_at_call 16; with_reducible exact keeps_of (toFrac_any _ _ _)) | (go_at_call 32; with_reducible exact keeps_of (mulFrac_i a b c d ha0 ha1 hq0 hq1 _))); clear hK K))
  refine wpSteady_nil ?_
  refine ⟨?_, ?_⟩
  · intro gy w1 _ hx
    have hk := cell_blk hx
    have hf := frozen_blk hx
    exact ⟨(World.setCell (World.setCell w1 ⟨gy, 0, none⟩ (.int .i64 (mulN a b c d))) ⟨gy, 1, none⟩ (.int .i64 (mulD a b c d))), (by simp [go_sem, hk, hf]), (heap_set (heap_set hx 0 _) 1 _), (only_set ((only_set (only_refl w1 gy) 0 _)) 1 _)⟩
  intro gy w1 hgy hly hb1 hx
  have hky := cell_blk hx
  have hfy := frozen_blk hx
  clear hx
  try simp at hgy
  obtain ⟨hc1, hf1⟩ := bcell hb1
  have hw1 : Below w.heap.size w w1 := bl_call (by repeat (first | exact Below.refl _ _ | assumption | (refine bl_alloc ?_ (Nat.le_refl _) _) | (refine bl_set ?_ (by simp <;> omega) _))) hb1
  have hz1 : w.heap.size + 2 ≤ w1.heap.size := (by have hq := hb1.size; have hr := hw1.size; (try simp at hq); omega)
  have hza : w.heap.size < w1.heap.size := (by omega)
  have hzb : w.heap.size + 1 < w1.heap.size := (by omega)
  go_wp2_with (go_at_call 22; (with_reducible refine (eqFrac_any _ _ _ _ _).mono ?_); rintro e w1 ⟨rfl, hb1⟩; obtain ⟨hc1, hf1⟩ := bcell hb1; have hw1 : Below w.heap.size w w1 := bl_call (by repeat (first | exact Below.refl _ _ | assumption | (refine bl_alloc ?_ (Nat.le_refl _) _) | (refine bl_set ?_ (by simp <;> omega) _))) hb1; have hz1 : w.heap.size + 2 ≤ w1.heap.size := (by have hq := hb1.size; have hr := hw1.size; (try simp at hq); omega); have hza : w.heap.size < w1.heap.size := (by omega); have hzb : w.heap.size + 1 < w1.heap.size := (by omega); have hz4 := hb1.size; (try simp at hz4); (try have hz5 := Nat.lt_of_succ_le hz4))
  go_ret
  exact ⟨rfl, (by repeat (first | exact Below.refl _ _ | assumption | (refine bl_alloc ?_ (Nat.le_refl _) _) | (refine bl_set ?_ (by simp <;> omega) _)))⟩
def divN (a b c d : Int) : Int := if okFr a b && okFr c d && !(c == 0) then mkN (a * d) (b * c) else 0
def divD (a b c d : Int) : Int := if okFr a b && okFr c d && !(c == 0) then mkD (a * d) (b * c) else 0
def divC (a b c d : Int) : Int := if okFr a b && okFr c d then (if c == 0 then 2 else mkC (a * d) (b * c)) else 1

set_option maxHeartbeats 1000000 in
theorem divFrac_i (a b c d : Int) (ha0 : -9223372036854775808 ≤ a) (ha1 : a ≤ 9223372036854775807) (hq0 : -9223372036854775808 ≤ c) (hq1 : c ≤ 9223372036854775807) (w : World) :
    Calls Try.prog 36 #[.agg #[.int .i64 a, .int .i64 b], .agg #[.int .i64 c, .int .i64 d]] w fun e w' => e = .returned (.tuple #[.agg #[.int .i64 (divN a b c d), .int .i64 (divD a b c d)], .int .i64 (divC a b c d)]) ∧ Below w.heap.size w w' := by
  by_cases h : okFr a b = true ∧ okFr c d = true
  · obtain ⟨h1, h2⟩ := h
    obtain ⟨p1, p2, p3, p4, _⟩ := okFr_t h1
    obtain ⟨q1, q2, q3, q4, _⟩ := okFr_t h2
    have u1 := prod_nd p3 p4 q1 q2
    have u3 := prod_nd q3 q4 p1 p2
    rw [Int.mul_comm c b] at u3
    obtain ⟨u10, u11⟩ := u1
    obtain ⟨u30, u31⟩ := u3
    by_cases h3 : c = 0
    · have z1 : (c == 0) = true := by simp [h3]
      have Z := hide h3
      clear h3
      have HN := hide (show divN a b c d = 0 by unfold divN; rw [h1, h2, z1]; rfl)
      have HD := hide (show divD a b c d = 0 by unfold divD; rw [h1, h2, z1]; rfl)
      have HC := hide (show divC a b c d = 2 by unfold divC; rw [h1, h2, z1]; rfl)
      go_enter Try.func36, Try.ntmps36
      go_wp2_with (first | (go_at_call 17; (with_reducible refine (validFrac_i a b ha0 ha1 _).mono ?_); rintro e w1 ⟨rfl, hb1⟩; obtain ⟨hc1, hf1⟩ := bcell hb1; have hw1 : Below w.heap.size w w1 := bl_call (by repeat (first | exact Below.refl _ _ | assumption | (refine bl_alloc ?_ (Nat.le_refl _) _) | (refine bl_set ?_ (by simp <;> omega) _))) hb1; have hz1 : w.heap.size + 3 ≤ w1.heap.size := (by have hq := hb1.size; have hr := hw1.size; (try simp at hq); omega); have hza : w.heap.size < w1.heap.size := (by omega); have hzb : w.heap.size + 1 < w1.heap.size := (by omega); have hzc : w.heap.size + 1 + 1 < w1.heap.size := (by omega); have hz4 := hb1.size; (try simp at hz4); (try have hz5 := Nat.lt_of_succ_le hz4)) | (go_at_call 17; (with_reducible refine (validFrac_i c d hq0 hq1 _).mono ?_); rintro e w1 ⟨rfl, hb1⟩; obtain ⟨hc1, hf1⟩ := bcell hb1; have hw1 : Below w.heap.size w w1 := bl_call (by repeat (first | exact Below.refl _ _ | assumption | (refine bl_alloc ?_ (Nat.le_refl _) _) | (refine bl_set ?_ (by simp <;> omega) _))) hb1; have hz1 : w.heap.size + 3 ≤ w1.heap.size := (by have hq := hb1.size; have hr := hw1.size; (try simp at hq); omega); have hza : w.heap.size < w1.heap.size := (by omega); have hzb : w.heap.size + 1 < w1.heap.size := (by omega); have hzc : w.heap.size + 1 + 1 < w1.heap.size := (by omega); have hz4 := hb1.size; (try simp at hz4); (try have hz5 := Nat.lt_of_succ_le hz4)))
      refine bodyPost_ret (v := .tuple #[.agg #[.int .i64 (divN a b c d), .int .i64 (divD a b c d)], .int .i64 (divC a b c d)]) ?_ rfl ⟨rfl, (by repeat (first | exact Below.refl _ _ | assumption | (refine bl_alloc ?_ (Nat.le_refl _) _) | (refine bl_set ?_ (by simp <;> omega) _)))⟩
      rw [HN.out, HD.out, HC.out]
      simp [results, Try.results36, go_sem, *]
    · have z1 : (c == 0) = false := by simp [h3]
      have HN := hide (show divN a b c d = mkN (a * d) (b * c) by unfold divN; rw [h1, h2, z1]; rfl)
      have HD := hide (show divD a b c d = mkD (a * d) (b * c) by unfold divD; rw [h1, h2, z1]; rfl)
      have HC := hide (show divC a b c d = mkC (a * d) (b * c) by unfold divC; rw [h1, h2, z1]; rfl)
      go_enter Try.func36, Try.ntmps36
      go_wp2_with (first | (go_at_call 17; (with_reducible refine (validFrac_i a b ha0 ha1 _).mono ?_); rintro e w1 ⟨rfl, hb1⟩; obtain ⟨hc1, hf1⟩ := bcell hb1; have hw1 : Below w.heap.size w w1 := bl_call (by repeat (first | exact Below.refl _ _ | assumption | (refine bl_alloc ?_ (Nat.le_refl _) _) | (refine bl_set ?_ (by simp <;> omega) _))) hb1; have hz1 : w.heap.size + 3 ≤ w1.heap.size := (by have hq := hb1.size; have hr := hw1.size; (try simp at hq); omega); have hza : w.heap.size < w1.heap.size := (by omega); have hzb : w.heap.size + 1 < w1.heap.size := (by omega); have hzc : w.heap.size + 1 + 1 < w1.heap.size := (by omega); have hz4 := hb1.size; (try simp at hz4); (try have hz5 := Nat.lt_of_succ_le hz4)) | (go_at_call 17; (with_reducible refine (validFrac_i c d hq0 hq1 _).mono ?_); rintro e w1 ⟨rfl, hb1⟩; obtain ⟨hc1, hf1⟩ := bcell hb1; have hw1 : Below w.heap.size w w1 := bl_call (by repeat (first | exact Below.refl _ _ | assumption | (refine bl_alloc ?_ (Nat.le_refl _) _) | (refine bl_set ?_ (by simp <;> omega) _))) hb1; have hz1 : w.heap.size + 3 ≤ w1.heap.size := (by have hq := hb1.size; have hr := hw1.size; (try simp at hq); omega); have hza : w.heap.size < w1.heap.size := (by omega); have hzb : w.heap.size + 1 < w1.heap.size := (by omega); have hzc : w.heap.size + 1 + 1 < w1.heap.size := (by omega); have hz4 := hb1.size; (try simp at hz4); (try have hz5 := Nat.lt_of_succ_le hz4)) | (go_at_call 21; (with_reducible refine (makeFrac_i (a * d) (b * c) (by omega) (by omega) (by omega) (by omega) _).mono ?_); rintro e w1 ⟨rfl, hb1⟩; obtain ⟨hc1, hf1⟩ := bcell hb1; have hw1 : Below w.heap.size w w1 := bl_call (by repeat (first | exact Below.refl _ _ | assumption | (refine bl_alloc ?_ (Nat.le_refl _) _) | (refine bl_set ?_ (by simp <;> omega) _))) hb1; have hz1 : w.heap.size + 3 ≤ w1.heap.size := (by have hq := hb1.size; have hr := hw1.size; (try simp at hq); omega); have hza : w.heap.size < w1.heap.size := (by omega); have hzb : w.heap.size + 1 < w1.heap.size := (by omega); have hzc : w.heap.size + 1 + 1 < w1.heap.size := (by omega); have hz4 := hb1.size; (try simp at hz4); (try have hz5 := Nat.lt_of_succ_le hz4)))
      refine bodyPost_ret (v := .tuple #[.agg #[.int .i64 (divN a b c d), .int .i64 (divD a b c d)], .int .i64 (divC a b c d)]) ?_ rfl ⟨rfl, (by repeat (first | exact Below.refl _ _ | assumption | (refine bl_alloc ?_ (Nat.le_refl _) _) | (refine bl_set ?_ (by simp <;> omega) _)))⟩
      rw [HN.out, HD.out, HC.out]
      simp [results, Try.results36, go_sem, *]
  · cases h1 : okFr a b
    · clear h
      have HN := hide (show divN a b c d = 0 by unfold divN; rw [h1]; rfl)
      have HD := hide (show divD a b c d = 0 by unfold divD; rw [h1]; rfl)
      have HC := hide (show divC a b c d = 1 by unfold divC; rw [h1]; rfl)
      go_enter Try.func36, Try.ntmps36
      go_wp2_with (first | (go_at_call 17; (with_reducible refine (validFrac_i a b ha0 ha1 _).mono ?_); rintro e w1 ⟨rfl, hb1⟩; obtain ⟨hc1, hf1⟩ := bcell hb1; have hw1 : Below w.heap.size w w1 := bl_call (by repeat (first | exact Below.refl _ _ | assumption | (refine bl_alloc ?_ (Nat.le_refl _) _) | (refine bl_set ?_ (by simp <;> omega) _))) hb1; have hz1 : w.heap.size + 3 ≤ w1.heap.size := (by have hq := hb1.size; have hr := hw1.size; (try simp at hq); omega); have hza : w.heap.size < w1.heap.size := (by omega); have hzb : w.heap.size + 1 < w1.heap.size := (by omega); have hzc : w.heap.size + 1 + 1 < w1.heap.size := (by omega); have hz4 := hb1.size; (try simp at hz4); (try have hz5 := Nat.lt_of_succ_le hz4)) | (go_at_call 17; (with_reducible refine (validFrac_i c d hq0 hq1 _).mono ?_); rintro e w1 ⟨rfl, hb1⟩; obtain ⟨hc1, hf1⟩ := bcell hb1; have hw1 : Below w.heap.size w w1 := bl_call (by repeat (first | exact Below.refl _ _ | assumption | (refine bl_alloc ?_ (Nat.le_refl _) _) | (refine bl_set ?_ (by simp <;> omega) _))) hb1; have hz1 : w.heap.size + 3 ≤ w1.heap.size := (by have hq := hb1.size; have hr := hw1.size; (try simp at hq); omega); have hza : w.heap.size < w1.heap.size := (by omega); have hzb : w.heap.size + 1 < w1.heap.size := (by omega); have hzc : w.heap.size + 1 + 1 < w1.heap.size := (by omega); have hz4 := hb1.size; (try simp at hz4); (try have hz5 := Nat.lt_of_succ_le hz4)))
      refine bodyPost_ret (v := .tuple #[.agg #[.int .i64 (divN a b c d), .int .i64 (divD a b c d)], .int .i64 (divC a b c d)]) ?_ rfl ⟨rfl, (by repeat (first | exact Below.refl _ _ | assumption | (refine bl_alloc ?_ (Nat.le_refl _) _) | (refine bl_set ?_ (by simp <;> omega) _)))⟩
      rw [HN.out, HD.out, HC.out]
      simp [results, Try.results36, go_sem, *]
    · have h2 : okFr c d = false := by simpa [h1] using h
      clear h
      have HN := hide (show divN a b c d = 0 by unfold divN; rw [h1, h2]; rfl)
      have HD := hide (show divD a b c d = 0 by unfold divD; rw [h1, h2]; rfl)
      have HC := hide (show divC a b c d = 1 by unfold divC; rw [h1, h2]; rfl)
      go_enter Try.func36, Try.ntmps36
      go_wp2_with (first | (go_at_call 17; (with_reducible refine (validFrac_i a b ha0 ha1 _).mono ?_); rintro e w1 ⟨rfl, hb1⟩; obtain ⟨hc1, hf1⟩ := bcell hb1; have hw1 : Below w.heap.size w w1 := bl_call (by repeat (first | exact Below.refl _ _ | assumption | (refine bl_alloc ?_ (Nat.le_refl _) _) | (refine bl_set ?_ (by simp <;> omega) _))) hb1; have hz1 : w.heap.size + 3 ≤ w1.heap.size := (by have hq := hb1.size; have hr := hw1.size; (try simp at hq); omega); have hza : w.heap.size < w1.heap.size := (by omega); have hzb : w.heap.size + 1 < w1.heap.size := (by omega); have hzc : w.heap.size + 1 + 1 < w1.heap.size := (by omega); have hz4 := hb1.size; (try simp at hz4); (try have hz5 := Nat.lt_of_succ_le hz4)) | (go_at_call 17; (with_reducible refine (validFrac_i c d hq0 hq1 _).mono ?_); rintro e w1 ⟨rfl, hb1⟩; obtain ⟨hc1, hf1⟩ := bcell hb1; have hw1 : Below w.heap.size w w1 := bl_call (by repeat (first | exact Below.refl _ _ | assumption | (refine bl_alloc ?_ (Nat.le_refl _) _) | (refine bl_set ?_ (by simp <;> omega) _))) hb1; have hz1 : w.heap.size + 3 ≤ w1.heap.size := (by have hq := hb1.size; have hr := hw1.size; (try simp at hq); omega); have hza : w.heap.size < w1.heap.size := (by omega); have hzb : w.heap.size + 1 < w1.heap.size := (by omega); have hzc : w.heap.size + 1 + 1 < w1.heap.size := (by omega); have hz4 := hb1.size; (try simp at hz4); (try have hz5 := Nat.lt_of_succ_le hz4)))
      refine bodyPost_ret (v := .tuple #[.agg #[.int .i64 (divN a b c d), .int .i64 (divD a b c d)], .int .i64 (divC a b c d)]) ?_ rfl ⟨rfl, (by repeat (first | exact Below.refl _ _ | assumption | (refine bl_alloc ?_ (Nat.le_refl _) _) | (refine bl_set ?_ (by simp <;> omega) _)))⟩
      rw [HN.out, HD.out, HC.out]
      simp [results, Try.results36, go_sem, *]

set_option maxHeartbeats 1000000 in
theorem divFrac_s (a b c d : Int) (ha0 : -9223372036854775808 ≤ a) (ha1 : a ≤ 9223372036854775807) (hq0 : -9223372036854775808 ≤ c) (hq1 : c ≤ 9223372036854775807) (w : World) :
    Calls Try.prog 35 #[.agg #[.int .i64 a, .int .i64 b], .agg #[.int .i64 c, .int .i64 d]] w fun e w' => e = .returned (.tuple #[.agg #[.int .i64 (divN a b c d), .int .i64 (divD a b c d)], .int .i64 (divC a b c d)]) ∧ Below w.heap.size w w' := by
  by_cases h : okFr a b = true ∧ okFr c d = true
  · obtain ⟨h1, h2⟩ := h
    obtain ⟨p1, p2, p3, p4, _⟩ := okFr_t h1
    obtain ⟨q1, q2, q3, q4, _⟩ := okFr_t h2
    have u1 := prod_nd p3 p4 q1 q2
    have u3 := prod_nd q3 q4 p1 p2
    rw [Int.mul_comm c b] at u3
    obtain ⟨u10, u11⟩ := u1
    obtain ⟨u30, u31⟩ := u3
    by_cases h3 : c = 0
    · have z1 : (c == 0) = true := by simp [h3]
      have Z := hide h3
      clear h3
      have HN := hide (show divN a b c d = 0 by unfold divN; rw [h1, h2, z1]; rfl)
      have HD := hide (show divD a b c d = 0 by unfold divD; rw [h1, h2, z1]; rfl)
      have HC := hide (show divC a b c d = 2 by unfold divC; rw [h1, h2, z1]; rfl)
      go_enter Try.func35, Try.ntmps35
      go_wp2_with (first | (go_at_call 41; (with_reducible refine (l02Ok_any a b ha0 ha1 _).mono ?_); rintro e w1 ⟨rfl, hb1⟩; obtain ⟨hc1, hf1⟩ := bcell hb1; have hw1 : Below w.heap.size w w1 := bl_call (by repeat (first | exact Below.refl _ _ | assumption | (refine bl_alloc ?_ (Nat.le_refl _) _) | (refine bl_set ?_ (by simp <;> omega) _))) hb1; have hz1 : w.heap.size + 3 ≤ w1.heap.size := (by have hq := hb1.size; have hr := hw1.size; (try simp at hq); omega); have hza : w.heap.size < w1.heap.size := (by omega); have hzb : w.heap.size + 1 < w1.heap.size := (by omega); have hzc : w.heap.size + 1 + 1 < w1.heap.size := (by omega); have hz4 := hb1.size; (try simp at hz4); (try have hz5 := Nat.lt_of_succ_le hz4)) | (go_at_call 41; (with_reducible refine (l02Ok_any c d hq0 hq1 _).mono ?_); rintro e w1 ⟨rfl, hb1⟩; obtain ⟨hc1, hf1⟩ := bcell hb1; have hw1 : Below w.heap.size w w1 := bl_call (by repeat (first | exact Below.refl _ _ | assumption | (refine bl_alloc ?_ (Nat.le_refl _) _) | (refine bl_set ?_ (by simp <;> omega) _))) hb1; have hz1 : w.heap.size + 3 ≤ w1.heap.size := (by have hq := hb1.size; have hr := hw1.size; (try simp at hq); omega); have hza : w.heap.size < w1.heap.size := (by omega); have hzb : w.heap.size + 1 < w1.heap.size := (by omega); have hzc : w.heap.size + 1 + 1 < w1.heap.size := (by omega); have hz4 := hb1.size; (try simp at hz4); (try have hz5 := Nat.lt_of_succ_le hz4)))
      refine bodyPost_ret (v := .tuple #[.agg #[.int .i64 (divN a b c d), .int .i64 (divD a b c d)], .int .i64 (divC a b c d)]) ?_ rfl ⟨rfl, (by repeat (first | exact Below.refl _ _ | assumption | (refine bl_alloc ?_ (Nat.le_refl _) _) | (refine bl_set ?_ (by simp <;> omega) _)))⟩
      rw [HN.out, HD.out, HC.out]
      simp [results, Try.results35, go_sem, *]
    · have z1 : (c == 0) = false := by simp [h3]
      have HN := hide (show divN a b c d = mkN (a * d) (b * c) by unfold divN; rw [h1, h2, z1]; rfl)
      have HD := hide (show divD a b c d = mkD (a * d) (b * c) by unfold divD; rw [h1, h2, z1]; rfl)
      have HC := hide (show divC a b c d = mkC (a * d) (b * c) by unfold divC; rw [h1, h2, z1]; rfl)
      go_enter Try.func35, Try.ntmps35
      go_wp2_with (first | (go_at_call 41; (with_reducible refine (l02Ok_any a b ha0 ha1 _).mono ?_); rintro e w1 ⟨rfl, hb1⟩; obtain ⟨hc1, hf1⟩ := bcell hb1; have hw1 : Below w.heap.size w w1 := bl_call (by repeat (first | exact Below.refl _ _ | assumption | (refine bl_alloc ?_ (Nat.le_refl _) _) | (refine bl_set ?_ (by simp <;> omega) _))) hb1; have hz1 : w.heap.size + 3 ≤ w1.heap.size := (by have hq := hb1.size; have hr := hw1.size; (try simp at hq); omega); have hza : w.heap.size < w1.heap.size := (by omega); have hzb : w.heap.size + 1 < w1.heap.size := (by omega); have hzc : w.heap.size + 1 + 1 < w1.heap.size := (by omega); have hz4 := hb1.size; (try simp at hz4); (try have hz5 := Nat.lt_of_succ_le hz4)) | (go_at_call 41; (with_reducible refine (l02Ok_any c d hq0 hq1 _).mono ?_); rintro e w1 ⟨rfl, hb1⟩; obtain ⟨hc1, hf1⟩ := bcell hb1; have hw1 : Below w.heap.size w w1 := bl_call (by repeat (first | exact Below.refl _ _ | assumption | (refine bl_alloc ?_ (Nat.le_refl _) _) | (refine bl_set ?_ (by simp <;> omega) _))) hb1; have hz1 : w.heap.size + 3 ≤ w1.heap.size := (by have hq := hb1.size; have hr := hw1.size; (try simp at hq); omega); have hza : w.heap.size < w1.heap.size := (by omega); have hzb : w.heap.size + 1 < w1.heap.size := (by omega); have hzc : w.heap.size + 1 + 1 < w1.heap.size := (by omega); have hz4 := hb1.size; (try simp at hz4); (try have hz5 := Nat.lt_of_succ_le hz4)) | (go_at_call 20; (with_reducible refine (makeFrac_s (a * d) (b * c) (by omega) (by omega) (by omega) (by omega) _).mono ?_); rintro e w1 ⟨rfl, hb1⟩; obtain ⟨hc1, hf1⟩ := bcell hb1; have hw1 : Below w.heap.size w w1 := bl_call (by repeat (first | exact Below.refl _ _ | assumption | (refine bl_alloc ?_ (Nat.le_refl _) _) | (refine bl_set ?_ (by simp <;> omega) _))) hb1; have hz1 : w.heap.size + 3 ≤ w1.heap.size := (by have hq := hb1.size; have hr := hw1.size; (try simp at hq); omega); have hza : w.heap.size < w1.heap.size := (by omega); have hzb : w.heap.size + 1 < w1.heap.size := (by omega); have hzc : w.heap.size + 1 + 1 < w1.heap.size := (by omega); have hz4 := hb1.size; (try simp at hz4); (try have hz5 := Nat.lt_of_succ_le hz4)))
      refine bodyPost_ret (v := .tuple #[.agg #[.int .i64 (divN a b c d), .int .i64 (divD a b c d)], .int .i64 (divC a b c d)]) ?_ rfl ⟨rfl, (by repeat (first | exact Below.refl _ _ | assumption | (refine bl_alloc ?_ (Nat.le_refl _) _) | (refine bl_set ?_ (by simp <;> omega) _)))⟩
      rw [HN.out, HD.out, HC.out]
      simp [results, Try.results35, go_sem, *]
  · cases h1 : okFr a b
    · clear h
      have HN := hide (show divN a b c d = 0 by unfold divN; rw [h1]; rfl)
      have HD := hide (show divD a b c d = 0 by unfold divD; rw [h1]; rfl)
      have HC := hide (show divC a b c d = 1 by unfold divC; rw [h1]; rfl)
      go_enter Try.func35, Try.ntmps35
      go_wp2_with (first | (go_at_call 41; (with_reducible refine (l02Ok_any a b ha0 ha1 _).mono ?_); rintro e w1 ⟨rfl, hb1⟩; obtain ⟨hc1, hf1⟩ := bcell hb1; have hw1 : Below w.heap.size w w1 := bl_call (by repeat (first | exact Below.refl _ _ | assumption | (refine bl_alloc ?_ (Nat.le_refl _) _) | (refine bl_set ?_ (by simp <;> omega) _))) hb1; have hz1 : w.heap.size + 3 ≤ w1.heap.size := (by have hq := hb1.size; have hr := hw1.size; (try simp at hq); omega); have hza : w.heap.size < w1.heap.size := (by omega); have hzb : w.heap.size + 1 < w1.heap.size := (by omega); have hzc : w.heap.size + 1 + 1 < w1.heap.size := (by omega); have hz4 := hb1.size; (try simp at hz4); (try have hz5 := Nat.lt_of_succ_le hz4)) | (go_at_call 41; (with_reducible refine (l02Ok_any c d hq0 hq1 _).mono ?_); rintro e w1 ⟨rfl, hb1⟩; obtain ⟨hc1, hf1⟩ := bcell hb1; have hw1 : Below w.heap.size w w1 := bl_call (by repeat (first | exact Below.refl _ _ | assumption | (refine bl_alloc ?_ (Nat.le_refl _) _) | (refine bl_set ?_ (by simp <;> omega) _))) hb1; have hz1 : w.heap.size + 3 ≤ w1.heap.size := (by have hq := hb1.size; have hr := hw1.size; (try simp at hq); omega); have hza : w.heap.size < w1.heap.size := (by omega); have hzb : w.heap.size + 1 < w1.heap.size := (by omega); have hzc : w.heap.size + 1 + 1 < w1.heap.size := (by omega); have hz4 := hb1.size; (try simp at hz4); (try have hz5 := Nat.lt_of_succ_le hz4)))
      refine bodyPost_ret (v := .tuple #[.agg #[.int .i64 (divN a b c d), .int .i64 (divD a b c d)], .int .i64 (divC a b c d)]) ?_ rfl ⟨rfl, (by repeat (first | exact Below.refl _ _ | assumption | (refine bl_alloc ?_ (Nat.le_refl _) _) | (refine bl_set ?_ (by simp <;> omega) _)))⟩
      rw [HN.out, HD.out, HC.out]
      simp [results, Try.results35, go_sem, *]
    · have h2 : okFr c d = false := by simpa [h1] using h
      clear h
      have HN := hide (show divN a b c d = 0 by unfold divN; rw [h1, h2]; rfl)
      have HD := hide (show divD a b c d = 0 by unfold divD; rw [h1, h2]; rfl)
      have HC := hide (show divC a b c d = 1 by unfold divC; rw [h1, h2]; rfl)
      go_enter Try.func35, Try.ntmps35
      go_wp2_with (first | (go_at_call 41; (with_reducible refine (l02Ok_any a b ha0 ha1 _).mono ?_); rintro e w1 ⟨rfl, hb1⟩; obtain ⟨hc1, hf1⟩ := bcell hb1; have hw1 : Below w.heap.size w w1 := bl_call (by repeat (first | exact Below.refl _ _ | assumption | (refine bl_alloc ?_ (Nat.le_refl _) _) | (refine bl_set ?_ (by simp <;> omega) _))) hb1; have hz1 : w.heap.size + 3 ≤ w1.heap.size := (by have hq := hb1.size; have hr := hw1.size; (try simp at hq); omega); have hza : w.heap.size < w1.heap.size := (by omega); have hzb : w.heap.size + 1 < w1.heap.size := (by omega); have hzc : w.heap.size + 1 + 1 < w1.heap.size := (by omega); have hz4 := hb1.size; (try simp at hz4); (try have hz5 := Nat.lt_of_succ_le hz4)) | (go_at_call 41; (with_reducible refine (l02Ok_any c d hq0 hq1 _).mono ?_); rintro e w1 ⟨rfl, hb1⟩; obtain ⟨hc1, hf1⟩ := bcell hb1; have hw1 : Below w.heap.size w w1 := bl_call (by repeat (first | exact Below.refl _ _ | assumption | (refine bl_alloc ?_ (Nat.le_refl _) _) | (refine bl_set ?_ (by simp <;> omega) _))) hb1; have hz1 : w.heap.size + 3 ≤ w1.heap.size := (by have hq := hb1.size; have hr := hw1.size; (try simp at hq); omega); have hza : w.heap.size < w1.heap.size := (by omega); have hzb : w.heap.size + 1 < w1.heap.size := (by omega); have hzc : w.heap.size + 1 + 1 < w1.heap.size := (by omega); have hz4 := hb1.size; (try simp at hz4); (try have hz5 := Nat.lt_of_succ_le hz4)))
      refine bodyPost_ret (v := .tuple #[.agg #[.int .i64 (divN a b c d), .int .i64 (divD a b c d)], .int .i64 (divC a b c d)]) ?_ rfl ⟨rfl, (by repeat (first | exact Below.refl _ _ | assumption | (refine bl_alloc ?_ (Nat.le_refl _) _) | (refine bl_set ?_ (by simp <;> omega) _)))⟩
      rw [HN.out, HD.out, HC.out]
      simp [results, Try.results35, go_sem, *]
set_option maxHeartbeats 1000000 in
theorem fnDivFrac (a b c d : Int) (wa : (Lit.int .i64 a).wf = true) (wb : (Lit.int .i64 b).wf = true) (wc : (Lit.int .i64 c).wf = true) (wd : (Lit.int .i64 d).wf = true) (w : World) :
    Calls Try.prog 12 #[.agg #[.int .i64 a, .int .i64 b], .agg #[.int .i64 c, .int .i64 d]] w fun e w' => e = .returned (.bool true) ∧ Below w.heap.size w w' := by
  obtain ⟨ha0, ha1⟩ := wf64 wa
  obtain ⟨hq0, hq1⟩ := wf64 wc
  have he := eqB_self (divN a b c d) (divD a b c d)
  go_enter Try.func12, Try.ntmps12
  go_wp2
  refine wp_region_made 8 _ _ (.cells #[.int .i64 0, .int .i64 0] 25) (.cells #[.int .i64 (divN a b c d), .int .i64 (divD a b c d)] 25) (by kernel_rfl) (by kernel_rfl) rfl rfl (fun _ _ => by kernel_rfl) ?_
  simp only [List.take_succ_cons, List.take_zero, List.drop_succ_cons, List.drop_zero]
  repeat (refine wpSteady_step (fun K hK => ?_); go_simp; first | (refine hK _ ?_; clear hK K) | (apply Exists.intro; refine ⟨fun _ => ?_, hK _ ?_⟩; (first | (go_at_call 16; with_reducible exact keeps_of (toFrac_any _ _ _)) | (go_at_call 35; with_reducible exact keeps_of (divFrac_s a b c d ha0 ha1 hq0 hq1 _))); clear hK K))
  refine wpSteady_nil ?_
  refine ⟨?_, ?_⟩
  · intro gx w1 _ hx
    have hk := cell_blk hx
    have hf := frozen_blk hx
    exact ⟨(World.setCell (World.setCell w1 ⟨gx, 0, none⟩ (.int .i64 (divN a b c d))) ⟨gx, 1, none⟩ (.int .i64 (divD a b c d))), (by simp [go_sem, hk, hf]), (heap_set (heap_set hx 0 _) 1 _), (only_set ((only_set (only_refl w1 gx) 0 _)) 1 _)⟩
  intro gx w1 hgx hlx hb1 hx
  have hkx := cell_blk hx
  have hfx := frozen_blk hx
  clear hx
  try simp at hgx
  obtain ⟨hc1, hf1⟩ := bcell hb1
  have hw1 : Below w.heap.size w w1 := bl_call (by repeat (first | exact Below.refl _ _ | assumption | (refine bl_alloc ?_ (Nat.le_refl _) _) | (refine bl_set ?_ (by simp <;> omega) _))) hb1
  have hz1 : w.heap.size + 2 ≤ w1.heap.size := (by have hq := hb1.size; have hr := hw1.size; (try simp at hq); omega)
  have hza : w.heap.size < w1.heap.size := (by omega)
  have hzb : w.heap.size + 1 < w1.heap.size := (by omega)
  go_wp2
  refine wp_region_made 8 _ _ (.cells #[.int .i64 0, .int .i64 0] 25) (.cells #[.int .i64 (divN a b c d), .int .i64 (divD a b c d)] 25) (by kernel_rfl) (by kernel_rfl) rfl rfl (fun _ _ => by kernel_rfl) ?_
  simp only [List.take_succ_cons, List.take_zero, List.drop_succ_cons, List.drop_zero]
  repeat (refine wpSteady_step (fun K hK => ?_); go_simp; first | (refine hK _ ?_; clear hK K) | (apply Exists.intro; refine ⟨fun _ => ?_, hK _ ?_⟩; (first | (go_at_call 16; with_reducible exact keeps_of (toFrac_any _ _ _)) | (go_at_call 36; with_reducible exact keeps_of (divFrac_i a b c d ha0 ha1 hq0 hq1 _))); clear hK K))
  refine wpSteady_nil ?_
  refine ⟨?_, ?_⟩
  · intro gy w1 _ hx
    have hk := cell_blk hx
    have hf := frozen_blk hx
    exact ⟨(World.setCell (World.setCell w1 ⟨gy, 0, none⟩ (.int .i64 (divN a b c d))) ⟨gy, 1, none⟩ (.int .i64 (divD a b c d))), (by simp [go_sem, hk, hf]), (heap_set (heap_set hx 0 _) 1 _), (only_set ((only_set (only_refl w1 gy) 0 _)) 1 _)⟩
  intro gy w1 hgy hly hb1 hx
  have hky := cell_blk hx
  have hfy := frozen_blk hx
  clear hx
  try simp at hgy
  obtain ⟨hc1, hf1⟩ := bcell hb1
  have hw1 : Below w.heap.size w w1 := bl_call (by repeat (first | exact Below.refl _ _ | assumption | (refine bl_alloc ?_ (Nat.le_refl _) _) | (refine bl_set ?_ (by simp <;> omega) _))) hb1
  have hz1 : w.heap.size + 2 ≤ w1.heap.size := (by have hq := hb1.size; have hr := hw1.size; (try simp at hq); omega)
  have hza : w.heap.size < w1.heap.size := (by omega)
  have hzb : w.heap.size + 1 < w1.heap.size := (by omega)
  go_wp2_with (go_at_call 22; (with_reducible refine (eqFrac_any _ _ _ _ _).mono ?_); rintro e w1 ⟨rfl, hb1⟩; obtain ⟨hc1, hf1⟩ := bcell hb1; have hw1 : Below w.heap.size w w1 := bl_call (by repeat (first | exact Below.refl _ _ | assumption | (refine bl_alloc ?_ (Nat.le_refl _) _) | (refine bl_set ?_ (by simp <;> omega) _))) hb1; have hz1 : w.heap.size + 2 ≤ w1.heap.size := (by have hq := hb1.size; have hr := hw1.size; (try simp at hq); omega); have hza : w.heap.size < w1.heap.size := (by omega); have hzb : w.heap.size + 1 < w1.heap.size := (by omega); have hz4 := hb1.size; (try simp at hz4); (try have hz5 := Nat.lt_of_succ_le hz4))
  go_ret
  exact ⟨rfl, (by repeat (first | exact Below.refl _ _ | assumption | (refine bl_alloc ?_ (Nat.le_refl _) _) | (refine bl_set ?_ (by simp <;> omega) _)))⟩
end Go.Proofs.Ytcamejkhbdahcaa

