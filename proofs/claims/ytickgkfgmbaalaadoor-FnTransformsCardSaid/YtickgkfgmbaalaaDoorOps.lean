/-
  CONTRACTS of the operations on fractions (AddFrac, SubFrac, MulFrac, DivFrac; packages impl and spec): what each returns at every pair of fractions; no cell that was there is written. And the walks of their laws. Conditions: the numbers are of 64 bits.
-/
import Derived.Test.YtickgkfgmbaalaaDoorFr
import Derived.Test.YtickgkfgmbaalaaDoorTail
namespace Go.Proofs.YtickgkfgmbaalaaDoor
open Go.RowKit Go.Sort
set_option linter.unusedVariables false
attribute [local go_sem] cell_grow frozen_grow
attribute [local go_sem] Oper.quietAt Oper.quietUpon

/-- a fraction made of two numbers, if the arguments are valid -/
def rN (ok : Bool) (n d : Int) : Int := if ok then mkN n d else 0
def rD (ok : Bool) (n d : Int) : Int := if ok then mkD n d else 0
def rC (ok : Bool) (n d : Int) : Int := if ok then mkC n d else 1
theorem prod_nd {n d : Int} (hn0 : -1000000000 ≤ n) (hn1 : n ≤ 1000000000) (hd0 : 1 ≤ d) (hd1 : d ≤ 1000000) : -1000000000000000 ≤ n * d ∧ n * d ≤ 1000000000000000 := by
  have h := mul_bd n d 1000000000 1000000 (by omega) (by omega) (by omega) (by omega)
  omega
theorem prod_nn {n d : Int} (hn0 : -1000000000 ≤ n) (hn1 : n ≤ 1000000000) (hd0 : -1000000000 ≤ d) (hd1 : d ≤ 1000000000) : -1000000000000000000 ≤ n * d ∧ n * d ≤ 1000000000000000000 := by
  have h := mul_bd n d 1000000000 1000000000 (by omega) (by omega) (by omega) (by omega)
  omega
theorem prod_dd {n d : Int} (hn0 : 1 ≤ n) (hn1 : n ≤ 1000000) (hd0 : 1 ≤ d) (hd1 : d ≤ 1000000) : 1 ≤ n * d ∧ n * d ≤ 1000000000000 := by
  have h := mul_bd n d 1000000 1000000 (by omega) (by omega) (by omega) (by omega)
  have h2 := Int.mul_le_mul hn0 hd0 (by omega) (by omega)
  omega
def addN (a b c d : Int) : Int := rN (okFr a b && okFr c d) (a * d + c * b) (b * d)
def addD (a b c d : Int) : Int := rD (okFr a b && okFr c d) (a * d + c * b) (b * d)
def addC (a b c d : Int) : Int := rC (okFr a b && okFr c d) (a * d + c * b) (b * d)

set_option maxHeartbeats 1000000 in
theorem addFrac_i (a b c d : Int) (ha0 : -9223372036854775808 ≤ a) (ha1 : a ≤ 9223372036854775807) (hq0 : -9223372036854775808 ≤ c) (hq1 : c ≤ 9223372036854775807) (w : World) :
    Calls Tryd.prog 36 #[.agg #[.int .i64 a, .int .i64 b], .agg #[.int .i64 c, .int .i64 d]] w fun e w' => e = .returned (.tuple #[.agg #[.int .i64 (addN a b c d), .int .i64 (addD a b c d)], .int .i64 (addC a b c d)]) ∧ Below w.heap.size w w' := by
  by_cases h : okFr a b = true ∧ okFr c d = true
  · obtain ⟨h1, h2⟩ := h
    obtain ⟨p1, p2, p3, p4, _⟩ := okFr_t h1
    obtain ⟨q1, q2, q3, q4, _⟩ := okFr_t h2
    have u1 := prod_nd p3 p4 q1 q2
    have u2 := prod_nd q3 q4 p1 p2
    have u3 := prod_dd p1 p2 q1 q2
    obtain ⟨u10, u11⟩ := u1
    obtain ⟨u20, u21⟩ := u2
    obtain ⟨u30, u31⟩ := u3
    have HN := hide (show addN a b c d = mkN (a * d + c * b) (b * d) by unfold addN rN; rw [h1, h2]; rfl)
    have HD := hide (show addD a b c d = mkD (a * d + c * b) (b * d) by unfold addD rD; rw [h1, h2]; rfl)
    have HC := hide (show addC a b c d = mkC (a * d + c * b) (b * d) by unfold addC rC; rw [h1, h2]; rfl)
    go_enter Tryd.func36, Tryd.ntmps36
    go_wp2_with (first | (go_at_call 57; (with_reducible refine (validFrac_i a b ha0 ha1 _).mono ?_); rintro e w1 ⟨rfl, hb1⟩; obtain ⟨hc1, hf1⟩ := bcell hb1; have hw1 : Below w.heap.size w w1 := bl_call (by repeat (first | exact Below.refl _ _ | assumption | (refine bl_alloc ?_ (Nat.le_refl _) _) | (refine bl_set ?_ (by simp <;> omega) _))) hb1; have hz1 : w.heap.size + 3 ≤ w1.heap.size := (by have hq := hb1.size; have hr := hw1.size; (try simp at hq); omega); have hza : w.heap.size < w1.heap.size := (by omega); have hzb : w.heap.size + 1 < w1.heap.size := (by omega); have hzc : w.heap.size + 1 + 1 < w1.heap.size := (by omega); have hz4 := hb1.size; (try simp at hz4); (try have hz5 := Nat.lt_of_succ_le hz4)) | (go_at_call 57; (with_reducible refine (validFrac_i c d hq0 hq1 _).mono ?_); rintro e w1 ⟨rfl, hb1⟩; obtain ⟨hc1, hf1⟩ := bcell hb1; have hw1 : Below w.heap.size w w1 := bl_call (by repeat (first | exact Below.refl _ _ | assumption | (refine bl_alloc ?_ (Nat.le_refl _) _) | (refine bl_set ?_ (by simp <;> omega) _))) hb1; have hz1 : w.heap.size + 3 ≤ w1.heap.size := (by have hq := hb1.size; have hr := hw1.size; (try simp at hq); omega); have hza : w.heap.size < w1.heap.size := (by omega); have hzb : w.heap.size + 1 < w1.heap.size := (by omega); have hzc : w.heap.size + 1 + 1 < w1.heap.size := (by omega); have hz4 := hb1.size; (try simp at hz4); (try have hz5 := Nat.lt_of_succ_le hz4)) | (go_at_call 58; (with_reducible refine (makeFrac_i (a * d + c * b) (b * d) (by omega) (by omega) (by omega) (by omega) _).mono ?_); rintro e w1 ⟨rfl, hb1⟩; obtain ⟨hc1, hf1⟩ := bcell hb1; have hw1 : Below w.heap.size w w1 := bl_call (by repeat (first | exact Below.refl _ _ | assumption | (refine bl_alloc ?_ (Nat.le_refl _) _) | (refine bl_set ?_ (by simp <;> omega) _))) hb1; have hz1 : w.heap.size + 3 ≤ w1.heap.size := (by have hq := hb1.size; have hr := hw1.size; (try simp at hq); omega); have hza : w.heap.size < w1.heap.size := (by omega); have hzb : w.heap.size + 1 < w1.heap.size := (by omega); have hzc : w.heap.size + 1 + 1 < w1.heap.size := (by omega); have hz4 := hb1.size; (try simp at hz4); (try have hz5 := Nat.lt_of_succ_le hz4)))
    refine bodyPost_ret (v := .tuple #[.agg #[.int .i64 (addN a b c d), .int .i64 (addD a b c d)], .int .i64 (addC a b c d)]) ?_ rfl ⟨rfl, (by repeat (first | exact Below.refl _ _ | assumption | (refine bl_alloc ?_ (Nat.le_refl _) _) | (refine bl_set ?_ (by simp <;> omega) _)))⟩
    rw [HN.out, HD.out, HC.out]
    simp [results, Tryd.results36, go_sem, *]
  · cases h1 : okFr a b
    · clear h
      have HN := hide (show addN a b c d = 0 by unfold addN rN; rw [h1]; rfl)
      have HD := hide (show addD a b c d = 0 by unfold addD rD; rw [h1]; rfl)
      have HC := hide (show addC a b c d = 1 by unfold addC rC; rw [h1]; rfl)
      go_enter Tryd.func36, Tryd.ntmps36
      go_wp2_with (first | (go_at_call 57; (with_reducible refine (validFrac_i a b ha0 ha1 _).mono ?_); rintro e w1 ⟨rfl, hb1⟩; obtain ⟨hc1, hf1⟩ := bcell hb1; have hw1 : Below w.heap.size w w1 := bl_call (by repeat (first | exact Below.refl _ _ | assumption | (refine bl_alloc ?_ (Nat.le_refl _) _) | (refine bl_set ?_ (by simp <;> omega) _))) hb1; have hz1 : w.heap.size + 3 ≤ w1.heap.size := (by have hq := hb1.size; have hr := hw1.size; (try simp at hq); omega); have hza : w.heap.size < w1.heap.size := (by omega); have hzb : w.heap.size + 1 < w1.heap.size := (by omega); have hzc : w.heap.size + 1 + 1 < w1.heap.size := (by omega); have hz4 := hb1.size; (try simp at hz4); (try have hz5 := Nat.lt_of_succ_le hz4)) | (go_at_call 57; (with_reducible refine (validFrac_i c d hq0 hq1 _).mono ?_); rintro e w1 ⟨rfl, hb1⟩; obtain ⟨hc1, hf1⟩ := bcell hb1; have hw1 : Below w.heap.size w w1 := bl_call (by repeat (first | exact Below.refl _ _ | assumption | (refine bl_alloc ?_ (Nat.le_refl _) _) | (refine bl_set ?_ (by simp <;> omega) _))) hb1; have hz1 : w.heap.size + 3 ≤ w1.heap.size := (by have hq := hb1.size; have hr := hw1.size; (try simp at hq); omega); have hza : w.heap.size < w1.heap.size := (by omega); have hzb : w.heap.size + 1 < w1.heap.size := (by omega); have hzc : w.heap.size + 1 + 1 < w1.heap.size := (by omega); have hz4 := hb1.size; (try simp at hz4); (try have hz5 := Nat.lt_of_succ_le hz4)))
      refine bodyPost_ret (v := .tuple #[.agg #[.int .i64 (addN a b c d), .int .i64 (addD a b c d)], .int .i64 (addC a b c d)]) ?_ rfl ⟨rfl, (by repeat (first | exact Below.refl _ _ | assumption | (refine bl_alloc ?_ (Nat.le_refl _) _) | (refine bl_set ?_ (by simp <;> omega) _)))⟩
      rw [HN.out, HD.out, HC.out]
      simp [results, Tryd.results36, go_sem, *]
    · have h2 : okFr c d = false := by simpa [h1] using h
      clear h
      have HN := hide (show addN a b c d = 0 by unfold addN rN; rw [h1, h2]; rfl)
      have HD := hide (show addD a b c d = 0 by unfold addD rD; rw [h1, h2]; rfl)
      have HC := hide (show addC a b c d = 1 by unfold addC rC; rw [h1, h2]; rfl)
      go_enter Tryd.func36, Tryd.ntmps36
      go_wp2_with (first | (go_at_call 57; (with_reducible refine (validFrac_i a b ha0 ha1 _).mono ?_); rintro e w1 ⟨rfl, hb1⟩; obtain ⟨hc1, hf1⟩ := bcell hb1; have hw1 : Below w.heap.size w w1 := bl_call (by repeat (first | exact Below.refl _ _ | assumption | (refine bl_alloc ?_ (Nat.le_refl _) _) | (refine bl_set ?_ (by simp <;> omega) _))) hb1; have hz1 : w.heap.size + 3 ≤ w1.heap.size := (by have hq := hb1.size; have hr := hw1.size; (try simp at hq); omega); have hza : w.heap.size < w1.heap.size := (by omega); have hzb : w.heap.size + 1 < w1.heap.size := (by omega); have hzc : w.heap.size + 1 + 1 < w1.heap.size := (by omega); have hz4 := hb1.size; (try simp at hz4); (try have hz5 := Nat.lt_of_succ_le hz4)) | (go_at_call 57; (with_reducible refine (validFrac_i c d hq0 hq1 _).mono ?_); rintro e w1 ⟨rfl, hb1⟩; obtain ⟨hc1, hf1⟩ := bcell hb1; have hw1 : Below w.heap.size w w1 := bl_call (by repeat (first | exact Below.refl _ _ | assumption | (refine bl_alloc ?_ (Nat.le_refl _) _) | (refine bl_set ?_ (by simp <;> omega) _))) hb1; have hz1 : w.heap.size + 3 ≤ w1.heap.size := (by have hq := hb1.size; have hr := hw1.size; (try simp at hq); omega); have hza : w.heap.size < w1.heap.size := (by omega); have hzb : w.heap.size + 1 < w1.heap.size := (by omega); have hzc : w.heap.size + 1 + 1 < w1.heap.size := (by omega); have hz4 := hb1.size; (try simp at hz4); (try have hz5 := Nat.lt_of_succ_le hz4)))
      refine bodyPost_ret (v := .tuple #[.agg #[.int .i64 (addN a b c d), .int .i64 (addD a b c d)], .int .i64 (addC a b c d)]) ?_ rfl ⟨rfl, (by repeat (first | exact Below.refl _ _ | assumption | (refine bl_alloc ?_ (Nat.le_refl _) _) | (refine bl_set ?_ (by simp <;> omega) _)))⟩
      rw [HN.out, HD.out, HC.out]
      simp [results, Tryd.results36, go_sem, *]

def subN (a b c d : Int) : Int := rN (okFr a b && okFr c d) (a * d - c * b) (b * d)
def subD (a b c d : Int) : Int := rD (okFr a b && okFr c d) (a * d - c * b) (b * d)
def subC (a b c d : Int) : Int := rC (okFr a b && okFr c d) (a * d - c * b) (b * d)


def mulN (a b c d : Int) : Int := rN (okFr a b && okFr c d) (a * c) (b * d)
def mulD (a b c d : Int) : Int := rD (okFr a b && okFr c d) (a * c) (b * d)
def mulC (a b c d : Int) : Int := rC (okFr a b && okFr c d) (a * c) (b * d)

set_option maxHeartbeats 1000000 in
theorem mulFrac_i (a b c d : Int) (ha0 : -9223372036854775808 ≤ a) (ha1 : a ≤ 9223372036854775807) (hq0 : -9223372036854775808 ≤ c) (hq1 : c ≤ 9223372036854775807) (w : World) :
    Calls Tryd.prog 59 #[.agg #[.int .i64 a, .int .i64 b], .agg #[.int .i64 c, .int .i64 d]] w fun e w' => e = .returned (.tuple #[.agg #[.int .i64 (mulN a b c d), .int .i64 (mulD a b c d)], .int .i64 (mulC a b c d)]) ∧ Below w.heap.size w w' := by
  by_cases h : okFr a b = true ∧ okFr c d = true
  · obtain ⟨h1, h2⟩ := h
    obtain ⟨p1, p2, p3, p4, _⟩ := okFr_t h1
    obtain ⟨q1, q2, q3, q4, _⟩ := okFr_t h2
    have u1 := prod_nn p3 p4 q3 q4
    have u3 := prod_dd p1 p2 q1 q2
    obtain ⟨u10, u11⟩ := u1
    obtain ⟨u30, u31⟩ := u3
    have HN := hide (show mulN a b c d = mkN (a * c) (b * d) by unfold mulN rN; rw [h1, h2]; rfl)
    have HD := hide (show mulD a b c d = mkD (a * c) (b * d) by unfold mulD rD; rw [h1, h2]; rfl)
    have HC := hide (show mulC a b c d = mkC (a * c) (b * d) by unfold mulC rC; rw [h1, h2]; rfl)
    go_enter Tryd.func59, Tryd.ntmps59
    go_wp2_with (first | (go_at_call 57; (with_reducible refine (validFrac_i a b ha0 ha1 _).mono ?_); rintro e w1 ⟨rfl, hb1⟩; obtain ⟨hc1, hf1⟩ := bcell hb1; have hw1 : Below w.heap.size w w1 := bl_call (by repeat (first | exact Below.refl _ _ | assumption | (refine bl_alloc ?_ (Nat.le_refl _) _) | (refine bl_set ?_ (by simp <;> omega) _))) hb1; have hz1 : w.heap.size + 3 ≤ w1.heap.size := (by have hq := hb1.size; have hr := hw1.size; (try simp at hq); omega); have hza : w.heap.size < w1.heap.size := (by omega); have hzb : w.heap.size + 1 < w1.heap.size := (by omega); have hzc : w.heap.size + 1 + 1 < w1.heap.size := (by omega); have hz4 := hb1.size; (try simp at hz4); (try have hz5 := Nat.lt_of_succ_le hz4)) | (go_at_call 57; (with_reducible refine (validFrac_i c d hq0 hq1 _).mono ?_); rintro e w1 ⟨rfl, hb1⟩; obtain ⟨hc1, hf1⟩ := bcell hb1; have hw1 : Below w.heap.size w w1 := bl_call (by repeat (first | exact Below.refl _ _ | assumption | (refine bl_alloc ?_ (Nat.le_refl _) _) | (refine bl_set ?_ (by simp <;> omega) _))) hb1; have hz1 : w.heap.size + 3 ≤ w1.heap.size := (by have hq := hb1.size; have hr := hw1.size; (try simp at hq); omega); have hza : w.heap.size < w1.heap.size := (by omega); have hzb : w.heap.size + 1 < w1.heap.size := (by omega); have hzc : w.heap.size + 1 + 1 < w1.heap.size := (by omega); have hz4 := hb1.size; (try simp at hz4); (try have hz5 := Nat.lt_of_succ_le hz4)) | (go_at_call 58; (with_reducible refine (makeFrac_i (a * c) (b * d) (by omega) (by omega) (by omega) (by omega) _).mono ?_); rintro e w1 ⟨rfl, hb1⟩; obtain ⟨hc1, hf1⟩ := bcell hb1; have hw1 : Below w.heap.size w w1 := bl_call (by repeat (first | exact Below.refl _ _ | assumption | (refine bl_alloc ?_ (Nat.le_refl _) _) | (refine bl_set ?_ (by simp <;> omega) _))) hb1; have hz1 : w.heap.size + 3 ≤ w1.heap.size := (by have hq := hb1.size; have hr := hw1.size; (try simp at hq); omega); have hza : w.heap.size < w1.heap.size := (by omega); have hzb : w.heap.size + 1 < w1.heap.size := (by omega); have hzc : w.heap.size + 1 + 1 < w1.heap.size := (by omega); have hz4 := hb1.size; (try simp at hz4); (try have hz5 := Nat.lt_of_succ_le hz4)))
    refine bodyPost_ret (v := .tuple #[.agg #[.int .i64 (mulN a b c d), .int .i64 (mulD a b c d)], .int .i64 (mulC a b c d)]) ?_ rfl ⟨rfl, (by repeat (first | exact Below.refl _ _ | assumption | (refine bl_alloc ?_ (Nat.le_refl _) _) | (refine bl_set ?_ (by simp <;> omega) _)))⟩
    rw [HN.out, HD.out, HC.out]
    simp [results, Tryd.results59, go_sem, *]
  · cases h1 : okFr a b
    · clear h
      have HN := hide (show mulN a b c d = 0 by unfold mulN rN; rw [h1]; rfl)
      have HD := hide (show mulD a b c d = 0 by unfold mulD rD; rw [h1]; rfl)
      have HC := hide (show mulC a b c d = 1 by unfold mulC rC; rw [h1]; rfl)
      go_enter Tryd.func59, Tryd.ntmps59
      go_wp2_with (first | (go_at_call 57; (with_reducible refine (validFrac_i a b ha0 ha1 _).mono ?_); rintro e w1 ⟨rfl, hb1⟩; obtain ⟨hc1, hf1⟩ := bcell hb1; have hw1 : Below w.heap.size w w1 := bl_call (by repeat (first | exact Below.refl _ _ | assumption | (refine bl_alloc ?_ (Nat.le_refl _) _) | (refine bl_set ?_ (by simp <;> omega) _))) hb1; have hz1 : w.heap.size + 3 ≤ w1.heap.size := (by have hq := hb1.size; have hr := hw1.size; (try simp at hq); omega); have hza : w.heap.size < w1.heap.size := (by omega); have hzb : w.heap.size + 1 < w1.heap.size := (by omega); have hzc : w.heap.size + 1 + 1 < w1.heap.size := (by omega); have hz4 := hb1.size; (try simp at hz4); (try have hz5 := Nat.lt_of_succ_le hz4)) | (go_at_call 57; (with_reducible refine (validFrac_i c d hq0 hq1 _).mono ?_); rintro e w1 ⟨rfl, hb1⟩; obtain ⟨hc1, hf1⟩ := bcell hb1; have hw1 : Below w.heap.size w w1 := bl_call (by repeat (first | exact Below.refl _ _ | assumption | (refine bl_alloc ?_ (Nat.le_refl _) _) | (refine bl_set ?_ (by simp <;> omega) _))) hb1; have hz1 : w.heap.size + 3 ≤ w1.heap.size := (by have hq := hb1.size; have hr := hw1.size; (try simp at hq); omega); have hza : w.heap.size < w1.heap.size := (by omega); have hzb : w.heap.size + 1 < w1.heap.size := (by omega); have hzc : w.heap.size + 1 + 1 < w1.heap.size := (by omega); have hz4 := hb1.size; (try simp at hz4); (try have hz5 := Nat.lt_of_succ_le hz4)))
      refine bodyPost_ret (v := .tuple #[.agg #[.int .i64 (mulN a b c d), .int .i64 (mulD a b c d)], .int .i64 (mulC a b c d)]) ?_ rfl ⟨rfl, (by repeat (first | exact Below.refl _ _ | assumption | (refine bl_alloc ?_ (Nat.le_refl _) _) | (refine bl_set ?_ (by simp <;> omega) _)))⟩
      rw [HN.out, HD.out, HC.out]
      simp [results, Tryd.results59, go_sem, *]
    · have h2 : okFr c d = false := by simpa [h1] using h
      clear h
      have HN := hide (show mulN a b c d = 0 by unfold mulN rN; rw [h1, h2]; rfl)
      have HD := hide (show mulD a b c d = 0 by unfold mulD rD; rw [h1, h2]; rfl)
      have HC := hide (show mulC a b c d = 1 by unfold mulC rC; rw [h1, h2]; rfl)
      go_enter Tryd.func59, Tryd.ntmps59
      go_wp2_with (first | (go_at_call 57; (with_reducible refine (validFrac_i a b ha0 ha1 _).mono ?_); rintro e w1 ⟨rfl, hb1⟩; obtain ⟨hc1, hf1⟩ := bcell hb1; have hw1 : Below w.heap.size w w1 := bl_call (by repeat (first | exact Below.refl _ _ | assumption | (refine bl_alloc ?_ (Nat.le_refl _) _) | (refine bl_set ?_ (by simp <;> omega) _))) hb1; have hz1 : w.heap.size + 3 ≤ w1.heap.size := (by have hq := hb1.size; have hr := hw1.size; (try simp at hq); omega); have hza : w.heap.size < w1.heap.size := (by omega); have hzb : w.heap.size + 1 < w1.heap.size := (by omega); have hzc : w.heap.size + 1 + 1 < w1.heap.size := (by omega); have hz4 := hb1.size; (try simp at hz4); (try have hz5 := Nat.lt_of_succ_le hz4)) | (go_at_call 57; (with_reducible refine (validFrac_i c d hq0 hq1 _).mono ?_); rintro e w1 ⟨rfl, hb1⟩; obtain ⟨hc1, hf1⟩ := bcell hb1; have hw1 : Below w.heap.size w w1 := bl_call (by repeat (first | exact Below.refl _ _ | assumption | (refine bl_alloc ?_ (Nat.le_refl _) _) | (refine bl_set ?_ (by simp <;> omega) _))) hb1; have hz1 : w.heap.size + 3 ≤ w1.heap.size := (by have hq := hb1.size; have hr := hw1.size; (try simp at hq); omega); have hza : w.heap.size < w1.heap.size := (by omega); have hzb : w.heap.size + 1 < w1.heap.size := (by omega); have hzc : w.heap.size + 1 + 1 < w1.heap.size := (by omega); have hz4 := hb1.size; (try simp at hz4); (try have hz5 := Nat.lt_of_succ_le hz4)))
      refine bodyPost_ret (v := .tuple #[.agg #[.int .i64 (mulN a b c d), .int .i64 (mulD a b c d)], .int .i64 (mulC a b c d)]) ?_ rfl ⟨rfl, (by repeat (first | exact Below.refl _ _ | assumption | (refine bl_alloc ?_ (Nat.le_refl _) _) | (refine bl_set ?_ (by simp <;> omega) _)))⟩
      rw [HN.out, HD.out, HC.out]
      simp [results, Tryd.results59, go_sem, *]

set_option maxHeartbeats 1000000 in
theorem mulFrac_s (a b c d : Int) (ha0 : -9223372036854775808 ≤ a) (ha1 : a ≤ 9223372036854775807) (hq0 : -9223372036854775808 ≤ c) (hq1 : c ≤ 9223372036854775807) (w : World) :
    Calls Tryd.prog 19 #[.agg #[.int .i64 a, .int .i64 b], .agg #[.int .i64 c, .int .i64 d]] w fun e w' => e = .returned (.tuple #[.agg #[.int .i64 (mulN a b c d), .int .i64 (mulD a b c d)], .int .i64 (mulC a b c d)]) ∧ Below w.heap.size w w' := by
  by_cases h : okFr a b = true ∧ okFr c d = true
  · obtain ⟨h1, h2⟩ := h
    obtain ⟨p1, p2, p3, p4, _⟩ := okFr_t h1
    obtain ⟨q1, q2, q3, q4, _⟩ := okFr_t h2
    have u1 := prod_nn p3 p4 q3 q4
    have u3 := prod_dd p1 p2 q1 q2
    obtain ⟨u10, u11⟩ := u1
    obtain ⟨u30, u31⟩ := u3
    have HN := hide (show mulN a b c d = mkN (a * c) (b * d) by unfold mulN rN; rw [h1, h2]; rfl)
    have HD := hide (show mulD a b c d = mkD (a * c) (b * d) by unfold mulD rD; rw [h1, h2]; rfl)
    have HC := hide (show mulC a b c d = mkC (a * c) (b * d) by unfold mulC rC; rw [h1, h2]; rfl)
    go_enter Tryd.func19, Tryd.ntmps19
    go_wp2_with (first | (go_at_call 46; (with_reducible refine (l02Ok_any a b ha0 ha1 _).mono ?_); rintro e w1 ⟨rfl, hb1⟩; obtain ⟨hc1, hf1⟩ := bcell hb1; have hw1 : Below w.heap.size w w1 := bl_call (by repeat (first | exact Below.refl _ _ | assumption | (refine bl_alloc ?_ (Nat.le_refl _) _) | (refine bl_set ?_ (by simp <;> omega) _))) hb1; have hz1 : w.heap.size + 3 ≤ w1.heap.size := (by have hq := hb1.size; have hr := hw1.size; (try simp at hq); omega); have hza : w.heap.size < w1.heap.size := (by omega); have hzb : w.heap.size + 1 < w1.heap.size := (by omega); have hzc : w.heap.size + 1 + 1 < w1.heap.size := (by omega); have hz4 := hb1.size; (try simp at hz4); (try have hz5 := Nat.lt_of_succ_le hz4)) | (go_at_call 46; (with_reducible refine (l02Ok_any c d hq0 hq1 _).mono ?_); rintro e w1 ⟨rfl, hb1⟩; obtain ⟨hc1, hf1⟩ := bcell hb1; have hw1 : Below w.heap.size w w1 := bl_call (by repeat (first | exact Below.refl _ _ | assumption | (refine bl_alloc ?_ (Nat.le_refl _) _) | (refine bl_set ?_ (by simp <;> omega) _))) hb1; have hz1 : w.heap.size + 3 ≤ w1.heap.size := (by have hq := hb1.size; have hr := hw1.size; (try simp at hq); omega); have hza : w.heap.size < w1.heap.size := (by omega); have hzb : w.heap.size + 1 < w1.heap.size := (by omega); have hzc : w.heap.size + 1 + 1 < w1.heap.size := (by omega); have hz4 := hb1.size; (try simp at hz4); (try have hz5 := Nat.lt_of_succ_le hz4)) | (go_at_call 47; (with_reducible refine (makeFrac_s (a * c) (b * d) (by omega) (by omega) (by omega) (by omega) _).mono ?_); rintro e w1 ⟨rfl, hb1⟩; obtain ⟨hc1, hf1⟩ := bcell hb1; have hw1 : Below w.heap.size w w1 := bl_call (by repeat (first | exact Below.refl _ _ | assumption | (refine bl_alloc ?_ (Nat.le_refl _) _) | (refine bl_set ?_ (by simp <;> omega) _))) hb1; have hz1 : w.heap.size + 3 ≤ w1.heap.size := (by have hq := hb1.size; have hr := hw1.size; (try simp at hq); omega); have hza : w.heap.size < w1.heap.size := (by omega); have hzb : w.heap.size + 1 < w1.heap.size := (by omega); have hzc : w.heap.size + 1 + 1 < w1.heap.size := (by omega); have hz4 := hb1.size; (try simp at hz4); (try have hz5 := Nat.lt_of_succ_le hz4)))
    refine bodyPost_ret (v := .tuple #[.agg #[.int .i64 (mulN a b c d), .int .i64 (mulD a b c d)], .int .i64 (mulC a b c d)]) ?_ rfl ⟨rfl, (by repeat (first | exact Below.refl _ _ | assumption | (refine bl_alloc ?_ (Nat.le_refl _) _) | (refine bl_set ?_ (by simp <;> omega) _)))⟩
    rw [HN.out, HD.out, HC.out]
    simp [results, Tryd.results19, go_sem, *]
  · cases h1 : okFr a b
    · clear h
      have HN := hide (show mulN a b c d = 0 by unfold mulN rN; rw [h1]; rfl)
      have HD := hide (show mulD a b c d = 0 by unfold mulD rD; rw [h1]; rfl)
      have HC := hide (show mulC a b c d = 1 by unfold mulC rC; rw [h1]; rfl)
      go_enter Tryd.func19, Tryd.ntmps19
      go_wp2_with (first | (go_at_call 46; (with_reducible refine (l02Ok_any a b ha0 ha1 _).mono ?_); rintro e w1 ⟨rfl, hb1⟩; obtain ⟨hc1, hf1⟩ := bcell hb1; have hw1 : Below w.heap.size w w1 := bl_call (by repeat (first | exact Below.refl _ _ | assumption | (refine bl_alloc ?_ (Nat.le_refl _) _) | (refine bl_set ?_ (by simp <;> omega) _))) hb1; have hz1 : w.heap.size + 3 ≤ w1.heap.size := (by have hq := hb1.size; have hr := hw1.size; (try simp at hq); omega); have hza : w.heap.size < w1.heap.size := (by omega); have hzb : w.heap.size + 1 < w1.heap.size := (by omega); have hzc : w.heap.size + 1 + 1 < w1.heap.size := (by omega); have hz4 := hb1.size; (try simp at hz4); (try have hz5 := Nat.lt_of_succ_le hz4)) | (go_at_call 46; (with_reducible refine (l02Ok_any c d hq0 hq1 _).mono ?_); rintro e w1 ⟨rfl, hb1⟩; obtain ⟨hc1, hf1⟩ := bcell hb1; have hw1 : Below w.heap.size w w1 := bl_call (by repeat (first | exact Below.refl _ _ | assumption | (refine bl_alloc ?_ (Nat.le_refl _) _) | (refine bl_set ?_ (by simp <;> omega) _))) hb1; have hz1 : w.heap.size + 3 ≤ w1.heap.size := (by have hq := hb1.size; have hr := hw1.size; (try simp at hq); omega); have hza : w.heap.size < w1.heap.size := (by omega); have hzb : w.heap.size + 1 < w1.heap.size := (by omega); have hzc : w.heap.size + 1 + 1 < w1.heap.size := (by omega); have hz4 := hb1.size; (try simp at hz4); (try have hz5 := Nat.lt_of_succ_le hz4)))
      refine bodyPost_ret (v := .tuple #[.agg #[.int .i64 (mulN a b c d), .int .i64 (mulD a b c d)], .int .i64 (mulC a b c d)]) ?_ rfl ⟨rfl, (by repeat (first | exact Below.refl _ _ | assumption | (refine bl_alloc ?_ (Nat.le_refl _) _) | (refine bl_set ?_ (by simp <;> omega) _)))⟩
      rw [HN.out, HD.out, HC.out]
      simp [results, Tryd.results19, go_sem, *]
    · have h2 : okFr c d = false := by simpa [h1] using h
      clear h
      have HN := hide (show mulN a b c d = 0 by unfold mulN rN; rw [h1, h2]; rfl)
      have HD := hide (show mulD a b c d = 0 by unfold mulD rD; rw [h1, h2]; rfl)
      have HC := hide (show mulC a b c d = 1 by unfold mulC rC; rw [h1, h2]; rfl)
      go_enter Tryd.func19, Tryd.ntmps19
      go_wp2_with (first | (go_at_call 46; (with_reducible refine (l02Ok_any a b ha0 ha1 _).mono ?_); rintro e w1 ⟨rfl, hb1⟩; obtain ⟨hc1, hf1⟩ := bcell hb1; have hw1 : Below w.heap.size w w1 := bl_call (by repeat (first | exact Below.refl _ _ | assumption | (refine bl_alloc ?_ (Nat.le_refl _) _) | (refine bl_set ?_ (by simp <;> omega) _))) hb1; have hz1 : w.heap.size + 3 ≤ w1.heap.size := (by have hq := hb1.size; have hr := hw1.size; (try simp at hq); omega); have hza : w.heap.size < w1.heap.size := (by omega); have hzb : w.heap.size + 1 < w1.heap.size := (by omega); have hzc : w.heap.size + 1 + 1 < w1.heap.size := (by omega); have hz4 := hb1.size; (try simp at hz4); (try have hz5 := Nat.lt_of_succ_le hz4)) | (go_at_call 46; (with_reducible refine (l02Ok_any c d hq0 hq1 _).mono ?_); rintro e w1 ⟨rfl, hb1⟩; obtain ⟨hc1, hf1⟩ := bcell hb1; have hw1 : Below w.heap.size w w1 := bl_call (by repeat (first | exact Below.refl _ _ | assumption | (refine bl_alloc ?_ (Nat.le_refl _) _) | (refine bl_set ?_ (by simp <;> omega) _))) hb1; have hz1 : w.heap.size + 3 ≤ w1.heap.size := (by have hq := hb1.size; have hr := hw1.size; (try simp at hq); omega); have hza : w.heap.size < w1.heap.size := (by omega); have hzb : w.heap.size + 1 < w1.heap.size := (by omega); have hzc : w.heap.size + 1 + 1 < w1.heap.size := (by omega); have hz4 := hb1.size; (try simp at hz4); (try have hz5 := Nat.lt_of_succ_le hz4)))
      refine bodyPost_ret (v := .tuple #[.agg #[.int .i64 (mulN a b c d), .int .i64 (mulD a b c d)], .int .i64 (mulC a b c d)]) ?_ rfl ⟨rfl, (by repeat (first | exact Below.refl _ _ | assumption | (refine bl_alloc ?_ (Nat.le_refl _) _) | (refine bl_set ?_ (by simp <;> omega) _)))⟩
      rw [HN.out, HD.out, HC.out]
      simp [results, Tryd.results19, go_sem, *]
def divN (a b c d : Int) : Int := if okFr a b && okFr c d && !(c == 0) then mkN (a * d) (b * c) else 0
def divD (a b c d : Int) : Int := if okFr a b && okFr c d && !(c == 0) then mkD (a * d) (b * c) else 0
def divC (a b c d : Int) : Int := if okFr a b && okFr c d then (if c == 0 then 2 else mkC (a * d) (b * c)) else 1

set_option maxHeartbeats 1000000 in
theorem divFrac_i (a b c d : Int) (ha0 : -9223372036854775808 ≤ a) (ha1 : a ≤ 9223372036854775807) (hq0 : -9223372036854775808 ≤ c) (hq1 : c ≤ 9223372036854775807) (w : World) :
    Calls Tryd.prog 32 #[.agg #[.int .i64 a, .int .i64 b], .agg #[.int .i64 c, .int .i64 d]] w fun e w' => e = .returned (.tuple #[.agg #[.int .i64 (divN a b c d), .int .i64 (divD a b c d)], .int .i64 (divC a b c d)]) ∧ Below w.heap.size w w' := by
  by_cases h : okFr a b = true ∧ okFr c d = true
  · obtain ⟨h1, h2⟩ := h
    obtain ⟨p1, p2, p3, p4, _⟩ := okFr_t h1
    obtain ⟨q1, q2, q3, q4, _⟩ := okFr_t h2
    have u1 := prod_nd p3 p4 q1 q2
    have u3 := prod_nd q3 q4 p1 p2
    rw [Int.mul_comm c b] at u3
    obtain ⟨u10, u11⟩ := u1
    obtain ⟨u30, u31⟩ := u3
    by_cases h3 : c = 0
    · have z1 : (c == 0) = true := by simp [h3]
      have Z := hide h3
      clear h3
      have HN := hide (show divN a b c d = 0 by unfold divN; rw [h1, h2, z1]; rfl)
      have HD := hide (show divD a b c d = 0 by unfold divD; rw [h1, h2, z1]; rfl)
      have HC := hide (show divC a b c d = 2 by unfold divC; rw [h1, h2, z1]; rfl)
      go_enter Tryd.func32, Tryd.ntmps32
      go_wp2_with (first | (go_at_call 57; (with_reducible refine (validFrac_i a b ha0 ha1 _).mono ?_); rintro e w1 ⟨rfl, hb1⟩; obtain ⟨hc1, hf1⟩ := bcell hb1; have hw1 : Below w.heap.size w w1 := bl_call (by repeat (first | exact Below.refl _ _ | assumption | (refine bl_alloc ?_ (Nat.le_refl _) _) | (refine bl_set ?_ (by simp <;> omega) _))) hb1; have hz1 : w.heap.size + 3 ≤ w1.heap.size := (by have hq := hb1.size; have hr := hw1.size; (try simp at hq); omega); have hza : w.heap.size < w1.heap.size := (by omega); have hzb : w.heap.size + 1 < w1.heap.size := (by omega); have hzc : w.heap.size + 1 + 1 < w1.heap.size := (by omega); have hz4 := hb1.size; (try simp at hz4); (try have hz5 := Nat.lt_of_succ_le hz4)) | (go_at_call 57; (with_reducible refine (validFrac_i c d hq0 hq1 _).mono ?_); rintro e w1 ⟨rfl, hb1⟩; obtain ⟨hc1, hf1⟩ := bcell hb1; have hw1 : Below w.heap.size w w1 := bl_call (by repeat (first | exact Below.refl _ _ | assumption | (refine bl_alloc ?_ (Nat.le_refl _) _) | (refine bl_set ?_ (by simp <;> omega) _))) hb1; have hz1 : w.heap.size + 3 ≤ w1.heap.size := (by have hq := hb1.size; have hr := hw1.size; (try simp at hq); omega); have hza : w.heap.size < w1.heap.size := (by omega); have hzb : w.heap.size + 1 < w1.heap.size := (by omega); have hzc : w.heap.size + 1 + 1 < w1.heap.size := (by omega); have hz4 := hb1.size; (try simp at hz4); (try have hz5 := Nat.lt_of_succ_le hz4)))
      refine bodyPost_ret (v := .tuple #[.agg #[.int .i64 (divN a b c d), .int .i64 (divD a b c d)], .int .i64 (divC a b c d)]) ?_ rfl ⟨rfl, (by repeat (first | exact Below.refl _ _ | assumption | (refine bl_alloc ?_ (Nat.le_refl _) _) | (refine bl_set ?_ (by simp <;> omega) _)))⟩
      rw [HN.out, HD.out, HC.out]
      simp [results, Tryd.results32, go_sem, *]
    · have z1 : (c == 0) = false := by simp [h3]
      have HN := hide (show divN a b c d = mkN (a * d) (b * c) by unfold divN; rw [h1, h2, z1]; rfl)
      have HD := hide (show divD a b c d = mkD (a * d) (b * c) by unfold divD; rw [h1, h2, z1]; rfl)
      have HC := hide (show divC a b c d = mkC (a * d) (b * c) by unfold divC; rw [h1, h2, z1]; rfl)
      go_enter Tryd.func32, Tryd.ntmps32
      go_wp2_with (first | (go_at_call 57; (with_reducible refine (validFrac_i a b ha0 ha1 _).mono ?_); rintro e w1 ⟨rfl, hb1⟩; obtain ⟨hc1, hf1⟩ := bcell hb1; have hw1 : Below w.heap.size w w1 := bl_call (by repeat (first | exact Below.refl _ _ | assumption | (refine bl_alloc ?_ (Nat.le_refl _) _) | (refine bl_set ?_ (by simp <;> omega) _))) hb1; have hz1 : w.heap.size + 3 ≤ w1.heap.size := (by have hq := hb1.size; have hr := hw1.size; (try simp at hq); omega); have hza : w.heap.size < w1.heap.size := (by omega); have hzb : w.heap.size + 1 < w1.heap.size := (by omega); have hzc : w.heap.size + 1 + 1 < w1.heap.size := (by omega); have hz4 := hb1.size; (try simp at hz4); (try have hz5 := Nat.lt_of_succ_le hz4)) | (go_at_call 57; (with_reducible refine (validFrac_i c d hq0 hq1 _).mono ?_); rintro e w1 ⟨rfl, hb1⟩; obtain ⟨hc1, hf1⟩ := bcell hb1; have hw1 : Below w.heap.size w w1 := bl_call (by repeat (first | exact Below.refl _ _ | assumption | (refine bl_alloc ?_ (Nat.le_refl _) _) | (refine bl_set ?_ (by simp <;> omega) _))) hb1; have hz1 : w.heap.size + 3 ≤ w1.heap.size := (by have hq := hb1.size; have hr := hw1.size; (try simp at hq); omega); have hza : w.heap.size < w1.heap.size := (by omega); have hzb : w.heap.size + 1 < w1.heap.size := (by omega); have hzc : w.heap.size + 1 + 1 < w1.heap.size := (by omega); have hz4 := hb1.size; (try simp at hz4); (try have hz5 := Nat.lt_of_succ_le hz4)) | (go_at_call 58; (with_reducible refine (makeFrac_i (a * d) (b * c) (by omega) (by omega) (by omega) (by omega) _).mono ?_); rintro e w1 ⟨rfl, hb1⟩; obtain ⟨hc1, hf1⟩ := bcell hb1; have hw1 : Below w.heap.size w w1 := bl_call (by repeat (first | exact Below.refl _ _ | assumption | (refine bl_alloc ?_ (Nat.le_refl _) _) | (refine bl_set ?_ (by simp <;> omega) _))) hb1; have hz1 : w.heap.size + 3 ≤ w1.heap.size := (by have hq := hb1.size; have hr := hw1.size; (try simp at hq); omega); have hza : w.heap.size < w1.heap.size := (by omega); have hzb : w.heap.size + 1 < w1.heap.size := (by omega); have hzc : w.heap.size + 1 + 1 < w1.heap.size := (by omega); have hz4 := hb1.size; (try simp at hz4); (try have hz5 := Nat.lt_of_succ_le hz4)))
      refine bodyPost_ret (v := .tuple #[.agg #[.int .i64 (divN a b c d), .int .i64 (divD a b c d)], .int .i64 (divC a b c d)]) ?_ rfl ⟨rfl, (by repeat (first | exact Below.refl _ _ | assumption | (refine bl_alloc ?_ (Nat.le_refl _) _) | (refine bl_set ?_ (by simp <;> omega) _)))⟩
      rw [HN.out, HD.out, HC.out]
      simp [results, Tryd.results32, go_sem, *]
  · cases h1 : okFr a b
    · clear h
      have HN := hide (show divN a b c d = 0 by unfold divN; rw [h1]; rfl)
      have HD := hide (show divD a b c d = 0 by unfold divD; rw [h1]; rfl)
      have HC := hide (show divC a b c d = 1 by unfold divC; rw [h1]; rfl)
      go_enter Tryd.func32, Tryd.ntmps32
      go_wp2_with (first | (go_at_call 57; (with_reducible refine (validFrac_i a b ha0 ha1 _).mono ?_); rintro e w1 ⟨rfl, hb1⟩; obtain ⟨hc1, hf1⟩ := bcell hb1; have hw1 : Below w.heap.size w w1 := bl_call (by repeat (first | exact Below.refl _ _ | assumption | (refine bl_alloc ?_ (Nat.le_refl _) _) | (refine bl_set ?_ (by simp <;> omega) _))) hb1; have hz1 : w.heap.size + 3 ≤ w1.heap.size := (by have hq := hb1.size; have hr := hw1.size; (try simp at hq); omega); have hza : w.heap.size < w1.heap.size := (by omega); have hzb : w.heap.size + 1 < w1.heap.size := (by omega); have hzc : w.heap.size + 1 + 1 < w1.heap.size := (by omega); have hz4 := hb1.size; (try simp at hz4); (try have hz5 := Nat.lt_of_succ_le hz4)) | (go_at_call 57; (with_reducible refine (validFrac_i c d hq0 hq1 _).mono ?_); rintro e w1 ⟨rfl, hb1⟩; obtain ⟨hc1, hf1⟩ := bcell hb1; have hw1 : Below w.heap.size w w1 := bl_call (by repeat (first | exact Below.refl _ _ | assumption | (refine bl_alloc ?_ (Nat.le_refl _) _) | (refine bl_set ?_ (by simp <;> omega) _))) hb1; have hz1 : w.heap.size + 3 ≤ w1.heap.size := (by have hq := hb1.size; have hr := hw1.size; (try simp at hq); omega); have hza : w.heap.size < w1.heap.size := (by omega); have hzb : w.heap.size + 1 < w1.heap.size := (by omega); have hzc : w.heap.size + 1 + 1 < w1.heap.size := (by omega); have hz4 := hb1.size; (try simp at hz4); (try have hz5 := Nat.lt_of_succ_le hz4)))
      refine bodyPost_ret (v := .tuple #[.agg #[.int .i64 (divN a b c d), .int .i64 (divD a b c d)], .int .i64 (divC a b c d)]) ?_ rfl ⟨rfl, (by repeat (first | exact Below.refl _ _ | assumption | (refine bl_alloc ?_ (Nat.le_refl _) _) | (refine bl_set ?_ (by simp <;> omega) _)))⟩
      rw [HN.out, HD.out, HC.out]
      simp [results, Tryd.results32, go_sem, *]
    · have h2 : okFr c d = false := by simpa [h1] using h
      clear h
      have HN := hide (show divN a b c d = 0 by unfold divN; rw [h1, h2]; rfl)
      have HD := hide (show divD a b c d = 0 by unfold divD; rw [h1, h2]; rfl)
      have HC := hide (show divC a b c d = 1 by unfold divC; rw [h1, h2]; rfl)
      go_enter Tryd.func32, Tryd.ntmps32
      go_wp2_with (first | (go_at_call 57; (with_reducible refine (validFrac_i a b ha0 ha1 _).mono ?_); rintro e w1 ⟨rfl, hb1⟩; obtain ⟨hc1, hf1⟩ := bcell hb1; have hw1 : Below w.heap.size w w1 := bl_call (by repeat (first | exact Below.refl _ _ | assumption | (refine bl_alloc ?_ (Nat.le_refl _) _) | (refine bl_set ?_ (by simp <;> omega) _))) hb1; have hz1 : w.heap.size + 3 ≤ w1.heap.size := (by have hq := hb1.size; have hr := hw1.size; (try simp at hq); omega); have hza : w.heap.size < w1.heap.size := (by omega); have hzb : w.heap.size + 1 < w1.heap.size := (by omega); have hzc : w.heap.size + 1 + 1 < w1.heap.size := (by omega); have hz4 := hb1.size; (try simp at hz4); (try have hz5 := Nat.lt_of_succ_le hz4)) | (go_at_call 57; (with_reducible refine (validFrac_i c d hq0 hq1 _).mono ?_); rintro e w1 ⟨rfl, hb1⟩; obtain ⟨hc1, hf1⟩ := bcell hb1; have hw1 : Below w.heap.size w w1 := bl_call (by repeat (first | exact Below.refl _ _ | assumption | (refine bl_alloc ?_ (Nat.le_refl _) _) | (refine bl_set ?_ (by simp <;> omega) _))) hb1; have hz1 : w.heap.size + 3 ≤ w1.heap.size := (by have hq := hb1.size; have hr := hw1.size; (try simp at hq); omega); have hza : w.heap.size < w1.heap.size := (by omega); have hzb : w.heap.size + 1 < w1.heap.size := (by omega); have hzc : w.heap.size + 1 + 1 < w1.heap.size := (by omega); have hz4 := hb1.size; (try simp at hz4); (try have hz5 := Nat.lt_of_succ_le hz4)))
      refine bodyPost_ret (v := .tuple #[.agg #[.int .i64 (divN a b c d), .int .i64 (divD a b c d)], .int .i64 (divC a b c d)]) ?_ rfl ⟨rfl, (by repeat (first | exact Below.refl _ _ | assumption | (refine bl_alloc ?_ (Nat.le_refl _) _) | (refine bl_set ?_ (by simp <;> omega) _)))⟩
      rw [HN.out, HD.out, HC.out]
      simp [results, Tryd.results32, go_sem, *]

end Go.Proofs.YtickgkfgmbaalaaDoor

