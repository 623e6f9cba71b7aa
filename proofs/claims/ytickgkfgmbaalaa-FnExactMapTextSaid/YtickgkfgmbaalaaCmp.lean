/-
  CONTRACTS of the comparison and the roundings of fractions (CompareFrac, FloorFrac, RoundFrac, ScaleFrac; packages impl and spec): what each returns at every fraction; no cell that was there is written. And the walks of their laws. Conditions: the numbers are of 64 bits.
-/
import Derived.Test.YtickgkfgmbaalaaOps
import Derived.Test.YtickgkfgmbaalaaRound
namespace Go.Proofs.Ytickgkfgmbaalaa
open Go.RowKit Go.Sort
set_option linter.unusedVariables false
attribute [local go_sem] cell_grow frozen_grow

/-- the sign of a number -/
def sgn (n : Int) : Int := if n < 0 then -1 else if 0 < n then 1 else 0
def cmpR (a b c d : Int) : Int := if okFr a b && okFr c d then sgn (a * d - c * b) else 0
def floorR (a b : Int) : Int := if okFr a b then a / b else 0
def roundR (a b : Int) : Int := if okFr a b then rnd a b else 0
def scaleR (n a b : Int) : Int := if okFr a b && inB n (-1073741824) 1073741824 then rnd (n * a) b else 0
def scaleC (n a b : Int) : Int := if okFr a b then (if inB n (-1073741824) 1073741824 then 0 else 2) else 1

set_option maxHeartbeats 400000 in
theorem l02Div_any (n d : Int) (hn0 : -9223372036854775808 ≤ n) (hn1 : n ≤ 9223372036854775807) (hd : 1 ≤ d) (hd1 : d ≤ 9223372036854775807) (w : World) : Calls Try.prog 92 #[.int .i64 n, .int .i64 d] w fun e w' => e = .returned (.int .i64 (n / d)) ∧ w = w' := by
  have hb := div_bd (n := n) (d := d) (by omega) hn0 hn1
  rcases Int.lt_or_le (n.tmod d) 0 with h | h
  · have hq := quo_lt (n := n) (d := d) (by omega) h
    have hw : wrap64 (n.tdiv d - 1) = n / d := by rw [hq]; exact IntWalk.wrap64_in _ ⟨by omega, by omega⟩
    have HW := hide hw
    clear hw hq hb
    go_enter Try.func92, Try.ntmps92
    go_wp2
    go_ret
    exact ⟨ret_int HW.out, rfl⟩
  · have HQ := hide (quo_ge (n := n) (d := d) (by omega) h)
    clear hb
    go_enter Try.func92, Try.ntmps92
    go_wp2
    go_ret
    exact ⟨ret_int HQ.out, rfl⟩
theorem rnd_twice {n d : Int} (hd : 1 ≤ d) : (2 * n + d) / (2 * d) = rnd n d := by
  have h1 := Int.mul_ediv_add_emod n d
  have h2 := Int.emod_nonneg n (b := d) (by omega)
  have h3 := Int.emod_lt_of_pos n (b := d) (by omega)
  unfold rnd
  generalize hq : n / d = q at *
  generalize n % d = r at *
  split
  · rename_i h
    have e : 2 * n + d = (2 * r - d) + (2 * d) * (q + 1) := by rw [← h1, Int.mul_add (2 * d) q 1, Int.mul_assoc 2 d q, Int.mul_add 2]; omega
    rw [e, Int.add_mul_ediv_left _ _ (by omega), Int.ediv_eq_zero_of_lt (by omega) (by omega)]; omega
  · rename_i h
    have e : 2 * n + d = (2 * r + d) + (2 * d) * q := by rw [← h1, Int.mul_assoc 2 d q, Int.mul_add 2]; omega
    rw [e, Int.add_mul_ediv_left _ _ (by omega), Int.ediv_eq_zero_of_lt (by omega) (by omega)]; omega
set_option maxHeartbeats 400000 in
theorem l02Round_any (n d : Int) (hn0 : -2000000000000000000 ≤ n) (hn1 : n ≤ 2000000000000000000) (hd : 1 ≤ d) (hd1 : d ≤ 1000000) (w : World) : Calls Try.prog 88 #[.int .i64 n, .int .i64 d] w fun e w' => e = .returned (.int .i64 (rnd n d)) ∧ w = w' := by
  have HR := hide (rnd_twice (n := n) hd)
  go_enter Try.func88, Try.ntmps88
  go_wp2_with (go_at_call 92; (with_reducible refine (l02Div_any (2 * n + d) (2 * d) (by omega) (by omega) (by omega) (by omega) _).mono ?_); rintro e w1 ⟨rfl, rfl⟩)
  go_ret
  exact ⟨ret_int HR.out, rfl⟩
set_option maxHeartbeats 400000 in
theorem roundFrac_i (a b : Int) (ha0 : -9223372036854775808 ≤ a) (ha1 : a ≤ 9223372036854775807) (w : World) : Calls Try.prog 55 #[.agg #[.int .i64 a, .int .i64 b]] w fun e w' => e = .returned (.int .i64 (roundR a b)) ∧ Below w.heap.size w w' := by
  cases h1 : okFr a b
  · have HR := hide (show roundR a b = 0 by unfold roundR; rw [h1]; rfl)
    go_enter Try.func55, Try.ntmps55
    go_wp2_with (go_at_call 44; (with_reducible refine (validFrac_i a b ha0 ha1 _).mono ?_); rintro e w1 ⟨rfl, hb1⟩; obtain ⟨hc1, hf1⟩ := bcell hb1; have hw1 : Below w.heap.size w w1 := bl_call (by repeat (first | exact Below.refl _ _ | assumption | (refine bl_alloc ?_ (Nat.le_refl _) _) | (refine bl_set ?_ (by simp <;> omega) _))) hb1; have hz1 : w.heap.size + 1 ≤ w1.heap.size := (by have hq := hb1.size; have hr := hw1.size; (try simp at hq); omega); have hza : w.heap.size < w1.heap.size := (by omega); have hz4 := hb1.size; (try simp at hz4); (try have hz5 := Nat.lt_of_succ_le hz4))
    go_ret
    exact ⟨ret_int HR.out.symm, (by repeat (first | exact Below.refl _ _ | assumption | (refine bl_alloc ?_ (Nat.le_refl _) _) | (refine bl_set ?_ (by simp <;> omega) _)))⟩
  · obtain ⟨p1, p2, p3, p4, _⟩ := okFr_t h1
    have HR := hide (show divRound a b = roundR a b by unfold roundR divRound; rw [h1, if_neg (by omega)]; rfl)
    go_enter Try.func55, Try.ntmps55
    go_wp2_with (first | (go_at_call 44; (with_reducible refine (validFrac_i a b ha0 ha1 _).mono ?_); rintro e w1 ⟨rfl, hb1⟩; obtain ⟨hc1, hf1⟩ := bcell hb1; have hw1 : Below w.heap.size w w1 := bl_call (by repeat (first | exact Below.refl _ _ | assumption | (refine bl_alloc ?_ (Nat.le_refl _) _) | (refine bl_set ?_ (by simp <;> omega) _))) hb1; have hz1 : w.heap.size + 1 ≤ w1.heap.size := (by have hq := hb1.size; have hr := hw1.size; (try simp at hq); omega); have hza : w.heap.size < w1.heap.size := (by omega); have hz4 := hb1.size; (try simp at hz4); (try have hz5 := Nat.lt_of_succ_le hz4)) | (go_at_call 75; (with_reducible refine (divRound_i a b ha0 ha1 (by omega) _).mono ?_); rintro e w1 ⟨rfl, rfl⟩))
    go_ret
    exact ⟨ret_int HR.out, (by repeat (first | exact Below.refl _ _ | assumption | (refine bl_alloc ?_ (Nat.le_refl _) _) | (refine bl_set ?_ (by simp <;> omega) _)))⟩
set_option maxHeartbeats 400000 in
theorem roundFrac_s (a b : Int) (ha0 : -9223372036854775808 ≤ a) (ha1 : a ≤ 9223372036854775807) (w : World) : Calls Try.prog 83 #[.agg #[.int .i64 a, .int .i64 b]] w fun e w' => e = .returned (.int .i64 (roundR a b)) ∧ Below w.heap.size w w' := by
  cases h1 : okFr a b
  · have HR := hide (show roundR a b = 0 by unfold roundR; rw [h1]; rfl)
    go_enter Try.func83, Try.ntmps83
    go_wp2_with (go_at_call 45; (with_reducible refine (l02Ok_any a b ha0 ha1 _).mono ?_); rintro e w1 ⟨rfl, hb1⟩; obtain ⟨hc1, hf1⟩ := bcell hb1; have hw1 : Below w.heap.size w w1 := bl_call (by repeat (first | exact Below.refl _ _ | assumption | (refine bl_alloc ?_ (Nat.le_refl _) _) | (refine bl_set ?_ (by simp <;> omega) _))) hb1; have hz1 : w.heap.size + 1 ≤ w1.heap.size := (by have hq := hb1.size; have hr := hw1.size; (try simp at hq); omega); have hza : w.heap.size < w1.heap.size := (by omega); have hz4 := hb1.size; (try simp at hz4); (try have hz5 := Nat.lt_of_succ_le hz4))
    go_ret
    exact ⟨ret_int HR.out.symm, (by repeat (first | exact Below.refl _ _ | assumption | (refine bl_alloc ?_ (Nat.le_refl _) _) | (refine bl_set ?_ (by simp <;> omega) _)))⟩
  · obtain ⟨p1, p2, p3, p4, _⟩ := okFr_t h1
    have HR := hide (show rnd a b = roundR a b by unfold roundR; rw [h1]; rfl)
    go_enter Try.func83, Try.ntmps83
    go_wp2_with (first | (go_at_call 45; (with_reducible refine (l02Ok_any a b ha0 ha1 _).mono ?_); rintro e w1 ⟨rfl, hb1⟩; obtain ⟨hc1, hf1⟩ := bcell hb1; have hw1 : Below w.heap.size w w1 := bl_call (by repeat (first | exact Below.refl _ _ | assumption | (refine bl_alloc ?_ (Nat.le_refl _) _) | (refine bl_set ?_ (by simp <;> omega) _))) hb1; have hz1 : w.heap.size + 1 ≤ w1.heap.size := (by have hq := hb1.size; have hr := hw1.size; (try simp at hq); omega); have hza : w.heap.size < w1.heap.size := (by omega); have hz4 := hb1.size; (try simp at hz4); (try have hz5 := Nat.lt_of_succ_le hz4)) | (go_at_call 88; (with_reducible refine (l02Round_any a b (by omega) (by omega) p1 p2 _).mono ?_); rintro e w1 ⟨rfl, rfl⟩))
    go_ret
    exact ⟨ret_int HR.out, (by repeat (first | exact Below.refl _ _ | assumption | (refine bl_alloc ?_ (Nat.le_refl _) _) | (refine bl_set ?_ (by simp <;> omega) _)))⟩
end Go.Proofs.Ytickgkfgmbaalaa
