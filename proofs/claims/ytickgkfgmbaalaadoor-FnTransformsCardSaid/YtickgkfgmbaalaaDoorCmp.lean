/-
  CONTRACTS of the comparison and the roundings of fractions (CompareFrac, FloorFrac, RoundFrac, ScaleFrac; packages impl and spec): what each returns at every fraction; no cell that was there is written. And the walks of their laws. Conditions: the numbers are of 64 bits.
-/
import Derived.Test.YtickgkfgmbaalaaDoorOps
import Derived.Test.YtickgkfgmbaalaaDoorRound
namespace Go.Proofs.YtickgkfgmbaalaaDoor
open Go.RowKit Go.Sort
set_option linter.unusedVariables false
attribute [local go_sem] cell_grow frozen_grow

/-- the sign of a number -/
def sgn (n : Int) : Int := if n < 0 then -1 else if 0 < n then 1 else 0
def cmpR (a b c d : Int) : Int := if okFr a b && okFr c d then sgn (a * d - c * b) else 0
def floorR (a b : Int) : Int := if okFr a b then a / b else 0
def roundR (a b : Int) : Int := if okFr a b then rnd a b else 0
def scaleR (n a b : Int) : Int := if okFr a b && inB n (-1073741824) 1073741824 then rnd (n * a) b else 0
def scaleC (n a b : Int) : Int := if okFr a b then (if inB n (-1073741824) 1073741824 then 0 else 2) else 1

set_option maxHeartbeats 400000 in
theorem roundFrac_i (a b : Int) (ha0 : -9223372036854775808 ≤ a) (ha1 : a ≤ 9223372036854775807) (w : World) : Calls Tryd.prog 45 #[.agg #[.int .i64 a, .int .i64 b]] w fun e w' => e = .returned (.int .i64 (roundR a b)) ∧ Below w.heap.size w w' := by
  cases h1 : okFr a b
  · have HR := hide (show roundR a b = 0 by unfold roundR; rw [h1]; rfl)
    go_enter Tryd.func45, Tryd.ntmps45
    go_wp2_with (go_at_call 57; (with_reducible refine (validFrac_i a b ha0 ha1 _).mono ?_); rintro e w1 ⟨rfl, hb1⟩; obtain ⟨hc1, hf1⟩ := bcell hb1; have hw1 : Below w.heap.size w w1 := bl_call (by repeat (first | exact Below.refl _ _ | assumption | (refine bl_alloc ?_ (Nat.le_refl _) _) | (refine bl_set ?_ (by simp <;> omega) _))) hb1; have hz1 : w.heap.size + 1 ≤ w1.heap.size := (by have hq := hb1.size; have hr := hw1.size; (try simp at hq); omega); have hza : w.heap.size < w1.heap.size := (by omega); have hz4 := hb1.size; (try simp at hz4); (try have hz5 := Nat.lt_of_succ_le hz4))
    go_ret
    exact ⟨ret_int HR.out.symm, (by repeat (first | exact Below.refl _ _ | assumption | (refine bl_alloc ?_ (Nat.le_refl _) _) | (refine bl_set ?_ (by simp <;> omega) _)))⟩
  · obtain ⟨p1, p2, p3, p4, _⟩ := okFr_t h1
    have HR := hide (show divRound a b = roundR a b by unfold roundR divRound; rw [h1, if_neg (by omega)]; rfl)
    go_enter Tryd.func45, Tryd.ntmps45
    go_wp2_with (first | (go_at_call 57; (with_reducible refine (validFrac_i a b ha0 ha1 _).mono ?_); rintro e w1 ⟨rfl, hb1⟩; obtain ⟨hc1, hf1⟩ := bcell hb1; have hw1 : Below w.heap.size w w1 := bl_call (by repeat (first | exact Below.refl _ _ | assumption | (refine bl_alloc ?_ (Nat.le_refl _) _) | (refine bl_set ?_ (by simp <;> omega) _))) hb1; have hz1 : w.heap.size + 1 ≤ w1.heap.size := (by have hq := hb1.size; have hr := hw1.size; (try simp at hq); omega); have hza : w.heap.size < w1.heap.size := (by omega); have hz4 := hb1.size; (try simp at hz4); (try have hz5 := Nat.lt_of_succ_le hz4)) | (go_at_call 66; (with_reducible refine (divRound_i a b ha0 ha1 (by omega) _).mono ?_); rintro e w1 ⟨rfl, rfl⟩))
    go_ret
    exact ⟨ret_int HR.out, (by repeat (first | exact Below.refl _ _ | assumption | (refine bl_alloc ?_ (Nat.le_refl _) _) | (refine bl_set ?_ (by simp <;> omega) _)))⟩
end Go.Proofs.YtickgkfgmbaalaaDoor
