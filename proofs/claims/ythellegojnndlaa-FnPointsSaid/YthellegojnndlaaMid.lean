/-
  CONTRACTS of the functions that compute the rounded middle of two points (packages impl and spec). And the walk of its law. Conditions: the points of the helpers are valid.
-/
import Derived.Test.YthellegojnndlaaTurn
namespace Go.Proofs.Ythellegojnndlaa
open Go.RowKit Go.Sort
set_option linter.unusedVariables false
attribute [local go_sem] cell_grow frozen_grow
attribute [local go_sem] Oper.quietAt Oper.quietUpon

def midX (a b c d : Int) : Int := if okPt a b && okPt c d then rnd (a + c) 2 else 0
def midY (a b c d : Int) : Int := if okPt a b && okPt c d then rnd (b + d) 2 else 0
def midC (a b c d : Int) : Int := if okPt a b && okPt c d then 0 else 1
/-- the same numbers -/
def eqP (a b c d : Int) : Bool := decide (a = c ∧ b = d)
theorem eqP_self (a b : Int) : eqP a b a b = true := decide_eq_true ⟨rfl, rfl⟩
set_option maxHeartbeats 400000 in
theorem eqPt_any (a b c d : Int) (w : World) : Calls Try.prog 22 #[.agg #[.int .i64 a, .int .i64 b], .agg #[.int .i64 c, .int .i64 d]] w fun e w' => e = .returned (.bool (eqP a b c d)) ∧ Below w.heap.size w w' := by
  by_cases h1 : a = c
  · by_cases h2 : b = d
    · subst h1 h2
      go_enter Try.func22, Try.ntmps22
      go_wp2
      go_ret
      exact ⟨ret_bool (eqP_self a b).symm, (by repeat (first | exact Below.refl _ _ | assumption | (refine bl_alloc ?_ (Nat.le_refl _) _) | (refine bl_set ?_ (by simp <;> omega) _)))⟩
    · subst h1
      have q1 : (b == d) = false := by simp; omega
      have q2 : (b != d) = true := by simp; omega
      have HR := hide (show eqP a b a d = false from decide_eq_false (fun h => h2 h.2))
      go_enter Try.func22, Try.ntmps22
      go_wp2
      go_ret
      exact ⟨ret_bool HR.out.symm, (by repeat (first | exact Below.refl _ _ | assumption | (refine bl_alloc ?_ (Nat.le_refl _) _) | (refine bl_set ?_ (by simp <;> omega) _)))⟩
  · have q1 : (a == c) = false := by simp; omega
    have q2 : (a != c) = true := by simp; omega
    have HR := hide (show eqP a b c d = false from decide_eq_false (fun h => h1 h.1))
    go_enter Try.func22, Try.ntmps22
    go_wp2
    go_ret
    exact ⟨ret_bool HR.out.symm, (by repeat (first | exact Below.refl _ _ | assumption | (refine bl_alloc ?_ (Nat.le_refl _) _) | (refine bl_set ?_ (by simp <;> omega) _)))⟩
theorem divRound2_i (n : Int) (hn0 : -9223372036854775808 ≤ n) (hn1 : n ≤ 9223372036854775807) (w : World) : Calls Try.prog 91 #[.int .i64 n, .int .i64 2] w fun e w' => e = .returned (.int .i64 (rnd n 2)) ∧ w = w' := by
  have h := divRound_i n 2 hn0 hn1 (by omega) w
  simpa [divRound] using h
set_option maxHeartbeats 1000000 in
theorem midPt_any (a b c d : Int) (h1 : okPt a b = true) (h2 : okPt c d = true) (w : World) : Calls Try.prog 98 #[.agg #[.int .i64 a, .int .i64 b], .agg #[.int .i64 c, .int .i64 d]] w fun e w' => e = .returned (.agg #[.int .i64 (rnd (a + c) 2), .int .i64 (rnd (b + d) 2)]) ∧ Below w.heap.size w w' := by
  obtain ⟨a0, a1, b0, b1⟩ := okPt_t h1
  obtain ⟨c0, c1, d0, d1⟩ := okPt_t h2
  clear h1 h2
  go_enter Try.func98, Try.ntmps98
  go_wp2
  refine wp_region_tail_below 13 (by kernel_rfl) (by kernel_rfl) ?_
  simp only [List.take_succ_cons, List.take_zero, List.drop_succ_cons, List.drop_zero]
  repeat (first | go_big_quiet_step ((first | (go_at_call 91; with_reducible exact Calls.regrown_of (same_below (divRound2_i (a + c) (by omega) (by omega) _))) | (go_at_call 91; with_reducible exact Calls.regrown_of (same_below (divRound2_i (b + d) (by omega) (by omega) _))))) | quiet_step ((first | (go_at_call 91; with_reducible exact Calls.regrown_of (same_below (divRound2_i (a + c) (by omega) (by omega) _))) | (go_at_call 91; with_reducible exact Calls.regrown_of (same_below (divRound2_i (b + d) (by omega) (by omega) _))))))
  refine wpQuiet_nil ?_
  intro w1 hw1
  obtain ⟨pq, hpq⟩ := hw1
  have hb1 := below_of hpq
  clear hpq pq
  have hz4 := hb1.size
  (try simp at hz4)
  obtain ⟨hc1, hf1⟩ := bcell hb1
  have hw1 : Below w.heap.size w w1 := bl_call (by repeat (first | exact Below.refl _ _ | assumption | (refine bl_alloc ?_ (Nat.le_refl _) _) | (refine bl_set ?_ (by simp <;> omega) _))) hb1
  have hz1 : w.heap.size + 3 ≤ w1.heap.size := (by have hq := hb1.size; have hr := hw1.size; (try simp at hq); omega)
  have hza : w.heap.size < w1.heap.size := (by omega)
  have hzb : w.heap.size + 1 < w1.heap.size := (by omega)
  have hzc : w.heap.size + 1 + 1 < w1.heap.size := (by omega)
  go_wp2
  exact bodyPost_ret (v := .agg #[.int .i64 (rnd (a + c) 2), .int .i64 (rnd (b + d) 2)]) (by simp [results, Try.results98, go_sem, *]) rfl ⟨rfl, (by repeat (first | exact Below.refl _ _ | assumption | (refine bl_alloc ?_ (Nat.le_refl _) _) | (refine bl_set ?_ (by simp <;> omega) _)))⟩
set_option maxHeartbeats 1000000 in
theorem midPt_i (a b c d : Int) (w : World) : Calls Try.prog 55 #[.agg #[.int .i64 a, .int .i64 b], .agg #[.int .i64 c, .int .i64 d]] w fun e w' => e = .returned (.tuple #[.agg #[.int .i64 (midX a b c d), .int .i64 (midY a b c d)], .int .i64 (midC a b c d)]) ∧ Below w.heap.size w w' := by
  by_cases hk : okPt a b = true ∧ okPt c d = true
  · obtain ⟨h1, h2⟩ := hk
    have HN := hide (show midX a b c d = rnd (a + c) 2 by unfold midX; rw [h1, h2]; rfl)
    have HD := hide (show midY a b c d = rnd (b + d) 2 by unfold midY; rw [h1, h2]; rfl)
    have HC := hide (show midC a b c d = 0 by unfold midC; rw [h1, h2]; rfl)
    go_enter Try.func55, Try.ntmps55
    go_wp2_with (first | (go_at_call 62; (with_reducible refine (validPts2 _ _ a b c d _ (by simp) (by simp [go_sem]) (by simp [go_sem]) (by simp [go_sem]) (by simp [go_sem])).mono ?_); rintro e w1 ⟨rfl, hb1⟩; obtain ⟨hc1, hf1⟩ := bcell hb1; have hw1 : Below w.heap.size w w1 := bl_call (by repeat (first | exact Below.refl _ _ | assumption | (refine bl_alloc ?_ (Nat.le_refl _) _) | (refine bl_set ?_ (by simp <;> omega) _))) hb1; have hz1 : w.heap.size + 3 ≤ w1.heap.size := (by have hq := hb1.size; have hr := hw1.size; (try simp at hq); omega); have hza : w.heap.size < w1.heap.size := (by omega); have hzb : w.heap.size + 1 < w1.heap.size := (by omega); have hzc : w.heap.size + 1 + 1 < w1.heap.size := (by omega); have hz4 := hb1.size; (try simp at hz4); (try have hz5 := Nat.lt_of_succ_le hz4)) | (go_at_call 98; (with_reducible refine (midPt_any _ _ _ _ h1 h2 _).mono ?_); rintro e w1 ⟨rfl, hb1⟩; obtain ⟨hc1, hf1⟩ := bcell hb1; have hw1 : Below w.heap.size w w1 := bl_call (by repeat (first | exact Below.refl _ _ | assumption | (refine bl_alloc ?_ (Nat.le_refl _) _) | (refine bl_set ?_ (by simp <;> omega) _))) hb1; have hz1 : w.heap.size + 3 ≤ w1.heap.size := (by have hq := hb1.size; have hr := hw1.size; (try simp at hq); omega); have hza : w.heap.size < w1.heap.size := (by omega); have hzb : w.heap.size + 1 < w1.heap.size := (by omega); have hzc : w.heap.size + 1 + 1 < w1.heap.size := (by omega); have hz4 := hb1.size; (try simp at hz4); (try have hz5 := Nat.lt_of_succ_le hz4)))
    refine bodyPost_ret (v := .tuple #[.agg #[.int .i64 (midX a b c d), .int .i64 (midY a b c d)], .int .i64 (midC a b c d)]) ?_ rfl ⟨rfl, (by repeat (first | exact Below.refl _ _ | assumption | (refine bl_alloc ?_ (Nat.le_refl _) _) | (refine bl_set ?_ (by simp <;> omega) _)))⟩
    rw [HN.out, HD.out, HC.out]
    simp [results, Try.results55, go_sem, *]
  · have hf : (okPt a b && okPt c d) = false := by
      cases h1 : okPt a b <;> cases h2 : okPt c d <;> simp_all
    have HN := hide (show midX a b c d = 0 by unfold midX; rw [hf]; rfl)
    have HD := hide (show midY a b c d = 0 by unfold midY; rw [hf]; rfl)
    have HC := hide (show midC a b c d = 1 by unfold midC; rw [hf]; rfl)
    have HF := hide hf
    clear hf hk
    go_enter Try.func55, Try.ntmps55
    go_wp2_with fail
    refine (validPts2 _ _ a b c d _ (by simp) (by simp [go_sem]) (by simp [go_sem]) (by simp [go_sem]) (by simp [go_sem])).mono ?_
    rw [HF.out]
    rintro E w1 ⟨rfl, hb1⟩
    have hw1 : Below w.heap.size w w1 := bl_call (by repeat (first | exact Below.refl _ _ | assumption | (refine bl_alloc ?_ (Nat.le_refl _) _) | (refine bl_set ?_ (by simp <;> omega) _))) hb1
    obtain ⟨hc1, hf1⟩ := bcell hb1
    have hz1 : w.heap.size + 3 ≤ w1.heap.size := (by have hq := hb1.size; have hr := hw1.size; (try simp at hq); omega)
    have hza : w.heap.size < w1.heap.size := by omega
    have hzb : w.heap.size + 1 < w1.heap.size := by omega
    have hzc : w.heap.size + 1 + 1 < w1.heap.size := by omega
    go_wp2
    refine bodyPost_ret (v := .tuple #[.agg #[.int .i64 (midX a b c d), .int .i64 (midY a b c d)], .int .i64 (midC a b c d)]) ?_ rfl ⟨rfl, (by repeat (first | exact Below.refl _ _ | assumption | (refine bl_alloc ?_ (Nat.le_refl _) _) | (refine bl_set ?_ (by simp <;> omega) _)))⟩
    rw [HN.out, HD.out, HC.out]
    simp [results, Try.results55, go_sem, *]
end Go.Proofs.Ythellegojnndlaa
