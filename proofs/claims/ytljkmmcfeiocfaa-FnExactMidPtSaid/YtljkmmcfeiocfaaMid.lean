/-
  CONTRACTS of the functions that compute the rounded middle of two points (packages impl and spec). And the walk of its law. Conditions: the points of the helpers are valid.
-/
import Derived.Test.YtljkmmcfeiocfaaTurn
namespace Go.Proofs.Ytljkmmcfeiocfaa
open Go.RowKit Go.Sort
set_option linter.unusedVariables false
attribute [local go_sem] cell_grow frozen_grow
attribute [local go_sem] Oper.quietAt Oper.quietUpon

def midX (a b c d : Int) : Int := if okPt a b && okPt c d then rnd (a + c) 2 else 0
def midY (a b c d : Int) : Int := if okPt a b && okPt c d then rnd (b + d) 2 else 0
def midC (a b c d : Int) : Int := if okPt a b && okPt c d then 0 else 1
/-- the same numbers -/
def eqP (a b c d : Int) : Bool := decide (a = c ∧ b = d)
theorem eqP_self (a b : Int) : eqP a b a b = true := decide_eq_true ⟨rfl, rfl⟩
set_option maxHeartbeats 400000 in
theorem eqPt_any (a b c d : Int) (w : World) : Calls Try.prog 22 #[.agg #[.int .i64 a, .int .i64 b], .agg #[.int .i64 c, .int .i64 d]] w fun e w' => e = .returned (.bool (eqP a b c d)) ∧ Below w.heap.size w w' := by
  by_cases h1 : a = c
  · by_cases h2 : b = d
    · subst h1 h2
      go_enter Try.func22, Try.ntmps22
      go_wp2
      go_ret
      exact ⟨ret_bool (eqP_self a b).symm, (by repeat (first | exact Below.refl _ _ | assumption | (refine bl_alloc ?_ (Nat.le_refl _) _) | (refine bl_set ?_ (by simp <;> omega) _)))⟩
    · subst h1
      have q1 : (b == d) = false := by simp; omega
      have q2 : (b != d) = true := by simp; omega
      have HR := hide (show eqP a b a d = false from decide_eq_false (fun h => h2 h.2))
      go_enter Try.func22, Try.ntmps22
      go_wp2
      go_ret
      exact ⟨ret_bool HR.out.symm, (by repeat (first | exact Below.refl _ _ | assumption | (refine bl_alloc ?_ (Nat.le_refl _) _) | (refine bl_set ?_ (by simp <;> omega) _)))⟩
  · have q1 : (a == c) = false := by simp; omega
    have q2 : (a != c) = true := by simp; omega
    have HR := hide (show eqP a b c d = false from decide_eq_false (fun h => h1 h.1))
    go_enter Try.func22, Try.ntmps22
    go_wp2
    go_ret
    exact ⟨ret_bool HR.out.symm, (by repeat (first | exact Below.refl _ _ | assumption | (refine bl_alloc ?_ (Nat.le_refl _) _) | (refine bl_set ?_ (by simp <;> omega) _)))⟩
theorem divRound2_i (n : Int) (hn0 : -9223372036854775808 ≤ n) (hn1 : n ≤ 9223372036854775807) (w : World) : Calls Try.prog 77 #[.int .i64 n, .int .i64 2] w fun e w' => e = .returned (.int .i64 (rnd n 2)) ∧ w = w' := by
  have h := divRound_i n 2 hn0 hn1 (by omega) w
  simpa [divRound] using h
set_option maxHeartbeats 1000000 in
theorem midPt_any (a b c d : Int) (h1 : okPt a b = true) (h2 : okPt c d = true) (w : World) : Calls Try.prog 52 #[.agg #[.int .i64 a, .int .i64 b], .agg #[.int .i64 c, .int .i64 d]] w fun e w' => e = .returned (.agg #[.int .i64 (rnd (a + c) 2), .int .i64 (rnd (b + d) 2)]) ∧ Below w.heap.size w w' := by
  obtain ⟨a0, a1, b0, b1⟩ := okPt_t h1
  obtain ⟨c0, c1, d0, d1⟩ := okPt_t h2
  clear h1 h2
  go_enter Try.func52, Try.ntmps52
  go_wp2
  refine wp_region_tail_below 13 (by kernel_rfl) (by kernel_rfl) ?_
  simp only [List.take_succ_cons, List.take_zero, List.drop_succ_cons, List.drop_zero]
  repeat (first | go_big_quiet_step ((first | (go_at_call 77; with_reducible exact Calls.regrown_of (same_below (divRound2_i (a + c) (by omega) (by omega) _))) | (go_at_call 77; with_reducible exact Calls.regrown_of (same_below (divRound2_i (b + d) (by omega) (by omega) _))))) | quiet_step ((first | (go_at_call 77; with_reducible exact Calls.regrown_of (same_below (divRound2_i (a + c) (by omega) (by omega) _))) | (go_at_call 77; with_reducible exact Calls.regrown_of (same_below (divRound2_i (b + d) (by omega) (by omega) _))))))
  refine wpQuiet_nil ?_
  intro w1 hw1
  obtain ⟨pq, hpq⟩ := hw1
  have hb1 := below_of hpq
  clear hpq pq
  have hz4 := hb1.size
  (try simp at hz4)
  obtain ⟨hc1, hf1⟩ := bcell hb1
  have hw1 : Below w.heap.size w w1 := bl_call (by repeat (first | exact Below.refl _ _ | assumption | (refine bl_alloc ?_ (Nat.le_refl _) _) | (refine bl_set ?_ (by simp <;> omega) _))) hb1
  have hz1 : w.heap.size + 3 ≤ w1.heap.size := (by have hq := hb1.size; have hr := hw1.size; (try simp at hq); omega)
  have hza : w.heap.size < w1.heap.size := (by omega)
  have hzb : w.heap.size + 1 < w1.heap.size := (by omega)
  have hzc : w.heap.size + 1 + 1 < w1.heap.size := (by omega)
  go_wp2
  exact bodyPost_ret (v := .agg #[.int .i64 (rnd (a + c) 2), .int .i64 (rnd (b + d) 2)]) (by simp [results, Try.results52, go_sem, *]) rfl ⟨rfl, (by repeat (first | exact Below.refl _ _ | assumption | (refine bl_alloc ?_ (Nat.le_refl _) _) | (refine bl_set ?_ (by simp <;> omega) _)))⟩
set_option maxHeartbeats 1000000 in
theorem l03Mid_any (a b c d : Int) (h1 : okPt a b = true) (h2 : okPt c d = true) (w : World) : Calls Try.prog 51 #[.agg #[.int .i64 a, .int .i64 b], .agg #[.int .i64 c, .int .i64 d]] w fun e w' => e = .returned (.agg #[.int .i64 (rnd (a + c) 2), .int .i64 (rnd (b + d) 2)]) ∧ Below w.heap.size w w' := by
  obtain ⟨a0, a1, b0, b1⟩ := okPt_t h1
  obtain ⟨c0, c1, d0, d1⟩ := okPt_t h2
  clear h1 h2
  go_enter Try.func51, Try.ntmps51
  go_wp2
  refine wp_region_tail_below 13 (by kernel_rfl) (by kernel_rfl) ?_
  simp only [List.take_succ_cons, List.take_zero, List.drop_succ_cons, List.drop_zero]
  repeat (first | go_big_quiet_step ((first | (go_at_call 76; with_reducible exact Calls.regrown_of (same_below (l03Round_any (a + c) 2 (by omega) (by omega) (by omega) (by omega) _))) | (go_at_call 76; with_reducible exact Calls.regrown_of (same_below (l03Round_any (b + d) 2 (by omega) (by omega) (by omega) (by omega) _))))) | quiet_step ((first | (go_at_call 76; with_reducible exact Calls.regrown_of (same_below (l03Round_any (a + c) 2 (by omega) (by omega) (by omega) (by omega) _))) | (go_at_call 76; with_reducible exact Calls.regrown_of (same_below (l03Round_any (b + d) 2 (by omega) (by omega) (by omega) (by omega) _))))))
  refine wpQuiet_nil ?_
  intro w1 hw1
  obtain ⟨pq, hpq⟩ := hw1
  have hb1 := below_of hpq
  clear hpq pq
  have hz4 := hb1.size
  (try simp at hz4)
  obtain ⟨hc1, hf1⟩ := bcell hb1
  have hw1 : Below w.heap.size w w1 := bl_call (by repeat (first | exact Below.refl _ _ | assumption | (refine bl_alloc ?_ (Nat.le_refl _) _) | (refine bl_set ?_ (by simp <;> omega) _))) hb1
  have hz1 : w.heap.size + 3 ≤ w1.heap.size := (by have hq := hb1.size; have hr := hw1.size; (try simp at hq); omega)
  have hza : w.heap.size < w1.heap.size := (by omega)
  have hzb : w.heap.size + 1 < w1.heap.size := (by omega)
  have hzc : w.heap.size + 1 + 1 < w1.heap.size := (by omega)
  go_wp2
  exact bodyPost_ret (v := .agg #[.int .i64 (rnd (a + c) 2), .int .i64 (rnd (b + d) 2)]) (by simp [results, Try.results51, go_sem, *]) rfl ⟨rfl, (by repeat (first | exact Below.refl _ _ | assumption | (refine bl_alloc ?_ (Nat.le_refl _) _) | (refine bl_set ?_ (by simp <;> omega) _)))⟩
set_option maxHeartbeats 1000000 in
theorem midPt_i (a b c d : Int) (w : World) : Calls Try.prog 21 #[.agg #[.int .i64 a, .int .i64 b], .agg #[.int .i64 c, .int .i64 d]] w fun e w' => e = .returned (.tuple #[.agg #[.int .i64 (midX a b c d), .int .i64 (midY a b c d)], .int .i64 (midC a b c d)]) ∧ Below w.heap.size w w' := by
  by_cases hk : okPt a b = true ∧ okPt c d = true
  · obtain ⟨h1, h2⟩ := hk
    have HN := hide (show midX a b c d = rnd (a + c) 2 by unfold midX; rw [h1, h2]; rfl)
    have HD := hide (show midY a b c d = rnd (b + d) 2 by unfold midY; rw [h1, h2]; rfl)
    have HC := hide (show midC a b c d = 0 by unfold midC; rw [h1, h2]; rfl)
    go_enter Try.func21, Try.ntmps21
    go_wp2_with (first | (go_at_call 47; (with_reducible refine (validPts2 _ _ a b c d _ (by simp) (by simp [go_sem]) (by simp [go_sem]) (by simp [go_sem]) (by simp [go_sem])).mono ?_); rintro e w1 ⟨rfl, hb1⟩; obtain ⟨hc1, hf1⟩ := bcell hb1; have hw1 : Below w.heap.size w w1 := bl_call (by repeat (first | exact Below.refl _ _ | assumption | (refine bl_alloc ?_ (Nat.le_refl _) _) | (refine bl_set ?_ (by simp <;> omega) _))) hb1; have hz1 : w.heap.size + 3 ≤ w1.heap.size := (by have hq := hb1.size; have hr := hw1.size; (try simp at hq); omega); have hza : w.heap.size < w1.heap.size := (by omega); have hzb : w.heap.size + 1 < w1.heap.size := (by omega); have hzc : w.heap.size + 1 + 1 < w1.heap.size := (by omega); have hz4 := hb1.size; (try simp at hz4); (try have hz5 := Nat.lt_of_succ_le hz4)) | (go_at_call 52; (with_reducible refine (midPt_any _ _ _ _ h1 h2 _).mono ?_); rintro e w1 ⟨rfl, hb1⟩; obtain ⟨hc1, hf1⟩ := bcell hb1; have hw1 : Below w.heap.size w w1 := bl_call (by repeat (first | exact Below.refl _ _ | assumption | (refine bl_alloc ?_ (Nat.le_refl _) _) | (refine bl_set ?_ (by simp <;> omega) _))) hb1; have hz1 : w.heap.size + 3 ≤ w1.heap.size := (by have hq := hb1.size; have hr := hw1.size; (try simp at hq); omega); have hza : w.heap.size < w1.heap.size := (by omega); have hzb : w.heap.size + 1 < w1.heap.size := (by omega); have hzc : w.heap.size + 1 + 1 < w1.heap.size := (by omega); have hz4 := hb1.size; (try simp at hz4); (try have hz5 := Nat.lt_of_succ_le hz4)))
    refine bodyPost_ret (v := .tuple #[.agg #[.int .i64 (midX a b c d), .int .i64 (midY a b c d)], .int .i64 (midC a b c d)]) ?_ rfl ⟨rfl, (by repeat (first | exact Below.refl _ _ | assumption | (refine bl_alloc ?_ (Nat.le_refl _) _) | (refine bl_set ?_ (by simp <;> omega) _)))⟩
    rw [HN.out, HD.out, HC.out]
    simp [results, Try.results21, go_sem, *]
  · have hf : (okPt a b && okPt c d) = false := by
      cases h1 : okPt a b <;> cases h2 : okPt c d <;> simp_all
    have HN := hide (show midX a b c d = 0 by unfold midX; rw [hf]; rfl)
    have HD := hide (show midY a b c d = 0 by unfold midY; rw [hf]; rfl)
    have HC := hide (show midC a b c d = 1 by unfold midC; rw [hf]; rfl)
    have HF := hide hf
    clear hf hk
    go_enter Try.func21, Try.ntmps21
    go_wp2_with fail
    refine (validPts2 _ _ a b c d _ (by simp) (by simp [go_sem]) (by simp [go_sem]) (by simp [go_sem]) (by simp [go_sem])).mono ?_
    rw [HF.out]
    rintro E w1 ⟨rfl, hb1⟩
    have hw1 : Below w.heap.size w w1 := bl_call (by repeat (first | exact Below.refl _ _ | assumption | (refine bl_alloc ?_ (Nat.le_refl _) _) | (refine bl_set ?_ (by simp <;> omega) _))) hb1
    obtain ⟨hc1, hf1⟩ := bcell hb1
    have hz1 : w.heap.size + 3 ≤ w1.heap.size := (by have hq := hb1.size; have hr := hw1.size; (try simp at hq); omega)
    have hza : w.heap.size < w1.heap.size := by omega
    have hzb : w.heap.size + 1 < w1.heap.size := by omega
    have hzc : w.heap.size + 1 + 1 < w1.heap.size := by omega
    go_wp2
    refine bodyPost_ret (v := .tuple #[.agg #[.int .i64 (midX a b c d), .int .i64 (midY a b c d)], .int .i64 (midC a b c d)]) ?_ rfl ⟨rfl, (by repeat (first | exact Below.refl _ _ | assumption | (refine bl_alloc ?_ (Nat.le_refl _) _) | (refine bl_set ?_ (by simp <;> omega) _)))⟩
    rw [HN.out, HD.out, HC.out]
    simp [results, Try.results21, go_sem, *]
set_option maxHeartbeats 1000000 in
theorem midPt_s (a b c d : Int) (w : World) : Calls Try.prog 20 #[.agg #[.int .i64 a, .int .i64 b], .agg #[.int .i64 c, .int .i64 d]] w fun e w' => e = .returned (.tuple #[.agg #[.int .i64 (midX a b c d), .int .i64 (midY a b c d)], .int .i64 (midC a b c d)]) ∧ Below w.heap.size w w' := by
  by_cases hk : okPt a b = true ∧ okPt c d = true
  · obtain ⟨h1, h2⟩ := hk
    have HN := hide (show midX a b c d = rnd (a + c) 2 by unfold midX; rw [h1, h2]; rfl)
    have HD := hide (show midY a b c d = rnd (b + d) 2 by unfold midY; rw [h1, h2]; rfl)
    have HC := hide (show midC a b c d = 0 by unfold midC; rw [h1, h2]; rfl)
    go_enter Try.func20, Try.ntmps20
    go_wp2_with (first | (go_at_call 45; (with_reducible refine (l03Ok_any _ _ _).mono ?_); rintro e w1 ⟨rfl, hb1⟩; obtain ⟨hc1, hf1⟩ := bcell hb1; have hw1 : Below w.heap.size w w1 := bl_call (by repeat (first | exact Below.refl _ _ | assumption | (refine bl_alloc ?_ (Nat.le_refl _) _) | (refine bl_set ?_ (by simp <;> omega) _))) hb1; have hz1 : w.heap.size + 3 ≤ w1.heap.size := (by have hq := hb1.size; have hr := hw1.size; (try simp at hq); omega); have hza : w.heap.size < w1.heap.size := (by omega); have hzb : w.heap.size + 1 < w1.heap.size := (by omega); have hzc : w.heap.size + 1 + 1 < w1.heap.size := (by omega); have hz4 := hb1.size; (try simp at hz4); (try have hz5 := Nat.lt_of_succ_le hz4)) | (go_at_call 51; (with_reducible refine (l03Mid_any _ _ _ _ h1 h2 _).mono ?_); rintro e w1 ⟨rfl, hb1⟩; obtain ⟨hc1, hf1⟩ := bcell hb1; have hw1 : Below w.heap.size w w1 := bl_call (by repeat (first | exact Below.refl _ _ | assumption | (refine bl_alloc ?_ (Nat.le_refl _) _) | (refine bl_set ?_ (by simp <;> omega) _))) hb1; have hz1 : w.heap.size + 3 ≤ w1.heap.size := (by have hq := hb1.size; have hr := hw1.size; (try simp at hq); omega); have hza : w.heap.size < w1.heap.size := (by omega); have hzb : w.heap.size + 1 < w1.heap.size := (by omega); have hzc : w.heap.size + 1 + 1 < w1.heap.size := (by omega); have hz4 := hb1.size; (try simp at hz4); (try have hz5 := Nat.lt_of_succ_le hz4)))
    refine bodyPost_ret (v := .tuple #[.agg #[.int .i64 (midX a b c d), .int .i64 (midY a b c d)], .int .i64 (midC a b c d)]) ?_ rfl ⟨rfl, (by repeat (first | exact Below.refl _ _ | assumption | (refine bl_alloc ?_ (Nat.le_refl _) _) | (refine bl_set ?_ (by simp <;> omega) _)))⟩
    rw [HN.out, HD.out, HC.out]
    simp [results, Try.results20, go_sem, *]
  · cases h1 : okPt a b
    · have HN := hide (show midX a b c d = 0 by unfold midX; rw [h1]; rfl)
      have HD := hide (show midY a b c d = 0 by unfold midY; rw [h1]; rfl)
      have HC := hide (show midC a b c d = 1 by unfold midC; rw [h1]; rfl)
      clear hk
      go_enter Try.func20, Try.ntmps20
      go_wp2_with (first | (go_at_call 45; (with_reducible refine (l03Ok_any _ _ _).mono ?_); rintro e w1 ⟨rfl, hb1⟩; obtain ⟨hc1, hf1⟩ := bcell hb1; have hw1 : Below w.heap.size w w1 := bl_call (by repeat (first | exact Below.refl _ _ | assumption | (refine bl_alloc ?_ (Nat.le_refl _) _) | (refine bl_set ?_ (by simp <;> omega) _))) hb1; have hz1 : w.heap.size + 3 ≤ w1.heap.size := (by have hq := hb1.size; have hr := hw1.size; (try simp at hq); omega); have hza : w.heap.size < w1.heap.size := (by omega); have hzb : w.heap.size + 1 < w1.heap.size := (by omega); have hzc : w.heap.size + 1 + 1 < w1.heap.size := (by omega); have hz4 := hb1.size; (try simp at hz4); (try have hz5 := Nat.lt_of_succ_le hz4)))
      refine bodyPost_ret (v := .tuple #[.agg #[.int .i64 (midX a b c d), .int .i64 (midY a b c d)], .int .i64 (midC a b c d)]) ?_ rfl ⟨rfl, (by repeat (first | exact Below.refl _ _ | assumption | (refine bl_alloc ?_ (Nat.le_refl _) _) | (refine bl_set ?_ (by simp <;> omega) _)))⟩
      rw [HN.out, HD.out, HC.out]
      simp [results, Try.results20, go_sem, *]
    · have h2 : okPt c d = false := by cases h2 : okPt c d <;> simp_all
      have HN := hide (show midX a b c d = 0 by unfold midX; rw [h1, h2]; rfl)
      have HD := hide (show midY a b c d = 0 by unfold midY; rw [h1, h2]; rfl)
      have HC := hide (show midC a b c d = 1 by unfold midC; rw [h1, h2]; rfl)
      clear hk
      go_enter Try.func20, Try.ntmps20
      go_wp2_with (first | (go_at_call 45; (with_reducible refine (l03Ok_any _ _ _).mono ?_); rintro e w1 ⟨rfl, hb1⟩; obtain ⟨hc1, hf1⟩ := bcell hb1; have hw1 : Below w.heap.size w w1 := bl_call (by repeat (first | exact Below.refl _ _ | assumption | (refine bl_alloc ?_ (Nat.le_refl _) _) | (refine bl_set ?_ (by simp <;> omega) _))) hb1; have hz1 : w.heap.size + 3 ≤ w1.heap.size := (by have hq := hb1.size; have hr := hw1.size; (try simp at hq); omega); have hza : w.heap.size < w1.heap.size := (by omega); have hzb : w.heap.size + 1 < w1.heap.size := (by omega); have hzc : w.heap.size + 1 + 1 < w1.heap.size := (by omega); have hz4 := hb1.size; (try simp at hz4); (try have hz5 := Nat.lt_of_succ_le hz4)))
      refine bodyPost_ret (v := .tuple #[.agg #[.int .i64 (midX a b c d), .int .i64 (midY a b c d)], .int .i64 (midC a b c d)]) ?_ rfl ⟨rfl, (by repeat (first | exact Below.refl _ _ | assumption | (refine bl_alloc ?_ (Nat.le_refl _) _) | (refine bl_set ?_ (by simp <;> omega) _)))⟩
      rw [HN.out, HD.out, HC.out]
      simp [results, Try.results20, go_sem, *]
set_option maxHeartbeats 1000000 in
theorem fnMidPt (a b c d : Int) (_ : (Lit.int .i64 a).wf = true) (_ : (Lit.int .i64 b).wf = true) (_ : (Lit.int .i64 c).wf = true) (_ : (Lit.int .i64 d).wf = true) (w : World) :
    Calls Try.prog 5 #[.agg #[.int .i64 a, .int .i64 b], .agg #[.int .i64 c, .int .i64 d]] w fun e w' => e = .returned (.bool true) ∧ Below w.heap.size w w' := by
  have he := eqP_self (midX a b c d) (midY a b c d)
  go_enter Try.func5, Try.ntmps5
  go_wp2
  refine wp_region_made 8 _ _ (.cells #[.int .i64 0, .int .i64 0] 25) (.cells #[.int .i64 (midX a b c d), .int .i64 (midY a b c d)] 25) (by kernel_rfl) (by kernel_rfl) rfl rfl (fun _ _ => by kernel_rfl) ?_
  simp only [List.take_succ_cons, List.take_zero, List.drop_succ_cons, List.drop_zero]
  repeat (refine wpSteady_step (fun K hK => ?_); go_simp; first | (refine hK _ ?_; clear hK K) | (apply Exists.intro; refine ⟨fun _ => ?_, hK _ ?_⟩; (first | (go_at_call 16; with_reducible exact keeps_of (toPt_any _ _ _)) | (go_at_call 20; with_reducible exact keeps_of (midPt_s a b c d _))); clear hK K))
  refine wpSteady_nil ?_
  refine ⟨?_, ?_⟩
  · intro gx w1 _ hx
    have hk := cell_blk hx
    have hf := frozen_blk hx
    exact ⟨(World.setCell (World.setCell w1 ⟨gx, 0, none⟩ (.int .i64 (midX a b c d))) ⟨gx, 1, none⟩ (.int .i64 (midY a b c d))), (by simp [go_sem, hk, hf]), (heap_set (heap_set hx 0 _) 1 _), (only_set ((only_set (only_refl w1 gx) 0 _)) 1 _)⟩
  intro gx w1 hgx hlx hb1 hx
  have hkx := cell_blk hx
  have hfx := frozen_blk hx
  clear hx
  try simp at hgx
  obtain ⟨hc1, hf1⟩ := bcell hb1
  have hw1 : Below w.heap.size w w1 := bl_call (by repeat (first | exact Below.refl _ _ | assumption | (refine bl_alloc ?_ (Nat.le_refl _) _) | (refine bl_set ?_ (by simp <;> omega) _))) hb1
  have hz1 : w.heap.size + 2 ≤ w1.heap.size := (by have hq := hb1.size; have hr := hw1.size; (try simp at hq); omega)
  have hza : w.heap.size < w1.heap.size := (by omega)
  have hzb : w.heap.size + 1 < w1.heap.size := (by omega)
  go_wp2
  refine wp_region_made 8 _ _ (.cells #[.int .i64 0, .int .i64 0] 25) (.cells #[.int .i64 (midX a b c d), .int .i64 (midY a b c d)] 25) (by kernel_rfl) (by kernel_rfl) rfl rfl (fun _ _ => by kernel_rfl) ?_
  simp only [List.take_succ_cons, List.take_zero, List.drop_succ_cons, List.drop_zero]
  repeat (refine wpSteady_step (fun K hK => ?_); go_simp; first | (refine hK _ ?_; clear hK K) | (apply Exists.intro; refine ⟨fun _ => ?_, hK _ ?_⟩; (first | (go_at_call 16; with_reducible exact keeps_of (toPt_any _ _ _)) | (go_at_call 21; with_reducible exact keeps_of (midPt_i a b c d _))); clear hK K))
  refine wpSteady_nil ?_
  refine ⟨?_, ?_⟩
  · intro gy w1 _ hx
    have hk := cell_blk hx
    have hf := frozen_blk hx
    exact ⟨(World.setCell (World.setCell w1 ⟨gy, 0, none⟩ (.int .i64 (midX a b c d))) ⟨gy, 1, none⟩ (.int .i64 (midY a b c d))), (by simp [go_sem, hk, hf]), (heap_set (heap_set hx 0 _) 1 _), (only_set ((only_set (only_refl w1 gy) 0 _)) 1 _)⟩
  intro gy w1 hgy hly hb1 hx
  have hky := cell_blk hx
  have hfy := frozen_blk hx
  clear hx
  try simp at hgy
  obtain ⟨hc1, hf1⟩ := bcell hb1
  have hw1 : Below w.heap.size w w1 := bl_call (by repeat (first | exact Below.refl _ _ | assumption | (refine bl_alloc ?_ (Nat.le_refl _) _) | (refine bl_set ?_ (by simp <;> omega) _))) hb1
  have hz1 : w.heap.size + 2 ≤ w1.heap.size := (by have hq := hb1.size; have hr := hw1.size; (try simp at hq); omega)
  have hza : w.heap.size < w1.heap.size := (by omega)
  have hzb : w.heap.size + 1 < w1.heap.size := (by omega)
  go_wp2_with (go_at_call 22; (with_reducible refine (eqPt_any _ _ _ _ _).mono ?_); rintro e w1 ⟨rfl, hb1⟩; obtain ⟨hc1, hf1⟩ := bcell hb1; have hw1 : Below w.heap.size w w1 := bl_call (by repeat (first | exact Below.refl _ _ | assumption | (refine bl_alloc ?_ (Nat.le_refl _) _) | (refine bl_set ?_ (by simp <;> omega) _))) hb1; have hz1 : w.heap.size + 2 ≤ w1.heap.size := (by have hq := hb1.size; have hr := hw1.size; (try simp at hq); omega); have hza : w.heap.size < w1.heap.size := (by omega); have hzb : w.heap.size + 1 < w1.heap.size := (by omega); have hz4 := hb1.size; (try simp at hz4); (try have hz5 := Nat.lt_of_succ_le hz4))
  go_ret
  exact ⟨rfl, (by repeat (first | exact Below.refl _ _ | assumption | (refine bl_alloc ?_ (Nat.le_refl _) _) | (refine bl_set ?_ (by simp <;> omega) _)))⟩
end Go.Proofs.Ytljkmmcfeiocfaa
