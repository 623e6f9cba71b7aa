/-
  CONTRACT of impl.meeting where not all four points lie on one line. Conditions: the points are valid.
-/
import Derived.Test.YthellegojnndlaaMeets
import Derived.RegionTactic
namespace Go.Proofs.Ythellegojnndlaa
open Go.RowKit Go.Sort
set_option linter.unusedVariables false
attribute [local go_sem] cell_grow frozen_grow
attribute [local go_sem] Oper.quietAt Oper.quietUpon
theorem sg_mul0 {x y : Int} (h : x = 0) : ¬ sg x * sg y < 0 := by subst h; simp [sg]
theorem sg_mul0' {x y : Int} (h : y = 0) : ¬ sg x * sg y < 0 := by subst h; simp [sg]
set_option maxHeartbeats 4000000 in
theorem meeting_b00 (a b c d e f g h : Int) (h1 : okPt a b = true) (h2 : okPt c d = true) (h3 : okPt e f = true) (h4 : okPt g h = true) (n1 : ¬ tn a b c d e f = 0) (p1 : sg (tn a b c d e f) * sg (tn a b c d g h) < 0) (p2 : sg (tn e f g h a b) * sg (tn e f g h c d) < 0) (w : World) : Calls Try.prog 69 #[.agg #[.int .i64 a, .int .i64 b], .agg #[.int .i64 c, .int .i64 d], .agg #[.int .i64 e, .int .i64 f], .agg #[.int .i64 g, .int .i64 h]] w fun E w' => E = .returned (meetV a b c d e f g h) ∧ Below w.heap.size w w' := by
  have HM := hide (meet_bent (a := a) (b := b) (c := c) (d := d) (e := e) (f := f) (g := g) (h := h) (fun ⟨k1, k2, k3, k4⟩ => n1 k1))
  have HR := hide (show meetV a b c d e f g h = mtV 2 0 0 by rw [HM.out, if_pos ⟨p1, p2⟩])
  have q1 := sg_ne n1
  obtain ⟨u1, u2⟩ := sg_mul (tn a b c d e f) (tn a b c d g h)
  have r1 : decide (sg (tn a b c d e f) * sg (tn a b c d g h) < 0) = true := decide_eq_true p1
  obtain ⟨v1, v2⟩ := sg_mul (tn e f g h a b) (tn e f g h c d)
  have r2 : decide (sg (tn e f g h a b) * sg (tn e f g h c d) < 0) = true := decide_eq_true p2
  clear HM  n1 p1 p2
  go_enter Try.func69, Try.ntmps69
  go_wp2
  refine wp_region_quiet_below (by kernel_rfl) (by kernel_rfl) ?_
  repeat (first | go_big_quiet_step ((first | (go_at_call 95; with_reducible exact Calls.regrown_of (turn_any _ _ _ _ _ _ (by assumption) (by assumption) (by assumption) _)) | (go_at_call 90; with_reducible exact Calls.regrown_of (same_below (sign64_any _ _))))) | quiet_step ((first | (go_at_call 95; with_reducible exact Calls.regrown_of (turn_any _ _ _ _ _ _ (by assumption) (by assumption) (by assumption) _)) | (go_at_call 90; with_reducible exact Calls.regrown_of (same_below (sign64_any _ _))))))
  refine wpQuiet_nil ?_
  intro w1 hw1
  obtain ⟨pq, hpq⟩ := hw1
  have hb1 := below_of hpq
  clear hpq pq
  have hz4 := hb1.size
  (try simp at hz4)
  obtain ⟨hc1, hf1⟩ := bcell hb1
  have hw1 : Below w.heap.size w w1 := bl_call (by repeat (first | exact Below.refl _ _ | assumption | (refine bl_alloc ?_ (Nat.le_refl _) _) | (refine bl_set ?_ (by simp <;> omega) _))) hb1
  have hz1 : w.heap.size + 5 ≤ w1.heap.size := (by have hq := hb1.size; have hr := hw1.size; (try simp at hq); omega)
  have hza : w.heap.size < w1.heap.size := (by omega)
  have hzb : w.heap.size + 1 < w1.heap.size := (by omega)
  have hzc : w.heap.size + 1 + 1 < w1.heap.size := (by omega)
  have hzd : w.heap.size + 1 + 1 + 1 < w1.heap.size := (by omega)
  have hze : w.heap.size + 1 + 1 + 1 + 1 < w1.heap.size := (by omega)
  go_wp2
  refine bodyPost_ret (v := meetV a b c d e f g h) ?_ rfl ⟨rfl, (by repeat (first | exact Below.refl _ _ | assumption | (refine Below.drew ?_) | (refine bl_alloc ?_ (Nat.le_refl _) _) | (refine bl_set ?_ (by simp <;> omega) _)))⟩
  rw [HR.out]; simp [results, Try.results69, go_sem, mtV, *]
set_option maxHeartbeats 4000000 in
theorem meeting_b01 (a b c d e f g h : Int) (h1 : okPt a b = true) (h2 : okPt c d = true) (h3 : okPt e f = true) (h4 : okPt g h = true) (n1 : ¬ tn a b c d e f = 0) (p1 : ¬ sg (tn a b c d e f) * sg (tn a b c d g h) < 0) (w : World) : Calls Try.prog 69 #[.agg #[.int .i64 a, .int .i64 b], .agg #[.int .i64 c, .int .i64 d], .agg #[.int .i64 e, .int .i64 f], .agg #[.int .i64 g, .int .i64 h]] w fun E w' => E = .returned (meetV a b c d e f g h) ∧ Below w.heap.size w w' := by
  have HM := hide (meet_bent (a := a) (b := b) (c := c) (d := d) (e := e) (f := f) (g := g) (h := h) (fun ⟨k1, k2, k3, k4⟩ => n1 k1))
  have HR := hide (show meetV a b c d e f g h = if onB a b c d e f = true then mtV 1 e f else if onB a b c d g h = true then mtV 1 g h else if onB e f g h a b = true then mtV 1 a b else if onB e f g h c d = true then mtV 1 c d else mtV 0 0 0 by rw [HM.out, if_neg (fun k => p1 k.1)])
  have q1 := sg_ne n1
  obtain ⟨u1, u2⟩ := sg_mul (tn a b c d e f) (tn a b c d g h)
  have r1 : decide (sg (tn a b c d e f) * sg (tn a b c d g h) < 0) = false := decide_eq_false p1
  clear HM  n1 p1
  go_enter Try.func69, Try.ntmps69
  go_wp2
  refine wp_region_quiet_below (by kernel_rfl) (by kernel_rfl) ?_
  repeat (first | go_big_quiet_step ((first | (go_at_call 95; with_reducible exact Calls.regrown_of (turn_any _ _ _ _ _ _ (by assumption) (by assumption) (by assumption) _)) | (go_at_call 90; with_reducible exact Calls.regrown_of (same_below (sign64_any _ _))))) | quiet_step ((first | (go_at_call 95; with_reducible exact Calls.regrown_of (turn_any _ _ _ _ _ _ (by assumption) (by assumption) (by assumption) _)) | (go_at_call 90; with_reducible exact Calls.regrown_of (same_below (sign64_any _ _))))))
  refine wpQuiet_nil ?_
  intro w1 hw1
  obtain ⟨pq, hpq⟩ := hw1
  have hb1 := below_of hpq
  clear hpq pq
  have hz4 := hb1.size
  (try simp at hz4)
  obtain ⟨hc1, hf1⟩ := bcell hb1
  have hw1 : Below w.heap.size w w1 := bl_call (by repeat (first | exact Below.refl _ _ | assumption | (refine bl_alloc ?_ (Nat.le_refl _) _) | (refine bl_set ?_ (by simp <;> omega) _))) hb1
  have hz1 : w.heap.size + 5 ≤ w1.heap.size := (by have hq := hb1.size; have hr := hw1.size; (try simp at hq); omega)
  have hza : w.heap.size < w1.heap.size := (by omega)
  have hzb : w.heap.size + 1 < w1.heap.size := (by omega)
  have hzc : w.heap.size + 1 + 1 < w1.heap.size := (by omega)
  have hzd : w.heap.size + 1 + 1 + 1 < w1.heap.size := (by omega)
  have hze : w.heap.size + 1 + 1 + 1 + 1 < w1.heap.size := (by omega)
  go_wp2_with (first | (go_at_call 99; (with_reducible refine (onSegment_any _ _ _ _ _ _ (by assumption) (by assumption) (by assumption) _).mono ?_); rintro e w1 ⟨rfl, hb1⟩; obtain ⟨hc1, hf1⟩ := bcell hb1; have hw1 : Below w.heap.size w w1 := bl_call (by repeat (first | exact Below.refl _ _ | assumption | (refine bl_alloc ?_ (Nat.le_refl _) _) | (refine bl_set ?_ (by simp <;> omega) _))) hb1; have hz1 : w.heap.size + 5 ≤ w1.heap.size := (by have hq := hb1.size; have hr := hw1.size; (try simp at hq); omega); have hza : w.heap.size < w1.heap.size := (by omega); have hzb : w.heap.size + 1 < w1.heap.size := (by omega); have hzc : w.heap.size + 1 + 1 < w1.heap.size := (by omega); have hzd : w.heap.size + 1 + 1 + 1 < w1.heap.size := (by omega); have hze : w.heap.size + 1 + 1 + 1 + 1 < w1.heap.size := (by omega); have hz4 := hb1.size; (try simp at hz4); (try have hz5 := Nat.lt_of_succ_le hz4)))
  all_goals (first | (go_region; all_goals (try go_wp2); all_goals (refine bodyPost_ret (v := meetV a b c d e f g h) ?_ rfl ⟨rfl, (by repeat (first | exact Below.refl _ _ | assumption | (refine Below.drew ?_) | (refine bl_alloc ?_ (Nat.le_refl _) _) | (refine bl_set ?_ (by simp <;> omega) _)))⟩; rw [HR.out]; simp [results, Try.results69, go_sem, mtV, *])) | (refine bodyPost_ret (v := meetV a b c d e f g h) ?_ rfl ⟨rfl, (by repeat (first | exact Below.refl _ _ | assumption | (refine Below.drew ?_) | (refine bl_alloc ?_ (Nat.le_refl _) _) | (refine bl_set ?_ (by simp <;> omega) _)))⟩; rw [HR.out]; simp [results, Try.results69, go_sem, mtV, *]))
set_option maxHeartbeats 4000000 in
theorem meeting_b02 (a b c d e f g h : Int) (h1 : okPt a b = true) (h2 : okPt c d = true) (h3 : okPt e f = true) (h4 : okPt g h = true) (n1 : ¬ tn a b c d e f = 0) (p1 : sg (tn a b c d e f) * sg (tn a b c d g h) < 0) (p2 : ¬ sg (tn e f g h a b) * sg (tn e f g h c d) < 0) (w : World) : Calls Try.prog 69 #[.agg #[.int .i64 a, .int .i64 b], .agg #[.int .i64 c, .int .i64 d], .agg #[.int .i64 e, .int .i64 f], .agg #[.int .i64 g, .int .i64 h]] w fun E w' => E = .returned (meetV a b c d e f g h) ∧ Below w.heap.size w w' := by
  have HM := hide (meet_bent (a := a) (b := b) (c := c) (d := d) (e := e) (f := f) (g := g) (h := h) (fun ⟨k1, k2, k3, k4⟩ => n1 k1))
  have HR := hide (show meetV a b c d e f g h = if onB a b c d e f = true then mtV 1 e f else if onB a b c d g h = true then mtV 1 g h else if onB e f g h a b = true then mtV 1 a b else if onB e f g h c d = true then mtV 1 c d else mtV 0 0 0 by rw [HM.out, if_neg (fun k => p2 k.2)])
  have q1 := sg_ne n1
  obtain ⟨u1, u2⟩ := sg_mul (tn a b c d e f) (tn a b c d g h)
  have r1 : decide (sg (tn a b c d e f) * sg (tn a b c d g h) < 0) = true := decide_eq_true p1
  obtain ⟨v1, v2⟩ := sg_mul (tn e f g h a b) (tn e f g h c d)
  have r2 : decide (sg (tn e f g h a b) * sg (tn e f g h c d) < 0) = false := decide_eq_false p2
  clear HM  n1 p1 p2
  go_enter Try.func69, Try.ntmps69
  go_wp2
  refine wp_region_quiet_below (by kernel_rfl) (by kernel_rfl) ?_
  repeat (first | go_big_quiet_step ((first | (go_at_call 95; with_reducible exact Calls.regrown_of (turn_any _ _ _ _ _ _ (by assumption) (by assumption) (by assumption) _)) | (go_at_call 90; with_reducible exact Calls.regrown_of (same_below (sign64_any _ _))))) | quiet_step ((first | (go_at_call 95; with_reducible exact Calls.regrown_of (turn_any _ _ _ _ _ _ (by assumption) (by assumption) (by assumption) _)) | (go_at_call 90; with_reducible exact Calls.regrown_of (same_below (sign64_any _ _))))))
  refine wpQuiet_nil ?_
  intro w1 hw1
  obtain ⟨pq, hpq⟩ := hw1
  have hb1 := below_of hpq
  clear hpq pq
  have hz4 := hb1.size
  (try simp at hz4)
  obtain ⟨hc1, hf1⟩ := bcell hb1
  have hw1 : Below w.heap.size w w1 := bl_call (by repeat (first | exact Below.refl _ _ | assumption | (refine bl_alloc ?_ (Nat.le_refl _) _) | (refine bl_set ?_ (by simp <;> omega) _))) hb1
  have hz1 : w.heap.size + 5 ≤ w1.heap.size := (by have hq := hb1.size; have hr := hw1.size; (try simp at hq); omega)
  have hza : w.heap.size < w1.heap.size := (by omega)
  have hzb : w.heap.size + 1 < w1.heap.size := (by omega)
  have hzc : w.heap.size + 1 + 1 < w1.heap.size := (by omega)
  have hzd : w.heap.size + 1 + 1 + 1 < w1.heap.size := (by omega)
  have hze : w.heap.size + 1 + 1 + 1 + 1 < w1.heap.size := (by omega)
  go_wp2_with (first | (go_at_call 99; (with_reducible refine (onSegment_any _ _ _ _ _ _ (by assumption) (by assumption) (by assumption) _).mono ?_); rintro e w1 ⟨rfl, hb1⟩; obtain ⟨hc1, hf1⟩ := bcell hb1; have hw1 : Below w.heap.size w w1 := bl_call (by repeat (first | exact Below.refl _ _ | assumption | (refine bl_alloc ?_ (Nat.le_refl _) _) | (refine bl_set ?_ (by simp <;> omega) _))) hb1; have hz1 : w.heap.size + 5 ≤ w1.heap.size := (by have hq := hb1.size; have hr := hw1.size; (try simp at hq); omega); have hza : w.heap.size < w1.heap.size := (by omega); have hzb : w.heap.size + 1 < w1.heap.size := (by omega); have hzc : w.heap.size + 1 + 1 < w1.heap.size := (by omega); have hzd : w.heap.size + 1 + 1 + 1 < w1.heap.size := (by omega); have hze : w.heap.size + 1 + 1 + 1 + 1 < w1.heap.size := (by omega); have hz4 := hb1.size; (try simp at hz4); (try have hz5 := Nat.lt_of_succ_le hz4)))
  all_goals (first | (go_region; all_goals (try go_wp2); all_goals (refine bodyPost_ret (v := meetV a b c d e f g h) ?_ rfl ⟨rfl, (by repeat (first | exact Below.refl _ _ | assumption | (refine Below.drew ?_) | (refine bl_alloc ?_ (Nat.le_refl _) _) | (refine bl_set ?_ (by simp <;> omega) _)))⟩; rw [HR.out]; simp [results, Try.results69, go_sem, mtV, *])) | (refine bodyPost_ret (v := meetV a b c d e f g h) ?_ rfl ⟨rfl, (by repeat (first | exact Below.refl _ _ | assumption | (refine Below.drew ?_) | (refine bl_alloc ?_ (Nat.le_refl _) _) | (refine bl_set ?_ (by simp <;> omega) _)))⟩; rw [HR.out]; simp [results, Try.results69, go_sem, mtV, *]))
set_option maxHeartbeats 4000000 in
theorem meeting_b11 (a b c d e f g h : Int) (h1 : okPt a b = true) (h2 : okPt c d = true) (h3 : okPt e f = true) (h4 : okPt g h = true) (z1 : tn a b c d e f = 0) (n2 : ¬ tn a b c d g h = 0) (p1 : ¬ sg (tn a b c d e f) * sg (tn a b c d g h) < 0) (w : World) : Calls Try.prog 69 #[.agg #[.int .i64 a, .int .i64 b], .agg #[.int .i64 c, .int .i64 d], .agg #[.int .i64 e, .int .i64 f], .agg #[.int .i64 g, .int .i64 h]] w fun E w' => E = .returned (meetV a b c d e f g h) ∧ Below w.heap.size w w' := by
  have HM := hide (meet_bent (a := a) (b := b) (c := c) (d := d) (e := e) (f := f) (g := g) (h := h) (fun ⟨k1, k2, k3, k4⟩ => n2 k2))
  have HR := hide (show meetV a b c d e f g h = if onB a b c d e f = true then mtV 1 e f else if onB a b c d g h = true then mtV 1 g h else if onB e f g h a b = true then mtV 1 a b else if onB e f g h c d = true then mtV 1 c d else mtV 0 0 0 by rw [HM.out, if_neg (fun k => p1 k.1)])
  have q1 := sg_is z1
  have q2 := sg_ne n2
  obtain ⟨u1, u2⟩ := sg_mul (tn a b c d e f) (tn a b c d g h)
  have r1 : decide (sg (tn a b c d e f) * sg (tn a b c d g h) < 0) = false := decide_eq_false p1
  clear HM z1 n2 p1
  go_enter Try.func69, Try.ntmps69
  go_wp2
  refine wp_region_quiet_below (by kernel_rfl) (by kernel_rfl) ?_
  repeat (first | go_big_quiet_step ((first | (go_at_call 95; with_reducible exact Calls.regrown_of (turn_any _ _ _ _ _ _ (by assumption) (by assumption) (by assumption) _)) | (go_at_call 90; with_reducible exact Calls.regrown_of (same_below (sign64_any _ _))))) | quiet_step ((first | (go_at_call 95; with_reducible exact Calls.regrown_of (turn_any _ _ _ _ _ _ (by assumption) (by assumption) (by assumption) _)) | (go_at_call 90; with_reducible exact Calls.regrown_of (same_below (sign64_any _ _))))))
  refine wpQuiet_nil ?_
  intro w1 hw1
  obtain ⟨pq, hpq⟩ := hw1
  have hb1 := below_of hpq
  clear hpq pq
  have hz4 := hb1.size
  (try simp at hz4)
  obtain ⟨hc1, hf1⟩ := bcell hb1
  have hw1 : Below w.heap.size w w1 := bl_call (by repeat (first | exact Below.refl _ _ | assumption | (refine bl_alloc ?_ (Nat.le_refl _) _) | (refine bl_set ?_ (by simp <;> omega) _))) hb1
  have hz1 : w.heap.size + 5 ≤ w1.heap.size := (by have hq := hb1.size; have hr := hw1.size; (try simp at hq); omega)
  have hza : w.heap.size < w1.heap.size := (by omega)
  have hzb : w.heap.size + 1 < w1.heap.size := (by omega)
  have hzc : w.heap.size + 1 + 1 < w1.heap.size := (by omega)
  have hzd : w.heap.size + 1 + 1 + 1 < w1.heap.size := (by omega)
  have hze : w.heap.size + 1 + 1 + 1 + 1 < w1.heap.size := (by omega)
  go_wp2_with (first | (go_at_call 99; (with_reducible refine (onSegment_any _ _ _ _ _ _ (by assumption) (by assumption) (by assumption) _).mono ?_); rintro e w1 ⟨rfl, hb1⟩; obtain ⟨hc1, hf1⟩ := bcell hb1; have hw1 : Below w.heap.size w w1 := bl_call (by repeat (first | exact Below.refl _ _ | assumption | (refine bl_alloc ?_ (Nat.le_refl _) _) | (refine bl_set ?_ (by simp <;> omega) _))) hb1; have hz1 : w.heap.size + 5 ≤ w1.heap.size := (by have hq := hb1.size; have hr := hw1.size; (try simp at hq); omega); have hza : w.heap.size < w1.heap.size := (by omega); have hzb : w.heap.size + 1 < w1.heap.size := (by omega); have hzc : w.heap.size + 1 + 1 < w1.heap.size := (by omega); have hzd : w.heap.size + 1 + 1 + 1 < w1.heap.size := (by omega); have hze : w.heap.size + 1 + 1 + 1 + 1 < w1.heap.size := (by omega); have hz4 := hb1.size; (try simp at hz4); (try have hz5 := Nat.lt_of_succ_le hz4)))
  all_goals (first | (go_region; all_goals (try go_wp2); all_goals (refine bodyPost_ret (v := meetV a b c d e f g h) ?_ rfl ⟨rfl, (by repeat (first | exact Below.refl _ _ | assumption | (refine Below.drew ?_) | (refine bl_alloc ?_ (Nat.le_refl _) _) | (refine bl_set ?_ (by simp <;> omega) _)))⟩; rw [HR.out]; simp [results, Try.results69, go_sem, mtV, *])) | (refine bodyPost_ret (v := meetV a b c d e f g h) ?_ rfl ⟨rfl, (by repeat (first | exact Below.refl _ _ | assumption | (refine Below.drew ?_) | (refine bl_alloc ?_ (Nat.le_refl _) _) | (refine bl_set ?_ (by simp <;> omega) _)))⟩; rw [HR.out]; simp [results, Try.results69, go_sem, mtV, *]))
set_option maxHeartbeats 4000000 in
theorem meeting_b21 (a b c d e f g h : Int) (h1 : okPt a b = true) (h2 : okPt c d = true) (h3 : okPt e f = true) (h4 : okPt g h = true) (z1 : tn a b c d e f = 0) (z2 : tn a b c d g h = 0) (n3 : ¬ tn e f g h a b = 0) (p1 : ¬ sg (tn a b c d e f) * sg (tn a b c d g h) < 0) (w : World) : Calls Try.prog 69 #[.agg #[.int .i64 a, .int .i64 b], .agg #[.int .i64 c, .int .i64 d], .agg #[.int .i64 e, .int .i64 f], .agg #[.int .i64 g, .int .i64 h]] w fun E w' => E = .returned (meetV a b c d e f g h) ∧ Below w.heap.size w w' := by
  have HM := hide (meet_bent (a := a) (b := b) (c := c) (d := d) (e := e) (f := f) (g := g) (h := h) (fun ⟨k1, k2, k3, k4⟩ => n3 k3))
  have HR := hide (show meetV a b c d e f g h = if onB a b c d e f = true then mtV 1 e f else if onB a b c d g h = true then mtV 1 g h else if onB e f g h a b = true then mtV 1 a b else if onB e f g h c d = true then mtV 1 c d else mtV 0 0 0 by rw [HM.out, if_neg (fun k => p1 k.1)])
  have q1 := sg_is z1
  have q2 := sg_is z2
  have q3 := sg_ne n3
  obtain ⟨u1, u2⟩ := sg_mul (tn a b c d e f) (tn a b c d g h)
  have r1 : decide (sg (tn a b c d e f) * sg (tn a b c d g h) < 0) = false := decide_eq_false p1
  clear HM z1 z2 n3 p1
  go_enter Try.func69, Try.ntmps69
  go_wp2
  refine wp_region_quiet_below (by kernel_rfl) (by kernel_rfl) ?_
  repeat (first | go_big_quiet_step ((first | (go_at_call 95; with_reducible exact Calls.regrown_of (turn_any _ _ _ _ _ _ (by assumption) (by assumption) (by assumption) _)) | (go_at_call 90; with_reducible exact Calls.regrown_of (same_below (sign64_any _ _))))) | quiet_step ((first | (go_at_call 95; with_reducible exact Calls.regrown_of (turn_any _ _ _ _ _ _ (by assumption) (by assumption) (by assumption) _)) | (go_at_call 90; with_reducible exact Calls.regrown_of (same_below (sign64_any _ _))))))
  refine wpQuiet_nil ?_
  intro w1 hw1
  obtain ⟨pq, hpq⟩ := hw1
  have hb1 := below_of hpq
  clear hpq pq
  have hz4 := hb1.size
  (try simp at hz4)
  obtain ⟨hc1, hf1⟩ := bcell hb1
  have hw1 : Below w.heap.size w w1 := bl_call (by repeat (first | exact Below.refl _ _ | assumption | (refine bl_alloc ?_ (Nat.le_refl _) _) | (refine bl_set ?_ (by simp <;> omega) _))) hb1
  have hz1 : w.heap.size + 5 ≤ w1.heap.size := (by have hq := hb1.size; have hr := hw1.size; (try simp at hq); omega)
  have hza : w.heap.size < w1.heap.size := (by omega)
  have hzb : w.heap.size + 1 < w1.heap.size := (by omega)
  have hzc : w.heap.size + 1 + 1 < w1.heap.size := (by omega)
  have hzd : w.heap.size + 1 + 1 + 1 < w1.heap.size := (by omega)
  have hze : w.heap.size + 1 + 1 + 1 + 1 < w1.heap.size := (by omega)
  go_wp2_with (first | (go_at_call 99; (with_reducible refine (onSegment_any _ _ _ _ _ _ (by assumption) (by assumption) (by assumption) _).mono ?_); rintro e w1 ⟨rfl, hb1⟩; obtain ⟨hc1, hf1⟩ := bcell hb1; have hw1 : Below w.heap.size w w1 := bl_call (by repeat (first | exact Below.refl _ _ | assumption | (refine bl_alloc ?_ (Nat.le_refl _) _) | (refine bl_set ?_ (by simp <;> omega) _))) hb1; have hz1 : w.heap.size + 5 ≤ w1.heap.size := (by have hq := hb1.size; have hr := hw1.size; (try simp at hq); omega); have hza : w.heap.size < w1.heap.size := (by omega); have hzb : w.heap.size + 1 < w1.heap.size := (by omega); have hzc : w.heap.size + 1 + 1 < w1.heap.size := (by omega); have hzd : w.heap.size + 1 + 1 + 1 < w1.heap.size := (by omega); have hze : w.heap.size + 1 + 1 + 1 + 1 < w1.heap.size := (by omega); have hz4 := hb1.size; (try simp at hz4); (try have hz5 := Nat.lt_of_succ_le hz4)))
  all_goals (first | (go_region; all_goals (try go_wp2); all_goals (refine bodyPost_ret (v := meetV a b c d e f g h) ?_ rfl ⟨rfl, (by repeat (first | exact Below.refl _ _ | assumption | (refine Below.drew ?_) | (refine bl_alloc ?_ (Nat.le_refl _) _) | (refine bl_set ?_ (by simp <;> omega) _)))⟩; rw [HR.out]; simp [results, Try.results69, go_sem, mtV, *])) | (refine bodyPost_ret (v := meetV a b c d e f g h) ?_ rfl ⟨rfl, (by repeat (first | exact Below.refl _ _ | assumption | (refine Below.drew ?_) | (refine bl_alloc ?_ (Nat.le_refl _) _) | (refine bl_set ?_ (by simp <;> omega) _)))⟩; rw [HR.out]; simp [results, Try.results69, go_sem, mtV, *]))
set_option maxHeartbeats 4000000 in
theorem meeting_b31 (a b c d e f g h : Int) (h1 : okPt a b = true) (h2 : okPt c d = true) (h3 : okPt e f = true) (h4 : okPt g h = true) (z1 : tn a b c d e f = 0) (z2 : tn a b c d g h = 0) (z3 : tn e f g h a b = 0) (n4 : ¬ tn e f g h c d = 0) (p1 : ¬ sg (tn a b c d e f) * sg (tn a b c d g h) < 0) (w : World) : Calls Try.prog 69 #[.agg #[.int .i64 a, .int .i64 b], .agg #[.int .i64 c, .int .i64 d], .agg #[.int .i64 e, .int .i64 f], .agg #[.int .i64 g, .int .i64 h]] w fun E w' => E = .returned (meetV a b c d e f g h) ∧ Below w.heap.size w w' := by
  have HM := hide (meet_bent (a := a) (b := b) (c := c) (d := d) (e := e) (f := f) (g := g) (h := h) (fun ⟨k1, k2, k3, k4⟩ => n4 k4))
  have HR := hide (show meetV a b c d e f g h = if onB a b c d e f = true then mtV 1 e f else if onB a b c d g h = true then mtV 1 g h else if onB e f g h a b = true then mtV 1 a b else if onB e f g h c d = true then mtV 1 c d else mtV 0 0 0 by rw [HM.out, if_neg (fun k => p1 k.1)])
  have q1 := sg_is z1
  have q2 := sg_is z2
  have q3 := sg_is z3
  have q4 := sg_ne n4
  obtain ⟨u1, u2⟩ := sg_mul (tn a b c d e f) (tn a b c d g h)
  have r1 : decide (sg (tn a b c d e f) * sg (tn a b c d g h) < 0) = false := decide_eq_false p1
  clear HM z1 z2 z3 n4 p1
  go_enter Try.func69, Try.ntmps69
  go_wp2
  refine wp_region_quiet_below (by kernel_rfl) (by kernel_rfl) ?_
  repeat (first | go_big_quiet_step ((first | (go_at_call 95; with_reducible exact Calls.regrown_of (turn_any _ _ _ _ _ _ (by assumption) (by assumption) (by assumption) _)) | (go_at_call 90; with_reducible exact Calls.regrown_of (same_below (sign64_any _ _))))) | quiet_step ((first | (go_at_call 95; with_reducible exact Calls.regrown_of (turn_any _ _ _ _ _ _ (by assumption) (by assumption) (by assumption) _)) | (go_at_call 90; with_reducible exact Calls.regrown_of (same_below (sign64_any _ _))))))
  refine wpQuiet_nil ?_
  intro w1 hw1
  obtain ⟨pq, hpq⟩ := hw1
  have hb1 := below_of hpq
  clear hpq pq
  have hz4 := hb1.size
  (try simp at hz4)
  obtain ⟨hc1, hf1⟩ := bcell hb1
  have hw1 : Below w.heap.size w w1 := bl_call (by repeat (first | exact Below.refl _ _ | assumption | (refine bl_alloc ?_ (Nat.le_refl _) _) | (refine bl_set ?_ (by simp <;> omega) _))) hb1
  have hz1 : w.heap.size + 5 ≤ w1.heap.size := (by have hq := hb1.size; have hr := hw1.size; (try simp at hq); omega)
  have hza : w.heap.size < w1.heap.size := (by omega)
  have hzb : w.heap.size + 1 < w1.heap.size := (by omega)
  have hzc : w.heap.size + 1 + 1 < w1.heap.size := (by omega)
  have hzd : w.heap.size + 1 + 1 + 1 < w1.heap.size := (by omega)
  have hze : w.heap.size + 1 + 1 + 1 + 1 < w1.heap.size := (by omega)
  go_wp2_with (first | (go_at_call 99; (with_reducible refine (onSegment_any _ _ _ _ _ _ (by assumption) (by assumption) (by assumption) _).mono ?_); rintro e w1 ⟨rfl, hb1⟩; obtain ⟨hc1, hf1⟩ := bcell hb1; have hw1 : Below w.heap.size w w1 := bl_call (by repeat (first | exact Below.refl _ _ | assumption | (refine bl_alloc ?_ (Nat.le_refl _) _) | (refine bl_set ?_ (by simp <;> omega) _))) hb1; have hz1 : w.heap.size + 5 ≤ w1.heap.size := (by have hq := hb1.size; have hr := hw1.size; (try simp at hq); omega); have hza : w.heap.size < w1.heap.size := (by omega); have hzb : w.heap.size + 1 < w1.heap.size := (by omega); have hzc : w.heap.size + 1 + 1 < w1.heap.size := (by omega); have hzd : w.heap.size + 1 + 1 + 1 < w1.heap.size := (by omega); have hze : w.heap.size + 1 + 1 + 1 + 1 < w1.heap.size := (by omega); have hz4 := hb1.size; (try simp at hz4); (try have hz5 := Nat.lt_of_succ_le hz4)))
  all_goals (first | (go_region; all_goals (try go_wp2); all_goals (refine bodyPost_ret (v := meetV a b c d e f g h) ?_ rfl ⟨rfl, (by repeat (first | exact Below.refl _ _ | assumption | (refine Below.drew ?_) | (refine bl_alloc ?_ (Nat.le_refl _) _) | (refine bl_set ?_ (by simp <;> omega) _)))⟩; rw [HR.out]; simp [results, Try.results69, go_sem, mtV, *])) | (refine bodyPost_ret (v := meetV a b c d e f g h) ?_ rfl ⟨rfl, (by repeat (first | exact Below.refl _ _ | assumption | (refine Below.drew ?_) | (refine bl_alloc ?_ (Nat.le_refl _) _) | (refine bl_set ?_ (by simp <;> omega) _)))⟩; rw [HR.out]; simp [results, Try.results69, go_sem, mtV, *]))
set_option maxHeartbeats 400000 in
theorem meeting_any (a b c d e f g h : Int) (h1 : okPt a b = true) (h2 : okPt c d = true) (h3 : okPt e f = true) (h4 : okPt g h = true) (w : World) : Calls Try.prog 69 #[.agg #[.int .i64 a, .int .i64 b], .agg #[.int .i64 c, .int .i64 d], .agg #[.int .i64 e, .int .i64 f], .agg #[.int .i64 g, .int .i64 h]] w fun E w' => E = .returned (meetV a b c d e f g h) ∧ Below w.heap.size w w' := by
  by_cases z1 : tn a b c d e f = 0
  · have p1 : ¬ sg (tn a b c d e f) * sg (tn a b c d g h) < 0 := sg_mul0 z1
    by_cases z2 : tn a b c d g h = 0
    · by_cases z3 : tn e f g h a b = 0
      · by_cases z4 : tn e f g h c d = 0
        · exact meeting_flat a b c d e f g h h1 h2 h3 h4 z1 z2 z3 z4 w
        · exact meeting_b31 a b c d e f g h h1 h2 h3 h4 z1 z2 z3 z4 p1 w
      · exact meeting_b21 a b c d e f g h h1 h2 h3 h4 z1 z2 z3 p1 w
    · exact meeting_b11 a b c d e f g h h1 h2 h3 h4 z1 z2 p1 w
  · by_cases p1 : sg (tn a b c d e f) * sg (tn a b c d g h) < 0
    · by_cases p2 : sg (tn e f g h a b) * sg (tn e f g h c d) < 0
      · exact meeting_b00 a b c d e f g h h1 h2 h3 h4 z1 p1 p2 w
      · exact meeting_b02 a b c d e f g h h1 h2 h3 h4 z1 p1 p2 w
    · exact meeting_b01 a b c d e f g h h1 h2 h3 h4 z1 p1 w
end Go.Proofs.Ythellegojnndlaa
