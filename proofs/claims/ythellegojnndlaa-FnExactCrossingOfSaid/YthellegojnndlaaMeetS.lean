/-
  CONTRACTS of the functions that tell how two segments meet and where they cross (packages impl and spec), and the walks of the laws FnExactMeetingOf and FnExactCrossingOf. Conditions: the points of the helpers are valid.
-/
import Derived.Test.YthellegojnndlaaMeetB
import Derived.Test.YthellegojnndlaaEndW
namespace Go.Proofs.Ythellegojnndlaa
open Go.RowKit Go.Sort
set_option linter.unusedVariables false
attribute [local go_sem] cell_grow frozen_grow
attribute [local go_sem] Oper.quietAt Oper.quietUpon

def skV (a b c d e f g h : Int) : Int := specK (a, b) (c, d) (e, f) (g, h)
theorem sk_0 {a b c d e f g h : Int} (hl : (ends (a, b) (c, d) (e, f) (g, h)).length = 0) : skV a b c d e f g h = if sg (tn a b c d e f) * sg (tn a b c d g h) < 0 ∧ sg (tn e f g h a b) * sg (tn e f g h c d) < 0 then 2 else 0 := by
  unfold skV specK; rw [if_pos hl]; rfl
theorem sk_1 {a b c d e f g h : Int} (hl : (ends (a, b) (c, d) (e, f) (g, h)).length = 1) : skV a b c d e f g h = 1 := by
  unfold skV specK; rw [if_neg (by omega), if_pos hl]
theorem sk_2 {a b c d e f g h : Int} (hl : 2 ≤ (ends (a, b) (c, d) (e, f) (g, h)).length) : skV a b c d e f g h = 3 := by
  unfold skV specK; rw [if_neg (by omega), if_neg (by omega)]
set_option maxRecDepth 100000 in
set_option maxHeartbeats 4000000 in
theorem l03Meeting_any (a b c d e f g h : Int) (h1 : okPt a b = true) (h2 : okPt c d = true) (h3 : okPt e f = true) (h4 : okPt g h = true) (w : World) :
    Calls Try.prog 68 #[.agg #[.int .i64 a, .int .i64 b], .agg #[.int .i64 c, .int .i64 d], .agg #[.int .i64 e, .int .i64 f], .agg #[.int .i64 g, .int .i64 h]] w fun E w' => E = .returned (.int .i64 (skV a b c d e f g h)) ∧ Below w.heap.size w w' := by
  obtain ⟨u1, u2⟩ := sg_mul (tn a b c d e f) (tn a b c d g h)
  obtain ⟨v1, v2⟩ := sg_mul (tn e f g h a b) (tn e f g h c d)
  have H0 := hide (fun hl => sk_0 (a := a) (b := b) (c := c) (d := d) (e := e) (f := f) (g := g) (h := h) hl)
  have H1 := hide (fun hl => sk_1 (a := a) (b := b) (c := c) (d := d) (e := e) (f := f) (g := g) (h := h) hl)
  have H2 := hide (fun hl => sk_2 (a := a) (b := b) (c := c) (d := d) (e := e) (f := f) (g := g) (h := h) hl)
  have HL : Hid ((ends (a, b) (c, d) (e, f) (g, h)).length ≤ 4) := endsK_len (a, b) (c, d) (e, f) (g, h) 4 (by omega)
  go_enter Try.func68, Try.ntmps68
  go_wp2_with fail
  (with_reducible refine (l03Ends_any _ _ _ _ _ _ _ _ h1 h2 h3 h4 _).mono ?_)
  rintro E w1 ⟨gs, cap, rfl, hg0, hg1, hcell, hb1⟩
  generalize hn : (ends (a, b) (c, d) (e, f) (g, h)).length = n at *
  have HN := hide hn
  have hL := HL.out
  obtain ⟨hc1, hf1⟩ := bcell hb1
  have hw1 : Below w.heap.size w w1 := bl_call (by repeat (first | exact Below.refl _ _ | assumption | (refine bl_alloc ?_ (Nat.le_refl _) _) | (refine bl_set ?_ (by simp <;> omega) _))) hb1
  have hz1 : w.heap.size + 4 ≤ w1.heap.size := (by have hq := hb1.size; have hr := hw1.size; (try simp at hq); omega)
  have hza : w.heap.size < w1.heap.size := by omega
  have hzb : w.heap.size + 1 < w1.heap.size := by omega
  have hzc : w.heap.size + 1 + 1 < w1.heap.size := by omega
  have hzd : w.heap.size + 1 + 1 + 1 < w1.heap.size := by omega
  clear hn hcell HL
  by_cases n0 : n = 0
  · subst n0
    by_cases p1 : sg (tn a b c d e f) * sg (tn a b c d g h) < 0
    · have r1 : decide (sg (tn a b c d e f) * sg (tn a b c d g h) < 0) = true := decide_eq_true p1
      by_cases p2 : sg (tn e f g h a b) * sg (tn e f g h c d) < 0
      · have r2 : decide (sg (tn e f g h a b) * sg (tn e f g h c d) < 0) = true := decide_eq_true p2
        have HR := hide (show skV a b c d e f g h = 2 by rw [H0.out rfl, if_pos ⟨p1, p2⟩])
        clear p1 p2
        go_wp2
        refine wp_region_quiet_below (by kernel_rfl) (by kernel_rfl) ?_
        repeat (first | go_big_quiet_step ((first | (go_at_call 101; with_reducible exact Calls.regrown_of (l03Turn_any _ _ _ _ _ _ (by assumption) (by assumption) (by assumption) _)) | (go_at_call 108; with_reducible exact Calls.regrown_of (same_below (l03Sign_any _ _))))) | quiet_step ((first | (go_at_call 101; with_reducible exact Calls.regrown_of (l03Turn_any _ _ _ _ _ _ (by assumption) (by assumption) (by assumption) _)) | (go_at_call 108; with_reducible exact Calls.regrown_of (same_below (l03Sign_any _ _))))))
        refine wpQuiet_nil ?_
        intro w1 hw1
        obtain ⟨pq, hpq⟩ := hw1
        have hb1 := below_of hpq
        clear hpq pq
        have hz4 := hb1.size
        (try simp at hz4)
        obtain ⟨hc1, hf1⟩ := bcell hb1
        have hw1 : Below w.heap.size w w1 := bl_call (by repeat (first | exact Below.refl _ _ | assumption | (refine bl_alloc ?_ (Nat.le_refl _) _) | (refine bl_set ?_ (by simp <;> omega) _))) hb1
        have hz1 : w.heap.size + 4 ≤ w1.heap.size := (by have hq := hb1.size; have hr := hw1.size; (try simp at hq); omega)
        have hza : w.heap.size < w1.heap.size := (by omega)
        have hzb : w.heap.size + 1 < w1.heap.size := (by omega)
        have hzc : w.heap.size + 1 + 1 < w1.heap.size := (by omega)
        have hzd : w.heap.size + 1 + 1 + 1 < w1.heap.size := (by omega)
        go_wp2
        go_ret
        exact ⟨ret_int HR.out.symm, (by repeat (first | exact Below.refl _ _ | assumption | (refine bl_alloc ?_ (Nat.le_refl _) _) | (refine bl_set ?_ (by simp <;> omega) _)))⟩
      · have r2 : decide (sg (tn e f g h a b) * sg (tn e f g h c d) < 0) = false := decide_eq_false p2
        have HR := hide (show skV a b c d e f g h = 0 by rw [H0.out rfl, if_neg (fun k => p2 k.2)])
        clear p1 p2
        go_wp2
        refine wp_region_quiet_below (by kernel_rfl) (by kernel_rfl) ?_
        repeat (first | go_big_quiet_step ((first | (go_at_call 101; with_reducible exact Calls.regrown_of (l03Turn_any _ _ _ _ _ _ (by assumption) (by assumption) (by assumption) _)) | (go_at_call 108; with_reducible exact Calls.regrown_of (same_below (l03Sign_any _ _))))) | quiet_step ((first | (go_at_call 101; with_reducible exact Calls.regrown_of (l03Turn_any _ _ _ _ _ _ (by assumption) (by assumption) (by assumption) _)) | (go_at_call 108; with_reducible exact Calls.regrown_of (same_below (l03Sign_any _ _))))))
        refine wpQuiet_nil ?_
        intro w1 hw1
        obtain ⟨pq, hpq⟩ := hw1
        have hb1 := below_of hpq
        clear hpq pq
        have hz4 := hb1.size
        (try simp at hz4)
        obtain ⟨hc1, hf1⟩ := bcell hb1
        have hw1 : Below w.heap.size w w1 := bl_call (by repeat (first | exact Below.refl _ _ | assumption | (refine bl_alloc ?_ (Nat.le_refl _) _) | (refine bl_set ?_ (by simp <;> omega) _))) hb1
        have hz1 : w.heap.size + 4 ≤ w1.heap.size := (by have hq := hb1.size; have hr := hw1.size; (try simp at hq); omega)
        have hza : w.heap.size < w1.heap.size := (by omega)
        have hzb : w.heap.size + 1 < w1.heap.size := (by omega)
        have hzc : w.heap.size + 1 + 1 < w1.heap.size := (by omega)
        have hzd : w.heap.size + 1 + 1 + 1 < w1.heap.size := (by omega)
        go_wp2
        go_ret
        exact ⟨ret_int HR.out.symm, (by repeat (first | exact Below.refl _ _ | assumption | (refine bl_alloc ?_ (Nat.le_refl _) _) | (refine bl_set ?_ (by simp <;> omega) _)))⟩
    · have r1 : decide (sg (tn a b c d e f) * sg (tn a b c d g h) < 0) = false := decide_eq_false p1
      have HR := hide (show skV a b c d e f g h = 0 by rw [H0.out rfl, if_neg (fun k => p1 k.1)])
      clear p1
      go_wp2
      refine wp_region_quiet_below (by kernel_rfl) (by kernel_rfl) ?_
      repeat (first | go_big_quiet_step ((first | (go_at_call 101; with_reducible exact Calls.regrown_of (l03Turn_any _ _ _ _ _ _ (by assumption) (by assumption) (by assumption) _)) | (go_at_call 108; with_reducible exact Calls.regrown_of (same_below (l03Sign_any _ _))))) | quiet_step ((first | (go_at_call 101; with_reducible exact Calls.regrown_of (l03Turn_any _ _ _ _ _ _ (by assumption) (by assumption) (by assumption) _)) | (go_at_call 108; with_reducible exact Calls.regrown_of (same_below (l03Sign_any _ _))))))
      refine wpQuiet_nil ?_
      intro w1 hw1
      obtain ⟨pq, hpq⟩ := hw1
      have hb1 := below_of hpq
      clear hpq pq
      have hz4 := hb1.size
      (try simp at hz4)
      obtain ⟨hc1, hf1⟩ := bcell hb1
      have hw1 : Below w.heap.size w w1 := bl_call (by repeat (first | exact Below.refl _ _ | assumption | (refine bl_alloc ?_ (Nat.le_refl _) _) | (refine bl_set ?_ (by simp <;> omega) _))) hb1
      have hz1 : w.heap.size + 4 ≤ w1.heap.size := (by have hq := hb1.size; have hr := hw1.size; (try simp at hq); omega)
      have hza : w.heap.size < w1.heap.size := (by omega)
      have hzb : w.heap.size + 1 < w1.heap.size := (by omega)
      have hzc : w.heap.size + 1 + 1 < w1.heap.size := (by omega)
      have hzd : w.heap.size + 1 + 1 + 1 < w1.heap.size := (by omega)
      go_wp2
      go_ret
      exact ⟨ret_int HR.out.symm, (by repeat (first | exact Below.refl _ _ | assumption | (refine bl_alloc ?_ (Nat.le_refl _) _) | (refine bl_set ?_ (by simp <;> omega) _)))⟩
  · by_cases n1 : n = 1
    · subst n1
      have HR := hide (H1.out rfl)
      go_wp2
      go_ret
      exact ⟨ret_int HR.out.symm, (by repeat (first | exact Below.refl _ _ | assumption | (refine bl_alloc ?_ (Nat.le_refl _) _) | (refine bl_set ?_ (by simp <;> omega) _)))⟩
    · have HR := hide (H2.out (by omega))
      have q1 : ((n : Int) == 0) = false := by simp; omega
      have q2 : ((n : Int) == 1) = false := by simp; omega
      clear n0 n1
      go_wp2
      go_ret
      exact ⟨ret_int HR.out.symm, (by repeat (first | exact Below.refl _ _ | assumption | (refine bl_alloc ?_ (Nat.le_refl _) _) | (refine bl_set ?_ (by simp <;> omega) _)))⟩
/-- how two segments meet; -1 where a point is not valid -/
def mofR (a b c d e f g h : Int) : Int := if okPt a b && okPt c d && okPt e f && okPt g h then skV a b c d e f g h else -1
theorem mof_bd (a b c d e f g h : Int) : -1 ≤ mofR a b c d e f g h ∧ mofR a b c d e f g h ≤ 3 := by
  unfold mofR skV specK; (repeat' split) <;> omega
theorem mK_eq {a b c d e f g h : Int} (h1 : okPt a b = true) (h2 : okPt c d = true) (h3 : okPt e f = true) (h4 : okPt g h = true) : (meetK (a, b) (c, d) (e, f) (g, h)).1 = skV a b c d e f g h :=
  (meet_law (a := (a, b)) (b := (c, d)) (c := (e, f)) (d := (g, h)) h1 h2 h3 h4).1
set_option maxHeartbeats 2000000 in
theorem meetingOf_s (a b c d e f g h : Int) (w : World) :
    Calls Try.prog 18 #[.agg #[.int .i64 a, .int .i64 b], .agg #[.int .i64 c, .int .i64 d], .agg #[.int .i64 e, .int .i64 f], .agg #[.int .i64 g, .int .i64 h]] w fun E w' => E = .returned (.int .i64 (mofR a b c d e f g h)) ∧ Below w.heap.size w w' := by
  have HM := hide (show mofR a b c d e f g h = if okPt a b && okPt c d && okPt e f && okPt g h then skV a b c d e f g h else -1 from rfl)
  cases h1 : okPt a b
  · have HR := hide (show mofR a b c d e f g h = -1 by rw [HM.out, h1]; rfl)
    go_enter Try.func18, Try.ntmps18
    go_wp2_with (first | (go_at_call 59; (with_reducible refine (l03Ok_any _ _ _).mono ?_); rintro e w1 ⟨rfl, hb1⟩; obtain ⟨hc1, hf1⟩ := bcell hb1; have hw1 : Below w.heap.size w w1 := bl_call (by repeat (first | exact Below.refl _ _ | assumption | (refine bl_alloc ?_ (Nat.le_refl _) _) | (refine bl_set ?_ (by simp <;> omega) _))) hb1; have hz1 : w.heap.size + 4 ≤ w1.heap.size := (by have hq := hb1.size; have hr := hw1.size; (try simp at hq); omega); have hza : w.heap.size < w1.heap.size := (by omega); have hzb : w.heap.size + 1 < w1.heap.size := (by omega); have hzc : w.heap.size + 1 + 1 < w1.heap.size := (by omega); have hzd : w.heap.size + 1 + 1 + 1 < w1.heap.size := (by omega); have hz4 := hb1.size; (try simp at hz4); (try have hz5 := Nat.lt_of_succ_le hz4)))
    go_ret
    exact ⟨ret_int HR.out.symm, (by repeat (first | exact Below.refl _ _ | assumption | (refine bl_alloc ?_ (Nat.le_refl _) _) | (refine bl_set ?_ (by simp <;> omega) _)))⟩
  cases h2 : okPt c d
  · have HR := hide (show mofR a b c d e f g h = -1 by rw [HM.out, h1, h2]; rfl)
    go_enter Try.func18, Try.ntmps18
    go_wp2_with (first | (go_at_call 59; (with_reducible refine (l03Ok_any _ _ _).mono ?_); rintro e w1 ⟨rfl, hb1⟩; obtain ⟨hc1, hf1⟩ := bcell hb1; have hw1 : Below w.heap.size w w1 := bl_call (by repeat (first | exact Below.refl _ _ | assumption | (refine bl_alloc ?_ (Nat.le_refl _) _) | (refine bl_set ?_ (by simp <;> omega) _))) hb1; have hz1 : w.heap.size + 4 ≤ w1.heap.size := (by have hq := hb1.size; have hr := hw1.size; (try simp at hq); omega); have hza : w.heap.size < w1.heap.size := (by omega); have hzb : w.heap.size + 1 < w1.heap.size := (by omega); have hzc : w.heap.size + 1 + 1 < w1.heap.size := (by omega); have hzd : w.heap.size + 1 + 1 + 1 < w1.heap.size := (by omega); have hz4 := hb1.size; (try simp at hz4); (try have hz5 := Nat.lt_of_succ_le hz4)))
    go_ret
    exact ⟨ret_int HR.out.symm, (by repeat (first | exact Below.refl _ _ | assumption | (refine bl_alloc ?_ (Nat.le_refl _) _) | (refine bl_set ?_ (by simp <;> omega) _)))⟩
  cases h3 : okPt e f
  · have HR := hide (show mofR a b c d e f g h = -1 by rw [HM.out, h1, h2, h3]; rfl)
    go_enter Try.func18, Try.ntmps18
    go_wp2_with (first | (go_at_call 59; (with_reducible refine (l03Ok_any _ _ _).mono ?_); rintro e w1 ⟨rfl, hb1⟩; obtain ⟨hc1, hf1⟩ := bcell hb1; have hw1 : Below w.heap.size w w1 := bl_call (by repeat (first | exact Below.refl _ _ | assumption | (refine bl_alloc ?_ (Nat.le_refl _) _) | (refine bl_set ?_ (by simp <;> omega) _))) hb1; have hz1 : w.heap.size + 4 ≤ w1.heap.size := (by have hq := hb1.size; have hr := hw1.size; (try simp at hq); omega); have hza : w.heap.size < w1.heap.size := (by omega); have hzb : w.heap.size + 1 < w1.heap.size := (by omega); have hzc : w.heap.size + 1 + 1 < w1.heap.size := (by omega); have hzd : w.heap.size + 1 + 1 + 1 < w1.heap.size := (by omega); have hz4 := hb1.size; (try simp at hz4); (try have hz5 := Nat.lt_of_succ_le hz4)))
    go_ret
    exact ⟨ret_int HR.out.symm, (by repeat (first | exact Below.refl _ _ | assumption | (refine bl_alloc ?_ (Nat.le_refl _) _) | (refine bl_set ?_ (by simp <;> omega) _)))⟩
  cases h4 : okPt g h
  · have HR := hide (show mofR a b c d e f g h = -1 by rw [HM.out, h1, h2, h3, h4]; rfl)
    go_enter Try.func18, Try.ntmps18
    go_wp2_with (first | (go_at_call 59; (with_reducible refine (l03Ok_any _ _ _).mono ?_); rintro e w1 ⟨rfl, hb1⟩; obtain ⟨hc1, hf1⟩ := bcell hb1; have hw1 : Below w.heap.size w w1 := bl_call (by repeat (first | exact Below.refl _ _ | assumption | (refine bl_alloc ?_ (Nat.le_refl _) _) | (refine bl_set ?_ (by simp <;> omega) _))) hb1; have hz1 : w.heap.size + 4 ≤ w1.heap.size := (by have hq := hb1.size; have hr := hw1.size; (try simp at hq); omega); have hza : w.heap.size < w1.heap.size := (by omega); have hzb : w.heap.size + 1 < w1.heap.size := (by omega); have hzc : w.heap.size + 1 + 1 < w1.heap.size := (by omega); have hzd : w.heap.size + 1 + 1 + 1 < w1.heap.size := (by omega); have hz4 := hb1.size; (try simp at hz4); (try have hz5 := Nat.lt_of_succ_le hz4)))
    go_ret
    exact ⟨ret_int HR.out.symm, (by repeat (first | exact Below.refl _ _ | assumption | (refine bl_alloc ?_ (Nat.le_refl _) _) | (refine bl_set ?_ (by simp <;> omega) _)))⟩
  · have HR := hide (show mofR a b c d e f g h = skV a b c d e f g h by rw [HM.out, h1, h2, h3, h4]; rfl)
    go_enter Try.func18, Try.ntmps18
    go_wp2_with (first | (go_at_call 59; (with_reducible refine (l03Ok_any _ _ _).mono ?_); rintro e w1 ⟨rfl, hb1⟩; obtain ⟨hc1, hf1⟩ := bcell hb1; have hw1 : Below w.heap.size w w1 := bl_call (by repeat (first | exact Below.refl _ _ | assumption | (refine bl_alloc ?_ (Nat.le_refl _) _) | (refine bl_set ?_ (by simp <;> omega) _))) hb1; have hz1 : w.heap.size + 4 ≤ w1.heap.size := (by have hq := hb1.size; have hr := hw1.size; (try simp at hq); omega); have hza : w.heap.size < w1.heap.size := (by omega); have hzb : w.heap.size + 1 < w1.heap.size := (by omega); have hzc : w.heap.size + 1 + 1 < w1.heap.size := (by omega); have hzd : w.heap.size + 1 + 1 + 1 < w1.heap.size := (by omega); have hz4 := hb1.size; (try simp at hz4); (try have hz5 := Nat.lt_of_succ_le hz4)) | (go_at_call 68; (with_reducible refine (l03Meeting_any _ _ _ _ _ _ _ _ h1 h2 h3 h4 _).mono ?_); rintro e w1 ⟨rfl, hb1⟩; obtain ⟨hc1, hf1⟩ := bcell hb1; have hw1 : Below w.heap.size w w1 := bl_call (by repeat (first | exact Below.refl _ _ | assumption | (refine bl_alloc ?_ (Nat.le_refl _) _) | (refine bl_set ?_ (by simp <;> omega) _))) hb1; have hz1 : w.heap.size + 4 ≤ w1.heap.size := (by have hq := hb1.size; have hr := hw1.size; (try simp at hq); omega); have hza : w.heap.size < w1.heap.size := (by omega); have hzb : w.heap.size + 1 < w1.heap.size := (by omega); have hzc : w.heap.size + 1 + 1 < w1.heap.size := (by omega); have hzd : w.heap.size + 1 + 1 + 1 < w1.heap.size := (by omega); have hz4 := hb1.size; (try simp at hz4); (try have hz5 := Nat.lt_of_succ_le hz4)))
    go_ret
    exact ⟨ret_int HR.out.symm, (by repeat (first | exact Below.refl _ _ | assumption | (refine bl_alloc ?_ (Nat.le_refl _) _) | (refine bl_set ?_ (by simp <;> omega) _)))⟩
theorem ok4_f {a b c d : Bool} (h : ¬ (a = true ∧ b = true ∧ c = true ∧ d = true)) : (a && b && c && d) = false := by
  cases a <;> cases b <;> cases c <;> cases d <;> simp_all
set_option maxHeartbeats 2000000 in
theorem meetingOf_i (a b c d e f g h : Int) (w : World) :
    Calls Try.prog 19 #[.agg #[.int .i64 a, .int .i64 b], .agg #[.int .i64 c, .int .i64 d], .agg #[.int .i64 e, .int .i64 f], .agg #[.int .i64 g, .int .i64 h]] w fun E w' => E = .returned (.int .i64 (mofR a b c d e f g h)) ∧ Below w.heap.size w w' := by
  by_cases hk : okPt a b = true ∧ okPt c d = true ∧ okPt e f = true ∧ okPt g h = true
  · obtain ⟨h1, h2, h3, h4⟩ := hk
    have HR := hide (show mofR a b c d e f g h = (meetK (a, b) (c, d) (e, f) (g, h)).1 by unfold mofR; rw [h1, h2, h3, h4, mK_eq h1 h2 h3 h4]; rfl)
    have H := meeting_any a b c d e f g h h1 h2 h3 h4
    unfold meetV at H
    go_enter Try.func19, Try.ntmps19
    go_wp2_with (first | (go_at_call 62; (with_reducible refine (validPts4 _ _ a b c d e f g h _ (by simp) (by simp [go_sem]) (by simp [go_sem]) (by simp [go_sem]) (by simp [go_sem]) (by simp [go_sem]) (by simp [go_sem]) (by simp [go_sem]) (by simp [go_sem])).mono ?_); rintro e w1 ⟨rfl, hb1⟩; obtain ⟨hc1, hf1⟩ := bcell hb1; have hw1 : Below w.heap.size w w1 := bl_call (by repeat (first | exact Below.refl _ _ | assumption | (refine bl_alloc ?_ (Nat.le_refl _) _) | (refine bl_set ?_ (by simp <;> omega) _))) hb1; have hz1 : w.heap.size + 4 ≤ w1.heap.size := (by have hq := hb1.size; have hr := hw1.size; (try simp at hq); omega); have hza : w.heap.size < w1.heap.size := (by omega); have hzb : w.heap.size + 1 < w1.heap.size := (by omega); have hzc : w.heap.size + 1 + 1 < w1.heap.size := (by omega); have hzd : w.heap.size + 1 + 1 + 1 < w1.heap.size := (by omega); have hz4 := hb1.size; (try simp at hz4); (try have hz5 := Nat.lt_of_succ_le hz4)) | (go_at_call 69; (with_reducible refine (H _).mono ?_); rintro e w1 ⟨rfl, hb1⟩; obtain ⟨hc1, hf1⟩ := bcell hb1; have hw1 : Below w.heap.size w w1 := bl_call (by repeat (first | exact Below.refl _ _ | assumption | (refine bl_alloc ?_ (Nat.le_refl _) _) | (refine bl_set ?_ (by simp <;> omega) _))) hb1; have hz1 : w.heap.size + 4 ≤ w1.heap.size := (by have hq := hb1.size; have hr := hw1.size; (try simp at hq); omega); have hza : w.heap.size < w1.heap.size := (by omega); have hzb : w.heap.size + 1 < w1.heap.size := (by omega); have hzc : w.heap.size + 1 + 1 < w1.heap.size := (by omega); have hzd : w.heap.size + 1 + 1 + 1 < w1.heap.size := (by omega); have hz4 := hb1.size; (try simp at hz4); (try have hz5 := Nat.lt_of_succ_le hz4)))
    go_ret
    exact ⟨ret_int HR.out.symm, (by repeat (first | exact Below.refl _ _ | assumption | (refine bl_alloc ?_ (Nat.le_refl _) _) | (refine bl_set ?_ (by simp <;> omega) _)))⟩
  · have hf := ok4_f hk
    have HR := hide (show mofR a b c d e f g h = -1 by unfold mofR; rw [hf]; rfl)
    have HF := hide hf
    clear hf hk
    go_enter Try.func19, Try.ntmps19
    go_wp2_with fail
    refine (validPts4 _ _ a b c d e f g h _ (by simp) (by simp [go_sem]) (by simp [go_sem]) (by simp [go_sem]) (by simp [go_sem]) (by simp [go_sem]) (by simp [go_sem]) (by simp [go_sem]) (by simp [go_sem])).mono ?_
    rw [HF.out]
    rintro E w1 ⟨rfl, hb1⟩
    have hw1 : Below w.heap.size w w1 := bl_call (by repeat (first | exact Below.refl _ _ | assumption | (refine bl_alloc ?_ (Nat.le_refl _) _) | (refine bl_set ?_ (by simp <;> omega) _))) hb1
    go_wp2
    go_ret
    exact ⟨ret_int HR.out.symm, (by repeat (first | exact Below.refl _ _ | assumption | (refine bl_alloc ?_ (Nat.le_refl _) _) | (refine bl_set ?_ (by simp <;> omega) _)))⟩
set_option maxHeartbeats 2000000 in
theorem fnMeetingOf (a b c d e f g h : Int) (_ : (Lit.int .i64 a).wf = true) (_ : (Lit.int .i64 b).wf = true) (_ : (Lit.int .i64 c).wf = true) (_ : (Lit.int .i64 d).wf = true) (_ : (Lit.int .i64 e).wf = true) (_ : (Lit.int .i64 f).wf = true) (_ : (Lit.int .i64 g).wf = true) (_ : (Lit.int .i64 h).wf = true) (w : World) :
    Calls Try.prog 5 #[.agg #[.int .i64 a, .int .i64 b], .agg #[.int .i64 c, .int .i64 d], .agg #[.int .i64 e, .int .i64 f], .agg #[.int .i64 g, .int .i64 h]] w fun E w' => E = .returned (.bool true) ∧ Below w.heap.size w w' := by
  go_enter Try.func5, Try.ntmps5
  go_wp2
  refine wp_region_quiet_below (by kernel_rfl) (by kernel_rfl) ?_
  repeat (first | go_big_quiet_step ((first | (go_at_call 14; with_reducible exact Calls.regrown_of (toPt_any _ _ _)) | (go_at_call 18; with_reducible exact Calls.regrown_of (meetingOf_s _ _ _ _ _ _ _ _ _)))) | quiet_step ((first | (go_at_call 14; with_reducible exact Calls.regrown_of (toPt_any _ _ _)) | (go_at_call 18; with_reducible exact Calls.regrown_of (meetingOf_s _ _ _ _ _ _ _ _ _)))))
  refine wpQuiet_nil ?_
  intro w1 hw1
  obtain ⟨pq, hpq⟩ := hw1
  have hb1 := below_of hpq
  clear hpq pq
  have hz4 := hb1.size
  (try simp at hz4)
  obtain ⟨hc1, hf1⟩ := bcell hb1
  have hw1 : Below w.heap.size w w1 := bl_call (by repeat (first | exact Below.refl _ _ | assumption | (refine bl_alloc ?_ (Nat.le_refl _) _) | (refine bl_set ?_ (by simp <;> omega) _))) hb1
  have hz1 : w.heap.size + 4 ≤ w1.heap.size := (by have hq := hb1.size; have hr := hw1.size; (try simp at hq); omega)
  have hza : w.heap.size < w1.heap.size := (by omega)
  have hzb : w.heap.size + 1 < w1.heap.size := (by omega)
  have hzc : w.heap.size + 1 + 1 < w1.heap.size := (by omega)
  have hzd : w.heap.size + 1 + 1 + 1 < w1.heap.size := (by omega)
  go_wp2
  refine wp_region_quiet_below (by kernel_rfl) (by kernel_rfl) ?_
  repeat (first | go_big_quiet_step ((first | (go_at_call 14; with_reducible exact Calls.regrown_of (toPt_any _ _ _)) | (go_at_call 19; with_reducible exact Calls.regrown_of (meetingOf_i _ _ _ _ _ _ _ _ _)))) | quiet_step ((first | (go_at_call 14; with_reducible exact Calls.regrown_of (toPt_any _ _ _)) | (go_at_call 19; with_reducible exact Calls.regrown_of (meetingOf_i _ _ _ _ _ _ _ _ _)))))
  refine wpQuiet_nil ?_
  intro w1 hw1
  obtain ⟨pq, hpq⟩ := hw1
  have hb1 := below_of hpq
  clear hpq pq
  have hz4 := hb1.size
  (try simp at hz4)
  obtain ⟨hc1, hf1⟩ := bcell hb1
  have hw1 : Below w.heap.size w w1 := bl_call (by repeat (first | exact Below.refl _ _ | assumption | (refine bl_alloc ?_ (Nat.le_refl _) _) | (refine bl_set ?_ (by simp <;> omega) _))) hb1
  have hz1 : w.heap.size + 4 ≤ w1.heap.size := (by have hq := hb1.size; have hr := hw1.size; (try simp at hq); omega)
  have hza : w.heap.size < w1.heap.size := (by omega)
  have hzb : w.heap.size + 1 < w1.heap.size := (by omega)
  have hzc : w.heap.size + 1 + 1 < w1.heap.size := (by omega)
  have hzd : w.heap.size + 1 + 1 + 1 < w1.heap.size := (by omega)
  go_wp2
  go_ret
  exact ⟨rfl, (by repeat (first | exact Below.refl _ _ | assumption | (refine bl_alloc ?_ (Nat.le_refl _) _) | (refine bl_set ?_ (by simp <;> omega) _)))⟩
end Go.Proofs.Ythellegojnndlaa
