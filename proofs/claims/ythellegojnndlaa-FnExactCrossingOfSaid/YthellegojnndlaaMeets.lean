/-
  CONTRACTS of the functions that tell how two segments meet in the program (impl): comparePt, lesserPt, greaterPt, meeting, MeetingOf. Conditions: the points of the helpers are valid.
-/
import Derived.Test.YthellegojnndlaaEnds
import Derived.Test.YthellegojnndlaaMid
import Derived.Outline
import Derived.RegionTactic
namespace Go.Proofs.Ythellegojnndlaa
open Go.RowKit Go.Sort
set_option linter.unusedVariables false
attribute [local go_sem] cell_grow frozen_grow
attribute [local go_sem] Oper.quietAt Oper.quietUpon

theorem kk_bd {a b : Int} (h : okPt a b = true) : -274878169088 ≤ kk a b ∧ kk a b ≤ 274878169088 := by
  obtain ⟨a0, a1, b0, b1⟩ := okPt_t h
  unfold kk; omega
/-- the order of two points, as a sign -/
def cpI (a b c d : Int) : Int := sg (kk a b - kk c d)
theorem cp_ne {a b c d : Int} (h1 : okPt a b = true) (h2 : okPt c d = true) (h : ¬ a = c) : cpI a b c d = sg (a - c) := by
  obtain ⟨a0, a1, b0, b1⟩ := okPt_t h1
  obtain ⟨c0, c1, d0, d1⟩ := okPt_t h2
  unfold cpI kk sg
  split <;> split <;> (try split) <;> (try split) <;> omega
theorem cp_eq (a b d : Int) : cpI a b a d = sg (b - d) := by
  unfold cpI kk
  congr 1
  omega
set_option maxHeartbeats 400000 in
theorem comparePt_any (a b c d : Int) (h1 : okPt a b = true) (h2 : okPt c d = true) (w : World) : Calls Try.prog 111 #[.agg #[.int .i64 a, .int .i64 b], .agg #[.int .i64 c, .int .i64 d]] w fun E w' => E = .returned (.int .i64 (cpI a b c d)) ∧ Below w.heap.size w w' := by
  have h1' := h1
  have h2' := h2
  obtain ⟨a0, a1, b0, b1⟩ := okPt_t h1
  obtain ⟨c0, c1, d0, d1⟩ := okPt_t h2
  by_cases h : a = c
  · subst h
    have HR := hide (cp_eq a b d)
    clear h1 h2 h1' h2'
    go_enter Try.func111, Try.ntmps111
    go_wp2_with (first | (go_at_call 90; (with_reducible refine (sign64_any _ _).mono ?_); rintro e w1 ⟨rfl, rfl⟩))
    go_ret
    exact ⟨ret_int HR.out.symm, (by repeat (first | exact Below.refl _ _ | assumption | (refine bl_alloc ?_ (Nat.le_refl _) _) | (refine bl_set ?_ (by simp <;> omega) _)))⟩
  · have HR := hide (cp_ne h1 h2 h)
    have q1 : (a == c) = false := by simp; omega
    have q2 : (a != c) = true := by simp; omega
    clear h1 h2 h1' h2' h
    go_enter Try.func111, Try.ntmps111
    go_wp2_with (first | (go_at_call 90; (with_reducible refine (sign64_any _ _).mono ?_); rintro e w1 ⟨rfl, rfl⟩))
    go_ret
    exact ⟨ret_int HR.out.symm, (by repeat (first | exact Below.refl _ _ | assumption | (refine bl_alloc ?_ (Nat.le_refl _) _) | (refine bl_set ?_ (by simp <;> omega) _)))⟩
/-- the lesser of two points -/
def lsX (a b c d : Int) : Int := if kk a b ≤ kk c d then a else c
def lsY (a b c d : Int) : Int := if kk a b ≤ kk c d then b else d
def gtX (a b c d : Int) : Int := if kk c d ≤ kk a b then a else c
def gtY (a b c d : Int) : Int := if kk c d ≤ kk a b then b else d
theorem lsP_eq (a b c d : Int) : lsP (a, b) (c, d) = (lsX a b c d, lsY a b c d) := by
  unfold lsP lsX lsY kp; split <;> rfl
theorem gtP_eq (a b c d : Int) : gtP (a, b) (c, d) = (gtX a b c d, gtY a b c d) := by
  unfold gtP gtX gtY kp; split <;> rfl
theorem ls_ok {a b c d : Int} (h1 : okPt a b = true) (h2 : okPt c d = true) : okPt (lsX a b c d) (lsY a b c d) = true := by
  unfold lsX lsY; split <;> assumption
theorem gt_ok {a b c d : Int} (h1 : okPt a b = true) (h2 : okPt c d = true) : okPt (gtX a b c d) (gtY a b c d) = true := by
  unfold gtX gtY; split <;> assumption
theorem cp_le (a b c d : Int) : cpI a b c d ≤ 0 ↔ kk a b ≤ kk c d := by
  unfold cpI sg; split <;> (try split) <;> omega
theorem cp_ge (a b c d : Int) : 0 ≤ cpI a b c d ↔ kk c d ≤ kk a b := by
  unfold cpI sg; split <;> (try split) <;> omega
theorem cp_bd (a b c d : Int) : -1 ≤ cpI a b c d ∧ cpI a b c d ≤ 1 := sg_bd _
set_option maxHeartbeats 400000 in
theorem lesserPt_any (a b c d : Int) (h1 : okPt a b = true) (h2 : okPt c d = true) (w : World) : Calls Try.prog 110 #[.agg #[.int .i64 a, .int .i64 b], .agg #[.int .i64 c, .int .i64 d]] w fun E w' => E = .returned (.agg #[.int .i64 (lsX a b c d), .int .i64 (lsY a b c d)]) ∧ Below w.heap.size w w' := by
  have hle := cp_le a b c d
  obtain ⟨p0, p1⟩ := cp_bd a b c d
  by_cases h : kk a b ≤ kk c d
  · have HX := hide (show lsX a b c d = a by unfold lsX; rw [if_pos h])
    have HY := hide (show lsY a b c d = b by unfold lsY; rw [if_pos h])
    have q1 : cpI a b c d ≤ 0 := hle.mpr h
    have q2 : decide (cpI a b c d ≤ 0) = true := decide_eq_true q1
    clear h hle
    go_enter Try.func110, Try.ntmps110
    go_wp2_with (first | (go_at_call 111; (with_reducible refine (comparePt_any _ _ _ _ h1 h2 _).mono ?_); rintro e w1 ⟨rfl, hb1⟩; obtain ⟨hc1, hf1⟩ := bcell hb1; have hw1 : Below w.heap.size w w1 := bl_call (by repeat (first | exact Below.refl _ _ | assumption | (refine bl_alloc ?_ (Nat.le_refl _) _) | (refine bl_set ?_ (by simp <;> omega) _))) hb1; have hz1 : w.heap.size + 3 ≤ w1.heap.size := (by have hq := hb1.size; have hr := hw1.size; (try simp at hq); omega); have hza : w.heap.size < w1.heap.size := (by omega); have hzb : w.heap.size + 1 < w1.heap.size := (by omega); have hzc : w.heap.size + 1 + 1 < w1.heap.size := (by omega); have hz4 := hb1.size; (try simp at hz4); (try have hz5 := Nat.lt_of_succ_le hz4)))
    refine bodyPost_ret (v := .agg #[.int .i64 (lsX a b c d), .int .i64 (lsY a b c d)]) ?_ rfl ⟨rfl, (by repeat (first | exact Below.refl _ _ | assumption | (refine bl_alloc ?_ (Nat.le_refl _) _) | (refine bl_set ?_ (by simp <;> omega) _)))⟩
    rw [HX.out, HY.out]
    simp [results, Try.results110, go_sem, *]
  · have HX := hide (show lsX a b c d = c by unfold lsX; rw [if_neg h])
    have HY := hide (show lsY a b c d = d by unfold lsY; rw [if_neg h])
    have q1 : ¬ cpI a b c d ≤ 0 := fun g => h (hle.mp g)
    have q2 : decide (cpI a b c d ≤ 0) = false := decide_eq_false q1
    have q3 : 1 ≤ cpI a b c d := by omega
    clear h hle q1
    go_enter Try.func110, Try.ntmps110
    go_wp2_with (first | (go_at_call 111; (with_reducible refine (comparePt_any _ _ _ _ h1 h2 _).mono ?_); rintro e w1 ⟨rfl, hb1⟩; obtain ⟨hc1, hf1⟩ := bcell hb1; have hw1 : Below w.heap.size w w1 := bl_call (by repeat (first | exact Below.refl _ _ | assumption | (refine bl_alloc ?_ (Nat.le_refl _) _) | (refine bl_set ?_ (by simp <;> omega) _))) hb1; have hz1 : w.heap.size + 3 ≤ w1.heap.size := (by have hq := hb1.size; have hr := hw1.size; (try simp at hq); omega); have hza : w.heap.size < w1.heap.size := (by omega); have hzb : w.heap.size + 1 < w1.heap.size := (by omega); have hzc : w.heap.size + 1 + 1 < w1.heap.size := (by omega); have hz4 := hb1.size; (try simp at hz4); (try have hz5 := Nat.lt_of_succ_le hz4)))
    refine bodyPost_ret (v := .agg #[.int .i64 (lsX a b c d), .int .i64 (lsY a b c d)]) ?_ rfl ⟨rfl, (by repeat (first | exact Below.refl _ _ | assumption | (refine bl_alloc ?_ (Nat.le_refl _) _) | (refine bl_set ?_ (by simp <;> omega) _)))⟩
    rw [HX.out, HY.out]
    simp [results, Try.results110, go_sem, *]
set_option maxHeartbeats 400000 in
theorem greaterPt_any (a b c d : Int) (h1 : okPt a b = true) (h2 : okPt c d = true) (w : World) : Calls Try.prog 109 #[.agg #[.int .i64 a, .int .i64 b], .agg #[.int .i64 c, .int .i64 d]] w fun E w' => E = .returned (.agg #[.int .i64 (gtX a b c d), .int .i64 (gtY a b c d)]) ∧ Below w.heap.size w w' := by
  have hle := cp_ge a b c d
  obtain ⟨p0, p1⟩ := cp_bd a b c d
  by_cases h : kk c d ≤ kk a b
  · have HX := hide (show gtX a b c d = a by unfold gtX; rw [if_pos h])
    have HY := hide (show gtY a b c d = b by unfold gtY; rw [if_pos h])
    have q1 : 0 ≤ cpI a b c d := hle.mpr h
    have q2 : decide (0 ≤ cpI a b c d) = true := decide_eq_true q1
    clear h hle
    go_enter Try.func109, Try.ntmps109
    go_wp2_with (first | (go_at_call 111; (with_reducible refine (comparePt_any _ _ _ _ h1 h2 _).mono ?_); rintro e w1 ⟨rfl, hb1⟩; obtain ⟨hc1, hf1⟩ := bcell hb1; have hw1 : Below w.heap.size w w1 := bl_call (by repeat (first | exact Below.refl _ _ | assumption | (refine bl_alloc ?_ (Nat.le_refl _) _) | (refine bl_set ?_ (by simp <;> omega) _))) hb1; have hz1 : w.heap.size + 3 ≤ w1.heap.size := (by have hq := hb1.size; have hr := hw1.size; (try simp at hq); omega); have hza : w.heap.size < w1.heap.size := (by omega); have hzb : w.heap.size + 1 < w1.heap.size := (by omega); have hzc : w.heap.size + 1 + 1 < w1.heap.size := (by omega); have hz4 := hb1.size; (try simp at hz4); (try have hz5 := Nat.lt_of_succ_le hz4)))
    refine bodyPost_ret (v := .agg #[.int .i64 (gtX a b c d), .int .i64 (gtY a b c d)]) ?_ rfl ⟨rfl, (by repeat (first | exact Below.refl _ _ | assumption | (refine bl_alloc ?_ (Nat.le_refl _) _) | (refine bl_set ?_ (by simp <;> omega) _)))⟩
    rw [HX.out, HY.out]
    simp [results, Try.results109, go_sem, *]
  · have HX := hide (show gtX a b c d = c by unfold gtX; rw [if_neg h])
    have HY := hide (show gtY a b c d = d by unfold gtY; rw [if_neg h])
    have q1 : ¬ 0 ≤ cpI a b c d := fun g => h (hle.mp g)
    have q2 : decide (0 ≤ cpI a b c d) = false := decide_eq_false q1
    have q3 : cpI a b c d ≤ -1 := by omega
    clear h hle q1
    go_enter Try.func109, Try.ntmps109
    go_wp2_with (first | (go_at_call 111; (with_reducible refine (comparePt_any _ _ _ _ h1 h2 _).mono ?_); rintro e w1 ⟨rfl, hb1⟩; obtain ⟨hc1, hf1⟩ := bcell hb1; have hw1 : Below w.heap.size w w1 := bl_call (by repeat (first | exact Below.refl _ _ | assumption | (refine bl_alloc ?_ (Nat.le_refl _) _) | (refine bl_set ?_ (by simp <;> omega) _))) hb1; have hz1 : w.heap.size + 3 ≤ w1.heap.size := (by have hq := hb1.size; have hr := hw1.size; (try simp at hq); omega); have hza : w.heap.size < w1.heap.size := (by omega); have hzb : w.heap.size + 1 < w1.heap.size := (by omega); have hzc : w.heap.size + 1 + 1 < w1.heap.size := (by omega); have hz4 := hb1.size; (try simp at hz4); (try have hz5 := Nat.lt_of_succ_le hz4)))
    refine bodyPost_ret (v := .agg #[.int .i64 (gtX a b c d), .int .i64 (gtY a b c d)]) ?_ rfl ⟨rfl, (by repeat (first | exact Below.refl _ _ | assumption | (refine bl_alloc ?_ (Nat.le_refl _) _) | (refine bl_set ?_ (by simp <;> omega) _)))⟩
    rw [HX.out, HY.out]
    simp [results, Try.results109, go_sem, *]
/-- the value of a point -/
def ptV (p : P2) : Value := .agg #[.int .i64 p.1, .int .i64 p.2]
/-- what meeting returns -/
def meetV (a b c d e f g h : Int) : Value := .tuple #[.int .i64 (meetK (a, b) (c, d) (e, f) (g, h)).1, .agg #[.int .i64 (meetK (a, b) (c, d) (e, f) (g, h)).2.1, .int .i64 (meetK (a, b) (c, d) (e, f) (g, h)).2.2]]
def mtV (k x y : Int) : Value := .tuple #[.int .i64 k, .agg #[.int .i64 x, .int .i64 y]]
def loX (a b c d e f g h : Int) : Int := gtX (lsX a b c d) (lsY a b c d) (lsX e f g h) (lsY e f g h)
def loY (a b c d e f g h : Int) : Int := gtY (lsX a b c d) (lsY a b c d) (lsX e f g h) (lsY e f g h)
def hiX (a b c d e f g h : Int) : Int := lsX (gtX a b c d) (gtY a b c d) (gtX e f g h) (gtY e f g h)
def hiY (a b c d e f g h : Int) : Int := lsY (gtX a b c d) (gtY a b c d) (gtX e f g h) (gtY e f g h)
theorem low_eq2 (a b c d e f g h : Int) : lowP (a, b) (c, d) (e, f) (g, h) = (loX a b c d e f g h, loY a b c d e f g h) := by
  unfold lowP; rw [lsP_eq, lsP_eq, gtP_eq]; rfl
theorem high_eq2 (a b c d e f g h : Int) : highP (a, b) (c, d) (e, f) (g, h) = (hiX a b c d e f g h, hiY a b c d e f g h) := by
  unfold highP; rw [gtP_eq, gtP_eq, lsP_eq]; rfl
theorem meet_flat {a b c d e f g h : Int} (z1 : tn a b c d e f = 0) (z2 : tn a b c d g h = 0) (z3 : tn e f g h a b = 0) (z4 : tn e f g h c d = 0) :
    meetV a b c d e f g h = if cpI (loX a b c d e f g h) (loY a b c d e f g h) (hiX a b c d e f g h) (hiY a b c d e f g h) = 0 then mtV 1 (loX a b c d e f g h) (loY a b c d e f g h)
      else if cpI (loX a b c d e f g h) (loY a b c d e f g h) (hiX a b c d e f g h) (hiY a b c d e f g h) = -1 then mtV 3 (loX a b c d e f g h) (loY a b c d e f g h) else mtV 0 0 0 := by
  have hf : flatT (a, b) (c, d) (e, f) (g, h) := ⟨z1, z2, z3, z4⟩
  have e1 : kp (lowP (a, b) (c, d) (e, f) (g, h)) = kk (loX a b c d e f g h) (loY a b c d e f g h) := by rw [low_eq2]; rfl
  have e2 : kp (highP (a, b) (c, d) (e, f) (g, h)) = kk (hiX a b c d e f g h) (hiY a b c d e f g h) := by rw [high_eq2]; rfl
  unfold meetV meetK
  rw [if_pos hf, e1, e2, low_eq2]
  rcases Int.lt_trichotomy (kk (loX a b c d e f g h) (loY a b c d e f g h)) (kk (hiX a b c d e f g h) (hiY a b c d e f g h)) with q | q | q
  · have s : cpI (loX a b c d e f g h) (loY a b c d e f g h) (hiX a b c d e f g h) (hiY a b c d e f g h) = -1 := by unfold cpI sg; rw [if_pos (by omega)]
    rw [s, if_neg (by omega), if_pos q, if_neg (by decide), if_pos rfl]; rfl
  · have s : cpI (loX a b c d e f g h) (loY a b c d e f g h) (hiX a b c d e f g h) (hiY a b c d e f g h) = 0 := by unfold cpI sg; rw [if_neg (by omega), if_neg (by omega)]
    rw [s, if_pos q, if_pos rfl]; rfl
  · have s : cpI (loX a b c d e f g h) (loY a b c d e f g h) (hiX a b c d e f g h) (hiY a b c d e f g h) = 1 := by unfold cpI sg; rw [if_neg (by omega), if_pos (by omega)]
    rw [s, if_neg (by omega), if_neg (by omega), if_neg (by decide), if_neg (by decide)]; rfl
theorem meet_bent {a b c d e f g h : Int} (z : ¬ (tn a b c d e f = 0 ∧ tn a b c d g h = 0 ∧ tn e f g h a b = 0 ∧ tn e f g h c d = 0)) :
    meetV a b c d e f g h = if sg (tn a b c d e f) * sg (tn a b c d g h) < 0 ∧ sg (tn e f g h a b) * sg (tn e f g h c d) < 0 then mtV 2 0 0
      else if onB a b c d e f = true then mtV 1 e f else if onB a b c d g h = true then mtV 1 g h else if onB e f g h a b = true then mtV 1 a b else if onB e f g h c d = true then mtV 1 c d else mtV 0 0 0 := by
  have hf : ¬ flatT (a, b) (c, d) (e, f) (g, h) := z
  unfold meetV meetK
  rw [if_neg hf]
  by_cases q : sg (tn a b c d e f) * sg (tn a b c d g h) < 0 ∧ sg (tn e f g h a b) * sg (tn e f g h c d) < 0
  · have q' : crossT (a, b) (c, d) (e, f) (g, h) := q
    rw [if_pos q, if_pos q']; rfl
  · have q' : ¬ crossT (a, b) (c, d) (e, f) (g, h) := q
    rw [if_neg q, if_neg q']
    show _ = if onP (a, b) (c, d) (e, f) = true then _ else if onP (a, b) (c, d) (g, h) = true then _ else if onP (e, f) (g, h) (a, b) = true then _ else if onP (e, f) (g, h) (c, d) = true then _ else _
    cases onP (a, b) (c, d) (e, f) <;> cases onP (a, b) (c, d) (g, h) <;> cases onP (e, f) (g, h) (a, b) <;> cases onP (e, f) (g, h) (c, d) <;> rfl
theorem sg_ne {x : Int} (h : ¬ x = 0) : (sg x == 0) = false := by
  unfold sg; split <;> (try split) <;> simp <;> omega
theorem sg_is {x : Int} (h : x = 0) : (sg x == 0) = true := by subst h; rfl
theorem sg_mul (x y : Int) : -1 ≤ sg x * sg y ∧ sg x * sg y ≤ 1 := by
  have h1 := sg_bd x
  have h2 := sg_bd y
  have := mul_bd (sg x) (sg y) 1 1 (by omega) (by omega) (by omega) (by omega)
  omega
set_option maxHeartbeats 4000000 in
theorem meeting_flat (a b c d e f g h : Int) (h1 : okPt a b = true) (h2 : okPt c d = true) (h3 : okPt e f = true) (h4 : okPt g h = true) (z1 : tn a b c d e f = 0) (z2 : tn a b c d g h = 0) (z3 : tn e f g h a b = 0) (z4 : tn e f g h c d = 0) (w : World) :
    Calls Try.prog 69 #[.agg #[.int .i64 a, .int .i64 b], .agg #[.int .i64 c, .int .i64 d], .agg #[.int .i64 e, .int .i64 f], .agg #[.int .i64 g, .int .i64 h]] w fun E w' => E = .returned (meetV a b c d e f g h) ∧ Below w.heap.size w w' := by
  have HM' := meet_flat z1 z2 z3 z4
  unfold loX loY hiX hiY at HM'
  have HM := hide HM'
  clear HM'
  have q1 := sg_is z1
  have q2 := sg_is z2
  have q3 := sg_is z3
  have q4 := sg_is z4
  have s1 := ls_ok h1 h2
  have s2 := ls_ok h3 h4
  have s3 := gt_ok h1 h2
  have s4 := gt_ok h3 h4
  have s5 : okPt (gtX (lsX a b c d) (lsY a b c d) (lsX e f g h) (lsY e f g h)) (gtY (lsX a b c d) (lsY a b c d) (lsX e f g h) (lsY e f g h)) = true := gt_ok s1 s2
  have s6 : okPt (lsX (gtX a b c d) (gtY a b c d) (gtX e f g h) (gtY e f g h)) (lsY (gtX a b c d) (gtY a b c d) (gtX e f g h) (gtY e f g h)) = true := ls_ok s3 s4
  have b5 := cp_bd (gtX (lsX a b c d) (lsY a b c d) (lsX e f g h) (lsY e f g h)) (gtY (lsX a b c d) (lsY a b c d) (lsX e f g h) (lsY e f g h)) (lsX (gtX a b c d) (gtY a b c d) (gtX e f g h) (gtY e f g h)) (lsY (gtX a b c d) (gtY a b c d) (gtX e f g h) (gtY e f g h))
  clear z1 z2 z3 z4
  rcases (show cpI (gtX (lsX a b c d) (lsY a b c d) (lsX e f g h) (lsY e f g h)) (gtY (lsX a b c d) (lsY a b c d) (lsX e f g h) (lsY e f g h)) (lsX (gtX a b c d) (gtY a b c d) (gtX e f g h) (gtY e f g h)) (lsY (gtX a b c d) (gtY a b c d) (gtX e f g h) (gtY e f g h)) = 0 ∨ cpI (gtX (lsX a b c d) (lsY a b c d) (lsX e f g h) (lsY e f g h)) (gtY (lsX a b c d) (lsY a b c d) (lsX e f g h) (lsY e f g h)) (lsX (gtX a b c d) (gtY a b c d) (gtX e f g h) (gtY e f g h)) (lsY (gtX a b c d) (gtY a b c d) (gtX e f g h) (gtY e f g h)) = -1 ∨ cpI (gtX (lsX a b c d) (lsY a b c d) (lsX e f g h) (lsY e f g h)) (gtY (lsX a b c d) (lsY a b c d) (lsX e f g h) (lsY e f g h)) (lsX (gtX a b c d) (gtY a b c d) (gtX e f g h) (gtY e f g h)) (lsY (gtX a b c d) (gtY a b c d) (gtX e f g h) (gtY e f g h)) = 1 by omega) with hc | hc | hc
  · have HR := hide (show meetV a b c d e f g h = mtV 1 (gtX (lsX a b c d) (lsY a b c d) (lsX e f g h) (lsY e f g h)) (gtY (lsX a b c d) (lsY a b c d) (lsX e f g h) (lsY e f g h)) by rw [HM.out, if_pos hc])
    have r1 : (cpI (gtX (lsX a b c d) (lsY a b c d) (lsX e f g h) (lsY e f g h)) (gtY (lsX a b c d) (lsY a b c d) (lsX e f g h) (lsY e f g h)) (lsX (gtX a b c d) (gtY a b c d) (gtX e f g h) (gtY e f g h)) (lsY (gtX a b c d) (gtY a b c d) (gtX e f g h) (gtY e f g h)) == 0) = true := by rw [hc]; rfl
    clear HM hc b5
    go_enter Try.func69, Try.ntmps69
    go_wp2
    refine wp_region_quiet_below (by kernel_rfl) (by kernel_rfl) ?_
    repeat (first | go_big_quiet_step ((first | (go_at_call 95; with_reducible exact Calls.regrown_of (turn_any _ _ _ _ _ _ (by assumption) (by assumption) (by assumption) _)) | (go_at_call 90; with_reducible exact Calls.regrown_of (same_below (sign64_any _ _))))) | quiet_step ((first | (go_at_call 95; with_reducible exact Calls.regrown_of (turn_any _ _ _ _ _ _ (by assumption) (by assumption) (by assumption) _)) | (go_at_call 90; with_reducible exact Calls.regrown_of (same_below (sign64_any _ _))))))
    refine wpQuiet_nil ?_
    intro w1 hw1
    obtain ⟨pq, hpq⟩ := hw1
    have hb1 := below_of hpq
    clear hpq pq
    have hz4 := hb1.size
    (try simp at hz4)
    obtain ⟨hc1, hf1⟩ := bcell hb1
    have hw1 : Below w.heap.size w w1 := bl_call (by repeat (first | exact Below.refl _ _ | assumption | (refine bl_alloc ?_ (Nat.le_refl _) _) | (refine bl_set ?_ (by simp <;> omega) _))) hb1
    have hz1 : w.heap.size + 5 ≤ w1.heap.size := (by have hq := hb1.size; have hr := hw1.size; (try simp at hq); omega)
    have hza : w.heap.size < w1.heap.size := (by omega)
    have hzb : w.heap.size + 1 < w1.heap.size := (by omega)
    have hzc : w.heap.size + 1 + 1 < w1.heap.size := (by omega)
    have hzd : w.heap.size + 1 + 1 + 1 < w1.heap.size := (by omega)
    have hze : w.heap.size + 1 + 1 + 1 + 1 < w1.heap.size := (by omega)
    go_wp2
    refine wp_region_made 7 _ _ (.cells #[.int .i64 0, .int .i64 0] 25) (.cells #[.int .i64 (gtX (lsX a b c d) (lsY a b c d) (lsX e f g h) (lsY e f g h)), .int .i64 (gtY (lsX a b c d) (lsY a b c d) (lsX e f g h) (lsY e f g h))] 25) (by kernel_rfl) (by kernel_rfl) rfl rfl (fun _ _ => by kernel_rfl) ?_
    simp only [List.take_succ_cons, List.take_zero, List.drop_succ_cons, List.drop_zero]
    repeat (refine wpSteady_step (fun K hK => ?_); go_simp; first | (refine hK _ ?_; clear hK K) | (apply Exists.intro; refine ⟨fun _ => ?_, hK _ ?_⟩; (first | (go_at_call 110; with_reducible exact keeps_of (lesserPt_any _ _ _ _ (by assumption) (by assumption) _)) | (go_at_call 109; with_reducible exact keeps_of (greaterPt_any _ _ _ _ (by assumption) (by assumption) _))); clear hK K))
    refine wpSteady_nil ?_
    refine ⟨?_, ?_⟩
    · intro gx w1 _ hx
      have hk := cell_blk hx
      have hf := frozen_blk hx
      exact ⟨(World.setCell (World.setCell w1 ⟨gx, 0, none⟩ (.int .i64 (gtX (lsX a b c d) (lsY a b c d) (lsX e f g h) (lsY e f g h)))) ⟨gx, 1, none⟩ (.int .i64 (gtY (lsX a b c d) (lsY a b c d) (lsX e f g h) (lsY e f g h)))), (by simp [go_sem, hk, hf]), (heap_set (heap_set hx 0 _) 1 _), (only_set ((only_set (only_refl w1 gx) 0 _)) 1 _)⟩
    intro gx w1 hgx hlx hb1 hx
    have hkx := cell_blk hx
    have hfx := frozen_blk hx
    clear hx
    try simp at hgx
    obtain ⟨hc1, hf1⟩ := bcell hb1
    have hw1 : Below w.heap.size w w1 := bl_call (by repeat (first | exact Below.refl _ _ | assumption | (refine bl_alloc ?_ (Nat.le_refl _) _) | (refine bl_set ?_ (by simp <;> omega) _))) hb1
    have hz1 : w.heap.size + 5 ≤ w1.heap.size := (by have hq := hb1.size; have hr := hw1.size; (try simp at hq); omega)
    have hza : w.heap.size < w1.heap.size := (by omega)
    have hzb : w.heap.size + 1 < w1.heap.size := (by omega)
    have hzc : w.heap.size + 1 + 1 < w1.heap.size := (by omega)
    have hzd : w.heap.size + 1 + 1 + 1 < w1.heap.size := (by omega)
    have hze : w.heap.size + 1 + 1 + 1 + 1 < w1.heap.size := (by omega)
    go_wp2
    refine wp_region_made 7 _ _ (.cells #[.int .i64 0, .int .i64 0] 25) (.cells #[.int .i64 (lsX (gtX a b c d) (gtY a b c d) (gtX e f g h) (gtY e f g h)), .int .i64 (lsY (gtX a b c d) (gtY a b c d) (gtX e f g h) (gtY e f g h))] 25) (by kernel_rfl) (by kernel_rfl) rfl rfl (fun _ _ => by kernel_rfl) ?_
    simp only [List.take_succ_cons, List.take_zero, List.drop_succ_cons, List.drop_zero]
    repeat (refine wpSteady_step (fun K hK => ?_); go_simp; first | (refine hK _ ?_; clear hK K) | (apply Exists.intro; refine ⟨fun _ => ?_, hK _ ?_⟩; (first | (go_at_call 110; with_reducible exact keeps_of (lesserPt_any _ _ _ _ (by assumption) (by assumption) _)) | (go_at_call 109; with_reducible exact keeps_of (greaterPt_any _ _ _ _ (by assumption) (by assumption) _))); clear hK K))
    refine wpSteady_nil ?_
    refine ⟨?_, ?_⟩
    · intro gy w1 _ hx
      have hk := cell_blk hx
      have hf := frozen_blk hx
      exact ⟨(World.setCell (World.setCell w1 ⟨gy, 0, none⟩ (.int .i64 (lsX (gtX a b c d) (gtY a b c d) (gtX e f g h) (gtY e f g h)))) ⟨gy, 1, none⟩ (.int .i64 (lsY (gtX a b c d) (gtY a b c d) (gtX e f g h) (gtY e f g h)))), (by simp [go_sem, hk, hf]), (heap_set (heap_set hx 0 _) 1 _), (only_set ((only_set (only_refl w1 gy) 0 _)) 1 _)⟩
    intro gy w1 hgy hly hb1 hx
    have hky := cell_blk hx
    have hfy := frozen_blk hx
    clear hx
    try simp at hgy
    obtain ⟨hc1, hf1⟩ := bcell hb1
    have hw1 : Below w.heap.size w w1 := bl_call (by repeat (first | exact Below.refl _ _ | assumption | (refine bl_alloc ?_ (Nat.le_refl _) _) | (refine bl_set ?_ (by simp <;> omega) _))) hb1
    have hz1 : w.heap.size + 6 ≤ w1.heap.size := (by have hq := hb1.size; have hr := hw1.size; (try simp at hq); omega)
    have hza : w.heap.size < w1.heap.size := (by omega)
    have hzb : w.heap.size + 1 < w1.heap.size := (by omega)
    have hzc : w.heap.size + 1 + 1 < w1.heap.size := (by omega)
    have hzd : w.heap.size + 1 + 1 + 1 < w1.heap.size := (by omega)
    have hze : w.heap.size + 1 + 1 + 1 + 1 < w1.heap.size := (by omega)
    have hzf : w.heap.size + 1 + 1 + 1 + 1 + 1 < w1.heap.size := (by omega)
    have hlx2 : gx < w1.heap.size := by have hq := hb1.size; (try simp at hq); omega
    go_wp2_with (first | (go_at_call 111; (with_reducible refine (comparePt_any _ _ _ _ (by assumption) (by assumption) _).mono ?_); rintro e w1 ⟨rfl, hb1⟩; obtain ⟨hc1, hf1⟩ := bcell hb1; have hw1 : Below w.heap.size w w1 := bl_call (by repeat (first | exact Below.refl _ _ | assumption | (refine bl_alloc ?_ (Nat.le_refl _) _) | (refine bl_set ?_ (by simp <;> omega) _))) hb1; have hz1 : w.heap.size + 6 ≤ w1.heap.size := (by have hq := hb1.size; have hr := hw1.size; (try simp at hq); omega); have hza : w.heap.size < w1.heap.size := (by omega); have hzb : w.heap.size + 1 < w1.heap.size := (by omega); have hzc : w.heap.size + 1 + 1 < w1.heap.size := (by omega); have hzd : w.heap.size + 1 + 1 + 1 < w1.heap.size := (by omega); have hze : w.heap.size + 1 + 1 + 1 + 1 < w1.heap.size := (by omega); have hzf : w.heap.size + 1 + 1 + 1 + 1 + 1 < w1.heap.size := (by omega); have hz4 := hb1.size; (try simp at hz4); (try have hz5 := Nat.lt_of_succ_le hz4)))
    have hlx3 : gx < w1.heap.size := by have hq := hb1.size; (try simp at hq); omega
    go_region
    all_goals (try go_wp2)
    all_goals
      refine bodyPost_ret (v := meetV a b c d e f g h) ?_ rfl ⟨rfl, (by repeat (first | exact Below.refl _ _ | assumption | (refine Below.drew ?_) | (refine bl_alloc ?_ (Nat.le_refl _) _) | (refine bl_set ?_ (by simp <;> omega) _)))⟩
      rw [HR.out]; simp [results, Try.results69, go_sem, mtV, *]
  · have HR := hide (show meetV a b c d e f g h = mtV 3 (gtX (lsX a b c d) (lsY a b c d) (lsX e f g h) (lsY e f g h)) (gtY (lsX a b c d) (lsY a b c d) (lsX e f g h) (lsY e f g h)) by rw [HM.out, if_neg (by omega), if_pos hc])
    have r1 : (cpI (gtX (lsX a b c d) (lsY a b c d) (lsX e f g h) (lsY e f g h)) (gtY (lsX a b c d) (lsY a b c d) (lsX e f g h) (lsY e f g h)) (lsX (gtX a b c d) (gtY a b c d) (gtX e f g h) (gtY e f g h)) (lsY (gtX a b c d) (gtY a b c d) (gtX e f g h) (gtY e f g h)) == 0) = false := by rw [hc]; rfl
    have r2 : (cpI (gtX (lsX a b c d) (lsY a b c d) (lsX e f g h) (lsY e f g h)) (gtY (lsX a b c d) (lsY a b c d) (lsX e f g h) (lsY e f g h)) (lsX (gtX a b c d) (gtY a b c d) (gtX e f g h) (gtY e f g h)) (lsY (gtX a b c d) (gtY a b c d) (gtX e f g h) (gtY e f g h)) == -1) = true := by rw [hc]; rfl
    clear HM hc b5
    go_enter Try.func69, Try.ntmps69
    go_wp2
    refine wp_region_quiet_below (by kernel_rfl) (by kernel_rfl) ?_
    repeat (first | go_big_quiet_step ((first | (go_at_call 95; with_reducible exact Calls.regrown_of (turn_any _ _ _ _ _ _ (by assumption) (by assumption) (by assumption) _)) | (go_at_call 90; with_reducible exact Calls.regrown_of (same_below (sign64_any _ _))))) | quiet_step ((first | (go_at_call 95; with_reducible exact Calls.regrown_of (turn_any _ _ _ _ _ _ (by assumption) (by assumption) (by assumption) _)) | (go_at_call 90; with_reducible exact Calls.regrown_of (same_below (sign64_any _ _))))))
    refine wpQuiet_nil ?_
    intro w1 hw1
    obtain ⟨pq, hpq⟩ := hw1
    have hb1 := below_of hpq
    clear hpq pq
    have hz4 := hb1.size
    (try simp at hz4)
    obtain ⟨hc1, hf1⟩ := bcell hb1
    have hw1 : Below w.heap.size w w1 := bl_call (by repeat (first | exact Below.refl _ _ | assumption | (refine bl_alloc ?_ (Nat.le_refl _) _) | (refine bl_set ?_ (by simp <;> omega) _))) hb1
    have hz1 : w.heap.size + 5 ≤ w1.heap.size := (by have hq := hb1.size; have hr := hw1.size; (try simp at hq); omega)
    have hza : w.heap.size < w1.heap.size := (by omega)
    have hzb : w.heap.size + 1 < w1.heap.size := (by omega)
    have hzc : w.heap.size + 1 + 1 < w1.heap.size := (by omega)
    have hzd : w.heap.size + 1 + 1 + 1 < w1.heap.size := (by omega)
    have hze : w.heap.size + 1 + 1 + 1 + 1 < w1.heap.size := (by omega)
    go_wp2
    refine wp_region_made 7 _ _ (.cells #[.int .i64 0, .int .i64 0] 25) (.cells #[.int .i64 (gtX (lsX a b c d) (lsY a b c d) (lsX e f g h) (lsY e f g h)), .int .i64 (gtY (lsX a b c d) (lsY a b c d) (lsX e f g h) (lsY e f g h))] 25) (by kernel_rfl) (by kernel_rfl) rfl rfl (fun _ _ => by kernel_rfl) ?_
    simp only [List.take_succ_cons, List.take_zero, List.drop_succ_cons, List.drop_zero]
    repeat (refine wpSteady_step (fun K hK => ?_); go_simp; first | (refine hK _ ?_; clear hK K) | (apply Exists.intro; refine ⟨fun _ => ?_, hK _ ?_⟩; (first | (go_at_call 110; with_reducible exact keeps_of (lesserPt_any _ _ _ _ (by assumption) (by assumption) _)) | (go_at_call 109; with_reducible exact keeps_of (greaterPt_any _ _ _ _ (by assumption) (by assumption) _))); clear hK K))
    refine wpSteady_nil ?_
    refine ⟨?_, ?_⟩
    · intro gx w1 _ hx
      have hk := cell_blk hx
      have hf := frozen_blk hx
      exact ⟨(World.setCell (World.setCell w1 ⟨gx, 0, none⟩ (.int .i64 (gtX (lsX a b c d) (lsY a b c d) (lsX e f g h) (lsY e f g h)))) ⟨gx, 1, none⟩ (.int .i64 (gtY (lsX a b c d) (lsY a b c d) (lsX e f g h) (lsY e f g h)))), (by simp [go_sem, hk, hf]), (heap_set (heap_set hx 0 _) 1 _), (only_set ((only_set (only_refl w1 gx) 0 _)) 1 _)⟩
    intro gx w1 hgx hlx hb1 hx
    have hkx := cell_blk hx
    have hfx := frozen_blk hx
    clear hx
    try simp at hgx
    obtain ⟨hc1, hf1⟩ := bcell hb1
    have hw1 : Below w.heap.size w w1 := bl_call (by repeat (first | exact Below.refl _ _ | assumption | (refine bl_alloc ?_ (Nat.le_refl _) _) | (refine bl_set ?_ (by simp <;> omega) _))) hb1
    have hz1 : w.heap.size + 5 ≤ w1.heap.size := (by have hq := hb1.size; have hr := hw1.size; (try simp at hq); omega)
    have hza : w.heap.size < w1.heap.size := (by omega)
    have hzb : w.heap.size + 1 < w1.heap.size := (by omega)
    have hzc : w.heap.size + 1 + 1 < w1.heap.size := (by omega)
    have hzd : w.heap.size + 1 + 1 + 1 < w1.heap.size := (by omega)
    have hze : w.heap.size + 1 + 1 + 1 + 1 < w1.heap.size := (by omega)
    go_wp2
    refine wp_region_made 7 _ _ (.cells #[.int .i64 0, .int .i64 0] 25) (.cells #[.int .i64 (lsX (gtX a b c d) (gtY a b c d) (gtX e f g h) (gtY e f g h)), .int .i64 (lsY (gtX a b c d) (gtY a b c d) (gtX e f g h) (gtY e f g h))] 25) (by kernel_rfl) (by kernel_rfl) rfl rfl (fun _ _ => by kernel_rfl) ?_
    simp only [List.take_succ_cons, List.take_zero, List.drop_succ_cons, List.drop_zero]
    repeat (refine wpSteady_step (fun K hK => ?_); go_simp; first | (refine hK _ ?_; clear hK K) | (apply Exists.intro; refine ⟨fun _ => ?_, hK _ ?_⟩; (first | (go_at_call 110; with_reducible exact keeps_of (lesserPt_any _ _ _ _ (by assumption) (by assumption) _)) | (go_at_call 109; with_reducible exact keeps_of (greaterPt_any _ _ _ _ (by assumption) (by assumption) _))); clear hK K))
    refine wpSteady_nil ?_
    refine ⟨?_, ?_⟩
    · intro gy w1 _ hx
      have hk := cell_blk hx
      have hf := frozen_blk hx
      exact ⟨(World.setCell (World.setCell w1 ⟨gy, 0, none⟩ (.int .i64 (lsX (gtX a b c d) (gtY a b c d) (gtX e f g h) (gtY e f g h)))) ⟨gy, 1, none⟩ (.int .i64 (lsY (gtX a b c d) (gtY a b c d) (gtX e f g h) (gtY e f g h)))), (by simp [go_sem, hk, hf]), (heap_set (heap_set hx 0 _) 1 _), (only_set ((only_set (only_refl w1 gy) 0 _)) 1 _)⟩
    intro gy w1 hgy hly hb1 hx
    have hky := cell_blk hx
    have hfy := frozen_blk hx
    clear hx
    try simp at hgy
    obtain ⟨hc1, hf1⟩ := bcell hb1
    have hw1 : Below w.heap.size w w1 := bl_call (by repeat (first | exact Below.refl _ _ | assumption | (refine bl_alloc ?_ (Nat.le_refl _) _) | (refine bl_set ?_ (by simp <;> omega) _))) hb1
    have hz1 : w.heap.size + 6 ≤ w1.heap.size := (by have hq := hb1.size; have hr := hw1.size; (try simp at hq); omega)
    have hza : w.heap.size < w1.heap.size := (by omega)
    have hzb : w.heap.size + 1 < w1.heap.size := (by omega)
    have hzc : w.heap.size + 1 + 1 < w1.heap.size := (by omega)
    have hzd : w.heap.size + 1 + 1 + 1 < w1.heap.size := (by omega)
    have hze : w.heap.size + 1 + 1 + 1 + 1 < w1.heap.size := (by omega)
    have hzf : w.heap.size + 1 + 1 + 1 + 1 + 1 < w1.heap.size := (by omega)
    have hlx2 : gx < w1.heap.size := by have hq := hb1.size; (try simp at hq); omega
    go_wp2_with (first | (go_at_call 111; (with_reducible refine (comparePt_any _ _ _ _ (by assumption) (by assumption) _).mono ?_); rintro e w1 ⟨rfl, hb1⟩; obtain ⟨hc1, hf1⟩ := bcell hb1; have hw1 : Below w.heap.size w w1 := bl_call (by repeat (first | exact Below.refl _ _ | assumption | (refine bl_alloc ?_ (Nat.le_refl _) _) | (refine bl_set ?_ (by simp <;> omega) _))) hb1; have hz1 : w.heap.size + 6 ≤ w1.heap.size := (by have hq := hb1.size; have hr := hw1.size; (try simp at hq); omega); have hza : w.heap.size < w1.heap.size := (by omega); have hzb : w.heap.size + 1 < w1.heap.size := (by omega); have hzc : w.heap.size + 1 + 1 < w1.heap.size := (by omega); have hzd : w.heap.size + 1 + 1 + 1 < w1.heap.size := (by omega); have hze : w.heap.size + 1 + 1 + 1 + 1 < w1.heap.size := (by omega); have hzf : w.heap.size + 1 + 1 + 1 + 1 + 1 < w1.heap.size := (by omega); have hz4 := hb1.size; (try simp at hz4); (try have hz5 := Nat.lt_of_succ_le hz4)))
    have hlx3 : gx < w1.heap.size := by have hq := hb1.size; (try simp at hq); omega
    go_region
    all_goals (try go_wp2)
    all_goals
      refine bodyPost_ret (v := meetV a b c d e f g h) ?_ rfl ⟨rfl, (by repeat (first | exact Below.refl _ _ | assumption | (refine Below.drew ?_) | (refine bl_alloc ?_ (Nat.le_refl _) _) | (refine bl_set ?_ (by simp <;> omega) _)))⟩
      rw [HR.out]; simp [results, Try.results69, go_sem, mtV, *]
  · have HR := hide (show meetV a b c d e f g h = mtV 0 0 0 by rw [HM.out, if_neg (by omega), if_neg (by omega)])
    have r1 : (cpI (gtX (lsX a b c d) (lsY a b c d) (lsX e f g h) (lsY e f g h)) (gtY (lsX a b c d) (lsY a b c d) (lsX e f g h) (lsY e f g h)) (lsX (gtX a b c d) (gtY a b c d) (gtX e f g h) (gtY e f g h)) (lsY (gtX a b c d) (gtY a b c d) (gtX e f g h) (gtY e f g h)) == 0) = false := by rw [hc]; rfl
    have r2 : (cpI (gtX (lsX a b c d) (lsY a b c d) (lsX e f g h) (lsY e f g h)) (gtY (lsX a b c d) (lsY a b c d) (lsX e f g h) (lsY e f g h)) (lsX (gtX a b c d) (gtY a b c d) (gtX e f g h) (gtY e f g h)) (lsY (gtX a b c d) (gtY a b c d) (gtX e f g h) (gtY e f g h)) == -1) = false := by rw [hc]; rfl
    clear HM hc b5
    go_enter Try.func69, Try.ntmps69
    go_wp2
    refine wp_region_quiet_below (by kernel_rfl) (by kernel_rfl) ?_
    repeat (first | go_big_quiet_step ((first | (go_at_call 95; with_reducible exact Calls.regrown_of (turn_any _ _ _ _ _ _ (by assumption) (by assumption) (by assumption) _)) | (go_at_call 90; with_reducible exact Calls.regrown_of (same_below (sign64_any _ _))))) | quiet_step ((first | (go_at_call 95; with_reducible exact Calls.regrown_of (turn_any _ _ _ _ _ _ (by assumption) (by assumption) (by assumption) _)) | (go_at_call 90; with_reducible exact Calls.regrown_of (same_below (sign64_any _ _))))))
    refine wpQuiet_nil ?_
    intro w1 hw1
    obtain ⟨pq, hpq⟩ := hw1
    have hb1 := below_of hpq
    clear hpq pq
    have hz4 := hb1.size
    (try simp at hz4)
    obtain ⟨hc1, hf1⟩ := bcell hb1
    have hw1 : Below w.heap.size w w1 := bl_call (by repeat (first | exact Below.refl _ _ | assumption | (refine bl_alloc ?_ (Nat.le_refl _) _) | (refine bl_set ?_ (by simp <;> omega) _))) hb1
    have hz1 : w.heap.size + 5 ≤ w1.heap.size := (by have hq := hb1.size; have hr := hw1.size; (try simp at hq); omega)
    have hza : w.heap.size < w1.heap.size := (by omega)
    have hzb : w.heap.size + 1 < w1.heap.size := (by omega)
    have hzc : w.heap.size + 1 + 1 < w1.heap.size := (by omega)
    have hzd : w.heap.size + 1 + 1 + 1 < w1.heap.size := (by omega)
    have hze : w.heap.size + 1 + 1 + 1 + 1 < w1.heap.size := (by omega)
    go_wp2
    refine wp_region_made 7 _ _ (.cells #[.int .i64 0, .int .i64 0] 25) (.cells #[.int .i64 (gtX (lsX a b c d) (lsY a b c d) (lsX e f g h) (lsY e f g h)), .int .i64 (gtY (lsX a b c d) (lsY a b c d) (lsX e f g h) (lsY e f g h))] 25) (by kernel_rfl) (by kernel_rfl) rfl rfl (fun _ _ => by kernel_rfl) ?_
    simp only [List.take_succ_cons, List.take_zero, List.drop_succ_cons, List.drop_zero]
    repeat (refine wpSteady_step (fun K hK => ?_); go_simp; first | (refine hK _ ?_; clear hK K) | (apply Exists.intro; refine ⟨fun _ => ?_, hK _ ?_⟩; (first | (go_at_call 110; with_reducible exact keeps_of (lesserPt_any _ _ _ _ (by assumption) (by assumption) _)) | (go_at_call 109; with_reducible exact keeps_of (greaterPt_any _ _ _ _ (by assumption) (by assumption) _))); clear hK K))
    refine wpSteady_nil ?_
    refine ⟨?_, ?_⟩
    · intro gx w1 _ hx
      have hk := cell_blk hx
      have hf := frozen_blk hx
      exact ⟨(World.setCell (World.setCell w1 ⟨gx, 0, none⟩ (.int .i64 (gtX (lsX a b c d) (lsY a b c d) (lsX e f g h) (lsY e f g h)))) ⟨gx, 1, none⟩ (.int .i64 (gtY (lsX a b c d) (lsY a b c d) (lsX e f g h) (lsY e f g h)))), (by simp [go_sem, hk, hf]), (heap_set (heap_set hx 0 _) 1 _), (only_set ((only_set (only_refl w1 gx) 0 _)) 1 _)⟩
    intro gx w1 hgx hlx hb1 hx
    have hkx := cell_blk hx
    have hfx := frozen_blk hx
    clear hx
    try simp at hgx
    obtain ⟨hc1, hf1⟩ := bcell hb1
    have hw1 : Below w.heap.size w w1 := bl_call (by repeat (first | exact Below.refl _ _ | assumption | (refine bl_alloc ?_ (Nat.le_refl _) _) | (refine bl_set ?_ (by simp <;> omega) _))) hb1
    have hz1 : w.heap.size + 5 ≤ w1.heap.size := (by have hq := hb1.size; have hr := hw1.size; (try simp at hq); omega)
    have hza : w.heap.size < w1.heap.size := (by omega)
    have hzb : w.heap.size + 1 < w1.heap.size := (by omega)
    have hzc : w.heap.size + 1 + 1 < w1.heap.size := (by omega)
    have hzd : w.heap.size + 1 + 1 + 1 < w1.heap.size := (by omega)
    have hze : w.heap.size + 1 + 1 + 1 + 1 < w1.heap.size := (by omega)
    go_wp2
    refine wp_region_made 7 _ _ (.cells #[.int .i64 0, .int .i64 0] 25) (.cells #[.int .i64 (lsX (gtX a b c d) (gtY a b c d) (gtX e f g h) (gtY e f g h)), .int .i64 (lsY (gtX a b c d) (gtY a b c d) (gtX e f g h) (gtY e f g h))] 25) (by kernel_rfl) (by kernel_rfl) rfl rfl (fun _ _ => by kernel_rfl) ?_
    simp only [List.take_succ_cons, List.take_zero, List.drop_succ_cons, List.drop_zero]
    repeat (refine wpSteady_step (fun K hK => ?_); go_simp; first | (refine hK _ ?_; clear hK K) | (apply Exists.intro; refine ⟨fun _ => ?_, hK _ ?_⟩; (first | (go_at_call 110; with_reducible exact keeps_of (lesserPt_any _ _ _ _ (by assumption) (by assumption) _)) | (go_at_call 109; with_reducible exact keeps_of (greaterPt_any _ _ _ _ (by assumption) (by assumption) _))); clear hK K))
    refine wpSteady_nil ?_
    refine ⟨?_, ?_⟩
    · intro gy w1 _ hx
      have hk := cell_blk hx
      have hf := frozen_blk hx
      exact ⟨(World.setCell (World.setCell w1 ⟨gy, 0, none⟩ (.int .i64 (lsX (gtX a b c d) (gtY a b c d) (gtX e f g h) (gtY e f g h)))) ⟨gy, 1, none⟩ (.int .i64 (lsY (gtX a b c d) (gtY a b c d) (gtX e f g h) (gtY e f g h)))), (by simp [go_sem, hk, hf]), (heap_set (heap_set hx 0 _) 1 _), (only_set ((only_set (only_refl w1 gy) 0 _)) 1 _)⟩
    intro gy w1 hgy hly hb1 hx
    have hky := cell_blk hx
    have hfy := frozen_blk hx
    clear hx
    try simp at hgy
    obtain ⟨hc1, hf1⟩ := bcell hb1
    have hw1 : Below w.heap.size w w1 := bl_call (by repeat (first | exact Below.refl _ _ | assumption | (refine bl_alloc ?_ (Nat.le_refl _) _) | (refine bl_set ?_ (by simp <;> omega) _))) hb1
    have hz1 : w.heap.size + 6 ≤ w1.heap.size := (by have hq := hb1.size; have hr := hw1.size; (try simp at hq); omega)
    have hza : w.heap.size < w1.heap.size := (by omega)
    have hzb : w.heap.size + 1 < w1.heap.size := (by omega)
    have hzc : w.heap.size + 1 + 1 < w1.heap.size := (by omega)
    have hzd : w.heap.size + 1 + 1 + 1 < w1.heap.size := (by omega)
    have hze : w.heap.size + 1 + 1 + 1 + 1 < w1.heap.size := (by omega)
    have hzf : w.heap.size + 1 + 1 + 1 + 1 + 1 < w1.heap.size := (by omega)
    have hlx2 : gx < w1.heap.size := by have hq := hb1.size; (try simp at hq); omega
    go_wp2_with (first | (go_at_call 111; (with_reducible refine (comparePt_any _ _ _ _ (by assumption) (by assumption) _).mono ?_); rintro e w1 ⟨rfl, hb1⟩; obtain ⟨hc1, hf1⟩ := bcell hb1; have hw1 : Below w.heap.size w w1 := bl_call (by repeat (first | exact Below.refl _ _ | assumption | (refine bl_alloc ?_ (Nat.le_refl _) _) | (refine bl_set ?_ (by simp <;> omega) _))) hb1; have hz1 : w.heap.size + 6 ≤ w1.heap.size := (by have hq := hb1.size; have hr := hw1.size; (try simp at hq); omega); have hza : w.heap.size < w1.heap.size := (by omega); have hzb : w.heap.size + 1 < w1.heap.size := (by omega); have hzc : w.heap.size + 1 + 1 < w1.heap.size := (by omega); have hzd : w.heap.size + 1 + 1 + 1 < w1.heap.size := (by omega); have hze : w.heap.size + 1 + 1 + 1 + 1 < w1.heap.size := (by omega); have hzf : w.heap.size + 1 + 1 + 1 + 1 + 1 < w1.heap.size := (by omega); have hz4 := hb1.size; (try simp at hz4); (try have hz5 := Nat.lt_of_succ_le hz4)))
    have hlx3 : gx < w1.heap.size := by have hq := hb1.size; (try simp at hq); omega
    refine bodyPost_ret (v := meetV a b c d e f g h) ?_ rfl ⟨rfl, (by repeat (first | exact Below.refl _ _ | assumption | (refine Below.drew ?_) | (refine bl_alloc ?_ (Nat.le_refl _) _) | (refine bl_set ?_ (by simp <;> omega) _)))⟩
    rw [HR.out]; simp [results, Try.results69, go_sem, mtV, *]
end Go.Proofs.Ythellegojnndlaa
