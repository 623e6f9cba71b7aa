/-
  CONTRACTS of the functions that compute the rounded common point of two segments (packages impl and spec), and the walk of the law FnExactCrossingOf. Conditions: the points of the helpers are valid; those of crossing's helpers besides: the segments cross.
-/
import Derived.Test.YthellegojnndlaaMeetS
namespace Go.Proofs.Ythellegojnndlaa
open Go.RowKit Go.Sort
set_option linter.unusedVariables false
attribute [local go_sem] cell_grow frozen_grow
attribute [local go_sem] Oper.quietAt Oper.quietUpon

theorem rnd_shift {a x d : Int} (hd : 0 < d) : rnd (a * d + x) d = a + rnd x d := by
  have e1 : (a * d + x) / d = a + x / d := by rw [Int.add_comm, Int.add_mul_ediv_right _ _ (by omega)]; omega
  have e2 : (a * d + x) % d = x % d := by rw [Int.add_comm, Int.add_mul_emod_self_right]
  unfold rnd
  rw [e1, e2]
  split <;> omega
/-- the divisor, and the numerator, of the place of the crossing along the first segment -/
def crM (a b c d e f g h : Int) : Int := tn e f g h a b - tn e f g h c d
def crD (a b c d e f g h : Int) : Int := if crM a b c d e f g h < 0 then -(crM a b c d e f g h) else crM a b c d e f g h
def crN (a b c d e f g h : Int) : Int := if crM a b c d e f g h < 0 then -(tn e f g h a b) else tn e f g h a b
def crX (a b c d e f g h : Int) : Int := a + rnd ((c - a) * crN a b c d e f g h) (crD a b c d e f g h)
def crY (a b c d e f g h : Int) : Int := b + rnd ((d - b) * crN a b c d e f g h) (crD a b c d e f g h)
theorem cr_den (a b c d e f g h : Int) : (c - a) * (h - f) - (d - b) * (g - e) = crM a b c d e f g h := by unfold crM tn; grind
theorem cr_num (a b c d e f g h : Int) : (e - a) * (h - f) - (f - b) * (g - e) = tn e f g h a b := by unfold tn; grind
theorem cr_ne {a b c d e f g h : Int} (hc : sg (tn e f g h a b) * sg (tn e f g h c d) < 0) : ¬ crM a b c d e f g h = 0 := by
  intro h0
  have : tn e f g h a b = tn e f g h c d := by unfold crM at h0; omega
  rw [this] at hc
  have := sq_nn (sg (tn e f g h c d))
  omega
theorem tn_bd2 {a b c d e f : Int} (h1 : okPt a b = true) (h2 : okPt c d = true) (h3 : okPt e f = true) : -549755813888 ≤ tn a b c d e f ∧ tn a b c d e f ≤ 549755813888 := by
  have := tn_bd h1 h2 h3
  unfold tn; omega
theorem crN_bd {a b c d e f g h : Int} (h1 : okPt a b = true) (h3 : okPt e f = true) (h4 : okPt g h = true) : -549755813888 ≤ crN a b c d e f g h ∧ crN a b c d e f g h ≤ 549755813888 := by
  have := tn_bd2 h3 h4 h1
  unfold crN; split <;> omega
theorem crD_bd {a b c d e f g h : Int} (h1 : okPt a b = true) (h2 : okPt c d = true) (h3 : okPt e f = true) (h4 : okPt g h = true) (hm : ¬ crM a b c d e f g h = 0) : 1 ≤ crD a b c d e f g h ∧ crD a b c d e f g h ≤ 1099511627776 := by
  have k1 := tn_bd2 h3 h4 h1
  have k2 := tn_bd2 h3 h4 h2
  unfold crD
  unfold crM at *
  split <;> omega
theorem sub_bd {a b c d : Int} (h1 : okPt a b = true) (h2 : okPt c d = true) : -524288 ≤ c - a ∧ c - a ≤ 524288 ∧ -524288 ≤ d - b ∧ d - b ≤ 524288 := by
  obtain ⟨a0, a1, b0, b1⟩ := okPt_t h1
  obtain ⟨c0, c1, d0, d1⟩ := okPt_t h2
  omega
theorem prod_cr {x n : Int} (h0 : -524288 ≤ x) (h1 : x ≤ 524288) (g0 : -549755813888 ≤ n) (g1 : n ≤ 549755813888) : -288230376151711744 ≤ x * n ∧ x * n ≤ 288230376151711744 :=
  mul_bd x n 524288 549755813888 (by omega) (by omega) (by omega) (by omega)
theorem prod_cd {x n : Int} (h0 : -262144 ≤ x) (h1 : x ≤ 262144) (g0 : 1 ≤ n) (g1 : n ≤ 1099511627776) : -288230376151711744 ≤ x * n ∧ x * n ≤ 288230376151711744 :=
  mul_bd x n 262144 1099511627776 (by omega) (by omega) (by omega) (by omega)
theorem rnd_bd {x d : Int} (hd : 1 ≤ d) (h0 : -288230376151711744 ≤ x) (h1 : x ≤ 288230376151711744) : -288230376151711745 ≤ rnd x d ∧ rnd x d ≤ 288230376151711745 := by
  have e := Int.mul_ediv_add_emod x d
  have e2 := Int.emod_nonneg x (b := d) (by omega)
  have k1 : x / d ≤ 288230376151711744 := by
    rcases Int.le_total 0 x with h | h
    · exact Int.le_trans (Int.ediv_le_self d h) h1
    · have h2 : x / d ≤ 0 := by
        rcases Int.lt_or_le 0 (x / d) with h3 | h3
        · have := (Int.le_ediv_iff_mul_le (by omega) (a := 1) (b := x) (c := d)).1 h3
          omega
        · exact h3
      omega
  have k2 : -288230376151711744 ≤ x / d := (Int.le_ediv_iff_mul_le (by omega)).2 (by
    have := Int.mul_le_mul_of_nonpos_left (a := -288230376151711744) (b := d) (c := 1) (by omega) (by omega)
    omega)
  unfold rnd; split <;> omega
theorem divRound_pos {n d : Int} (h : 1 ≤ d) : divRound n d = rnd n d := by unfold divRound; rw [if_neg (by omega)]
theorem divRound_i2 (n d : Int) (hn0 : -9223372036854775808 ≤ n) (hn1 : n ≤ 9223372036854775807) (hd : 1 ≤ d) (hd1 : d ≤ 9223372036854775807) (w : World) : Calls Try.prog 91 #[.int .i64 n, .int .i64 d] w fun e w' => e = .returned (.int .i64 (rnd n d)) ∧ w = w' := by
  have h := divRound_i n d hn0 hn1 hd1 w
  rwa [divRound_pos hd] at h
set_option maxRecDepth 100000 in
set_option maxHeartbeats 4000000 in
theorem crossing_any (a b c d e f g h : Int) (h1 : okPt a b = true) (h2 : okPt c d = true) (h3 : okPt e f = true) (h4 : okPt g h = true) (hm : ¬ crM a b c d e f g h = 0) (w : World) :
    Calls Try.prog 71 #[.agg #[.int .i64 a, .int .i64 b], .agg #[.int .i64 c, .int .i64 d], .agg #[.int .i64 e, .int .i64 f], .agg #[.int .i64 g, .int .i64 h]] w fun E w' => E = .returned (.agg #[.int .i64 (crX a b c d e f g h), .int .i64 (crY a b c d e f g h)]) ∧ Below w.heap.size w w' := by
  obtain ⟨N0, N1⟩ := crN_bd (c := c) (d := d) h1 h3 h4
  obtain ⟨D0, D1⟩ := crD_bd h1 h2 h3 h4 hm
  obtain ⟨s1, s2, s3, s4⟩ := sub_bd h1 h2
  obtain ⟨t1, t2, t3, t4⟩ := sub_bd h3 h4
  obtain ⟨v1, v2, v3, v4⟩ := sub_bd h1 h3
  obtain ⟨a0, a1, b0, b1⟩ := okPt_t h1
  obtain ⟨X0, X1⟩ := prod_cr s1 s2 N0 N1
  obtain ⟨Y0, Y1⟩ := prod_cr s3 s4 N0 N1
  obtain ⟨X2, X3⟩ := prod_cd a0 a1 D0 D1
  obtain ⟨Y2, Y3⟩ := prod_cd b0 b1 D0 D1
  obtain ⟨m1, m2⟩ := mul_bd (c - a) (h - f) 524288 524288 (by omega) (by omega) (by omega) (by omega)
  obtain ⟨m3, m4⟩ := mul_bd (d - b) (g - e) 524288 524288 (by omega) (by omega) (by omega) (by omega)
  obtain ⟨m5, m6⟩ := mul_bd (e - a) (h - f) 524288 524288 (by omega) (by omega) (by omega) (by omega)
  obtain ⟨m7, m8⟩ := mul_bd (f - b) (g - e) 524288 524288 (by omega) (by omega) (by omega) (by omega)
  have HX := hide (show crX a b c d e f g h = rnd (a * crD a b c d e f g h + (c - a) * crN a b c d e f g h) (crD a b c d e f g h) by rw [rnd_shift (by omega)]; rfl)
  have HY := hide (show crY a b c d e f g h = rnd (b * crD a b c d e f g h + (d - b) * crN a b c d e f g h) (crD a b c d e f g h) by rw [rnd_shift (by omega)]; rfl)
  obtain ⟨c0, c1, d0, d1⟩ := okPt_t h2
  obtain ⟨e0, e1, f0, f1⟩ := okPt_t h3
  obtain ⟨g0, g1, i0, i1⟩ := okPt_t h4
  have k1 := tn_bd2 h3 h4 h1
  have q1 := cr_den a b c d e f g h
  have q2 := cr_num a b c d e f g h
  clear h1 h2 h3 h4
  by_cases hs : crM a b c d e f g h < 0
  · have r1 : -(crM a b c d e f g h) = crD a b c d e f g h := by unfold crD; rw [if_pos hs]
    have r2 : -(tn e f g h a b) = crN a b c d e f g h := by unfold crN; rw [if_pos hs]
    have l1 : -1099511627776 ≤ crM a b c d e f g h := by omega
    go_enter Try.func71, Try.ntmps71
    go_wp2
    refine wp_region_tail_below 29 (by kernel_rfl) (by kernel_rfl) ?_
    simp only [List.take_succ_cons, List.take_zero, List.drop_succ_cons, List.drop_zero]
    repeat (first | go_big_quiet_step (((go_at_call 91; with_reducible exact Calls.regrown_of (same_below (divRound_i2 _ (crD a b c d e f g h) (by omega) (by omega) (by omega) (by omega) _))))) | quiet_step (((go_at_call 91; with_reducible exact Calls.regrown_of (same_below (divRound_i2 _ (crD a b c d e f g h) (by omega) (by omega) (by omega) (by omega) _))))))
    refine wpQuiet_nil ?_
    intro w1 hw1
    obtain ⟨pq, hpq⟩ := hw1
    have hb1 := below_of hpq
    clear hpq pq
    have hz4 := hb1.size
    (try simp at hz4)
    obtain ⟨hc1, hf1⟩ := bcell hb1
    have hw1 : Below w.heap.size w w1 := bl_call (by repeat (first | exact Below.refl _ _ | assumption | (refine bl_alloc ?_ (Nat.le_refl _) _) | (refine bl_set ?_ (by simp <;> omega) _))) hb1
    have hz1 : w.heap.size + 5 ≤ w1.heap.size := (by have hq := hb1.size; have hr := hw1.size; (try simp at hq); omega)
    have hza : w.heap.size < w1.heap.size := (by omega)
    have hzb : w.heap.size + 1 < w1.heap.size := (by omega)
    have hzc : w.heap.size + 1 + 1 < w1.heap.size := (by omega)
    have hzd : w.heap.size + 1 + 1 + 1 < w1.heap.size := (by omega)
    have hze : w.heap.size + 1 + 1 + 1 + 1 < w1.heap.size := (by omega)
    go_wp2
    refine bodyPost_ret (v := .agg #[.int .i64 (crX a b c d e f g h), .int .i64 (crY a b c d e f g h)]) ?_ rfl ⟨rfl, (by repeat (first | exact Below.refl _ _ | assumption | (refine bl_alloc ?_ (Nat.le_refl _) _) | (refine bl_set ?_ (by simp <;> omega) _)))⟩
    rw [HX.out, HY.out]
    simp [results, Try.results71, go_sem, *]
  · have r1 : crM a b c d e f g h = crD a b c d e f g h := by unfold crD; rw [if_neg hs]
    have r2 : tn e f g h a b = crN a b c d e f g h := by unfold crN; rw [if_neg hs]
    have hs2 : ¬ crD a b c d e f g h < 0 := by omega
    rw [r1] at q1
    rw [r2] at q2
    clear hs hm r1 r2
    go_enter Try.func71, Try.ntmps71
    go_wp2
    refine wp_region_tail_below 29 (by kernel_rfl) (by kernel_rfl) ?_
    simp only [List.take_succ_cons, List.take_zero, List.drop_succ_cons, List.drop_zero]
    repeat (first | go_big_quiet_step (((go_at_call 91; with_reducible exact Calls.regrown_of (same_below (divRound_i2 _ (crD a b c d e f g h) (by omega) (by omega) (by omega) (by omega) _))))) | quiet_step (((go_at_call 91; with_reducible exact Calls.regrown_of (same_below (divRound_i2 _ (crD a b c d e f g h) (by omega) (by omega) (by omega) (by omega) _))))))
    refine wpQuiet_nil ?_
    intro w1 hw1
    obtain ⟨pq, hpq⟩ := hw1
    have hb1 := below_of hpq
    clear hpq pq
    have hz4 := hb1.size
    (try simp at hz4)
    obtain ⟨hc1, hf1⟩ := bcell hb1
    have hw1 : Below w.heap.size w w1 := bl_call (by repeat (first | exact Below.refl _ _ | assumption | (refine bl_alloc ?_ (Nat.le_refl _) _) | (refine bl_set ?_ (by simp <;> omega) _))) hb1
    have hz1 : w.heap.size + 5 ≤ w1.heap.size := (by have hq := hb1.size; have hr := hw1.size; (try simp at hq); omega)
    have hza : w.heap.size < w1.heap.size := (by omega)
    have hzb : w.heap.size + 1 < w1.heap.size := (by omega)
    have hzc : w.heap.size + 1 + 1 < w1.heap.size := (by omega)
    have hzd : w.heap.size + 1 + 1 + 1 < w1.heap.size := (by omega)
    have hze : w.heap.size + 1 + 1 + 1 + 1 < w1.heap.size := (by omega)
    go_wp2
    refine bodyPost_ret (v := .agg #[.int .i64 (crX a b c d e f g h), .int .i64 (crY a b c d e f g h)]) ?_ rfl ⟨rfl, (by repeat (first | exact Below.refl _ _ | assumption | (refine bl_alloc ?_ (Nat.le_refl _) _) | (refine bl_set ?_ (by simp <;> omega) _)))⟩
    rw [HX.out, HY.out]
    simp [results, Try.results71, go_sem, *]
set_option maxRecDepth 100000 in
set_option maxHeartbeats 4000000 in
theorem l03Crossing_one (a b c d e f g h x y : Int) (h1 : okPt a b = true) (h2 : okPt c d = true) (h3 : okPt e f = true) (h4 : okPt g h = true) (he : ends (a, b) (c, d) (e, f) (g, h) = [(x, y)]) (w : World) :
    Calls Try.prog 70 #[.agg #[.int .i64 a, .int .i64 b], .agg #[.int .i64 c, .int .i64 d], .agg #[.int .i64 e, .int .i64 f], .agg #[.int .i64 g, .int .i64 h]] w fun E w' => E = .returned (.agg #[.int .i64 x, .int .i64 y]) ∧ Below w.heap.size w w' := by
  have HE := hide he
  clear he
  go_enter Try.func70, Try.ntmps70
  go_wp2_with fail
  (with_reducible refine (l03Ends_any _ _ _ _ _ _ _ _ h1 h2 h3 h4 _).mono ?_)
  rintro E w1 ⟨gs, cap, rfl, hg0, hg1, hcell, hb1⟩
  rw [HE.out] at hcell ⊢
  obtain ⟨k0, k1⟩ := hcell 0 (by simp)
  have k0' : w1.cell? ⟨gs, 0, none⟩ = some (.int .i64 x) := k0
  have k1' : w1.cell? ⟨gs, 1, none⟩ = some (.int .i64 y) := k1
  obtain ⟨hc1, hf1⟩ := bcell hb1
  have hw1 : Below w.heap.size w w1 := bl_call (by repeat (first | exact Below.refl _ _ | assumption | (refine bl_alloc ?_ (Nat.le_refl _) _) | (refine bl_set ?_ (by simp <;> omega) _))) hb1
  have hz1 : w.heap.size + 5 ≤ w1.heap.size := (by have hq := hb1.size; have hr := hw1.size; (try simp at hq); omega)
  have hza : w.heap.size < w1.heap.size := by omega
  have hzb : w.heap.size + 1 < w1.heap.size := by omega
  have hzc : w.heap.size + 1 + 1 < w1.heap.size := by omega
  have hzd : w.heap.size + 1 + 1 + 1 < w1.heap.size := by omega
  have hze : w.heap.size + 1 + 1 + 1 + 1 < w1.heap.size := by omega
  simp only [List.length_cons, List.length_nil]
  clear hcell k0 k1
  go_wp2
  refine bodyPost_ret (v := .agg #[.int .i64 x, .int .i64 y]) ?_ rfl ⟨rfl, (by repeat (first | exact Below.refl _ _ | assumption | (refine bl_alloc ?_ (Nat.le_refl _) _) | (refine bl_set ?_ (by simp <;> omega) _)))⟩
  simp [results, Try.results70, go_sem, *]
set_option maxRecDepth 100000 in
set_option maxHeartbeats 4000000 in
theorem l03Crossing_cross (a b c d e f g h : Int) (h1 : okPt a b = true) (h2 : okPt c d = true) (h3 : okPt e f = true) (h4 : okPt g h = true) (he : ends (a, b) (c, d) (e, f) (g, h) = []) (hm : ¬ crM a b c d e f g h = 0) (w : World) :
    Calls Try.prog 70 #[.agg #[.int .i64 a, .int .i64 b], .agg #[.int .i64 c, .int .i64 d], .agg #[.int .i64 e, .int .i64 f], .agg #[.int .i64 g, .int .i64 h]] w fun E w' => E = .returned (.agg #[.int .i64 (crX a b c d e f g h), .int .i64 (crY a b c d e f g h)]) ∧ Below w.heap.size w w' := by
  have HE := hide he
  clear he
  obtain ⟨N0, N1⟩ := crN_bd (c := c) (d := d) h1 h3 h4
  obtain ⟨D0, D1⟩ := crD_bd h1 h2 h3 h4 hm
  obtain ⟨s1, s2, s3, s4⟩ := sub_bd h1 h2
  obtain ⟨X0, X1⟩ := prod_cr s1 s2 N0 N1
  obtain ⟨Y0, Y1⟩ := prod_cr s3 s4 N0 N1
  obtain ⟨a0, a1, b0, b1⟩ := okPt_t h1
  obtain ⟨k1, k2⟩ := tn_bd2 h3 h4 h1
  obtain ⟨k3, k4⟩ := tn_bd2 h3 h4 h2
  have HX := hide (show crX a b c d e f g h = a + rnd ((c - a) * crN a b c d e f g h) (crD a b c d e f g h) from rfl)
  have HY := hide (show crY a b c d e f g h = b + rnd ((d - b) * crN a b c d e f g h) (crD a b c d e f g h) from rfl)
  obtain ⟨x0, x1⟩ := rnd_bd D0 X0 X1
  obtain ⟨y0, y1⟩ := rnd_bd D0 Y0 Y1
  have q1 : tn e f g h a b - tn e f g h c d = crM a b c d e f g h := rfl
  by_cases hs : crM a b c d e f g h < 0
  · have r1 : -(crM a b c d e f g h) = crD a b c d e f g h := by unfold crD; rw [if_pos hs]
    have r2 : -(tn e f g h a b) = crN a b c d e f g h := by unfold crN; rw [if_pos hs]
    have l1 : -1099511627776 ≤ crM a b c d e f g h := by omega
    go_enter Try.func70, Try.ntmps70
    go_wp2_with fail
    (with_reducible refine (l03Ends_any _ _ _ _ _ _ _ _ h1 h2 h3 h4 _).mono ?_)
    rintro E w1 ⟨gs, cap, rfl, hg0, hg1, hcell, hb1⟩
    rw [HE.out]
    obtain ⟨hc1, hf1⟩ := bcell hb1
    have hw1 : Below w.heap.size w w1 := bl_call (by repeat (first | exact Below.refl _ _ | assumption | (refine bl_alloc ?_ (Nat.le_refl _) _) | (refine bl_set ?_ (by simp <;> omega) _))) hb1
    have hz1 : w.heap.size + 5 ≤ w1.heap.size := (by have hq := hb1.size; have hr := hw1.size; (try simp at hq); omega)
    have hza : w.heap.size < w1.heap.size := by omega
    have hzb : w.heap.size + 1 < w1.heap.size := by omega
    have hzc : w.heap.size + 1 + 1 < w1.heap.size := by omega
    have hzd : w.heap.size + 1 + 1 + 1 < w1.heap.size := by omega
    have hze : w.heap.size + 1 + 1 + 1 + 1 < w1.heap.size := by omega
    simp only [List.length_nil]
    clear hcell
    go_wp2_with (first | (go_at_call 101; (with_reducible refine (l03Turn_any _ _ _ _ _ _ (by assumption) (by assumption) (by assumption) _).mono ?_); rintro e w1 ⟨rfl, hb1⟩; obtain ⟨hc1, hf1⟩ := bcell hb1; have hw1 : Below w.heap.size w w1 := bl_call (by repeat (first | exact Below.refl _ _ | assumption | (refine bl_alloc ?_ (Nat.le_refl _) _) | (refine bl_set ?_ (by simp <;> omega) _))) hb1; have hz1 : w.heap.size + 5 ≤ w1.heap.size := (by have hq := hb1.size; have hr := hw1.size; (try simp at hq); omega); have hza : w.heap.size < w1.heap.size := (by omega); have hzb : w.heap.size + 1 < w1.heap.size := (by omega); have hzc : w.heap.size + 1 + 1 < w1.heap.size := (by omega); have hzd : w.heap.size + 1 + 1 + 1 < w1.heap.size := (by omega); have hze : w.heap.size + 1 + 1 + 1 + 1 < w1.heap.size := (by omega); have hz4 := hb1.size; (try simp at hz4); (try have hz5 := Nat.lt_of_succ_le hz4)))
    refine wp_region_tail_below 25 (by kernel_rfl) (by kernel_rfl) ?_
    simp only [List.take_succ_cons, List.take_zero, List.drop_succ_cons, List.drop_zero]
    repeat (first | go_big_quiet_step (((go_at_call 112; with_reducible exact Calls.regrown_of (same_below (l03Round_any _ (crD a b c d e f g h) (by omega) (by omega) (by omega) (by omega) _))))) | quiet_step (((go_at_call 112; with_reducible exact Calls.regrown_of (same_below (l03Round_any _ (crD a b c d e f g h) (by omega) (by omega) (by omega) (by omega) _))))))
    refine wpQuiet_nil ?_
    intro w1 hw1
    obtain ⟨pq, hpq⟩ := hw1
    have hb1 := below_of hpq
    clear hpq pq
    have hz4 := hb1.size
    (try simp at hz4)
    obtain ⟨hc1, hf1⟩ := bcell hb1
    have hw1 : Below w.heap.size w w1 := bl_call (by repeat (first | exact Below.refl _ _ | assumption | (refine bl_alloc ?_ (Nat.le_refl _) _) | (refine bl_set ?_ (by simp <;> omega) _))) hb1
    have hz1 : w.heap.size + 5 ≤ w1.heap.size := (by have hq := hb1.size; have hr := hw1.size; (try simp at hq); omega)
    have hza : w.heap.size < w1.heap.size := (by omega)
    have hzb : w.heap.size + 1 < w1.heap.size := (by omega)
    have hzc : w.heap.size + 1 + 1 < w1.heap.size := (by omega)
    have hzd : w.heap.size + 1 + 1 + 1 < w1.heap.size := (by omega)
    have hze : w.heap.size + 1 + 1 + 1 + 1 < w1.heap.size := (by omega)
    go_wp2
    refine bodyPost_ret (v := .agg #[.int .i64 (crX a b c d e f g h), .int .i64 (crY a b c d e f g h)]) ?_ rfl ⟨rfl, (by repeat (first | exact Below.refl _ _ | assumption | (refine bl_alloc ?_ (Nat.le_refl _) _) | (refine bl_set ?_ (by simp <;> omega) _)))⟩
    rw [HX.out, HY.out]
    simp [results, Try.results70, go_sem, *]
  · have r1 : crM a b c d e f g h = crD a b c d e f g h := by unfold crD; rw [if_neg hs]
    have r2 : tn e f g h a b = crN a b c d e f g h := by unfold crN; rw [if_neg hs]
    have hs2 : ¬ crD a b c d e f g h < 0 := by omega
    rw [r1] at q1
    rw [r2] at q1 k1 k2
    clear hs hm r1
    go_enter Try.func70, Try.ntmps70
    go_wp2_with fail
    (with_reducible refine (l03Ends_any _ _ _ _ _ _ _ _ h1 h2 h3 h4 _).mono ?_)
    rintro E w1 ⟨gs, cap, rfl, hg0, hg1, hcell, hb1⟩
    rw [HE.out]
    obtain ⟨hc1, hf1⟩ := bcell hb1
    have hw1 : Below w.heap.size w w1 := bl_call (by repeat (first | exact Below.refl _ _ | assumption | (refine bl_alloc ?_ (Nat.le_refl _) _) | (refine bl_set ?_ (by simp <;> omega) _))) hb1
    have hz1 : w.heap.size + 5 ≤ w1.heap.size := (by have hq := hb1.size; have hr := hw1.size; (try simp at hq); omega)
    have hza : w.heap.size < w1.heap.size := by omega
    have hzb : w.heap.size + 1 < w1.heap.size := by omega
    have hzc : w.heap.size + 1 + 1 < w1.heap.size := by omega
    have hzd : w.heap.size + 1 + 1 + 1 < w1.heap.size := by omega
    have hze : w.heap.size + 1 + 1 + 1 + 1 < w1.heap.size := by omega
    simp only [List.length_nil]
    clear hcell
    go_wp2_with (first | (go_at_call 101; (with_reducible refine (l03Turn_any _ _ _ _ _ _ (by assumption) (by assumption) (by assumption) _).mono ?_); rintro e w1 ⟨rfl, hb1⟩; obtain ⟨hc1, hf1⟩ := bcell hb1; have hw1 : Below w.heap.size w w1 := bl_call (by repeat (first | exact Below.refl _ _ | assumption | (refine bl_alloc ?_ (Nat.le_refl _) _) | (refine bl_set ?_ (by simp <;> omega) _))) hb1; have hz1 : w.heap.size + 5 ≤ w1.heap.size := (by have hq := hb1.size; have hr := hw1.size; (try simp at hq); omega); have hza : w.heap.size < w1.heap.size := (by omega); have hzb : w.heap.size + 1 < w1.heap.size := (by omega); have hzc : w.heap.size + 1 + 1 < w1.heap.size := (by omega); have hzd : w.heap.size + 1 + 1 + 1 < w1.heap.size := (by omega); have hze : w.heap.size + 1 + 1 + 1 + 1 < w1.heap.size := (by omega); have hz4 := hb1.size; (try simp at hz4); (try have hz5 := Nat.lt_of_succ_le hz4)))
    refine wp_region_tail_below 25 (by kernel_rfl) (by kernel_rfl) ?_
    simp only [List.take_succ_cons, List.take_zero, List.drop_succ_cons, List.drop_zero]
    repeat (first | go_big_quiet_step (((go_at_call 112; with_reducible exact Calls.regrown_of (same_below (l03Round_any _ (crD a b c d e f g h) (by omega) (by omega) (by omega) (by omega) _))))) | quiet_step (((go_at_call 112; with_reducible exact Calls.regrown_of (same_below (l03Round_any _ (crD a b c d e f g h) (by omega) (by omega) (by omega) (by omega) _))))))
    refine wpQuiet_nil ?_
    intro w1 hw1
    obtain ⟨pq, hpq⟩ := hw1
    have hb1 := below_of hpq
    clear hpq pq
    have hz4 := hb1.size
    (try simp at hz4)
    obtain ⟨hc1, hf1⟩ := bcell hb1
    have hw1 : Below w.heap.size w w1 := bl_call (by repeat (first | exact Below.refl _ _ | assumption | (refine bl_alloc ?_ (Nat.le_refl _) _) | (refine bl_set ?_ (by simp <;> omega) _))) hb1
    have hz1 : w.heap.size + 5 ≤ w1.heap.size := (by have hq := hb1.size; have hr := hw1.size; (try simp at hq); omega)
    have hza : w.heap.size < w1.heap.size := (by omega)
    have hzb : w.heap.size + 1 < w1.heap.size := (by omega)
    have hzc : w.heap.size + 1 + 1 < w1.heap.size := (by omega)
    have hzd : w.heap.size + 1 + 1 + 1 < w1.heap.size := (by omega)
    have hze : w.heap.size + 1 + 1 + 1 + 1 < w1.heap.size := (by omega)
    go_wp2
    refine bodyPost_ret (v := .agg #[.int .i64 (crX a b c d e f g h), .int .i64 (crY a b c d e f g h)]) ?_ rfl ⟨rfl, (by repeat (first | exact Below.refl _ _ | assumption | (refine bl_alloc ?_ (Nat.le_refl _) _) | (refine bl_set ?_ (by simp <;> omega) _)))⟩
    rw [HX.out, HY.out]
    simp [results, Try.results70, go_sem, *]
/-- the common point of two segments, and the code -/
def croX (a b c d e f g h : Int) : Int := if okPt a b && okPt c d && okPt e f && okPt g h then (if skV a b c d e f g h = 1 then (meetK (a, b) (c, d) (e, f) (g, h)).2.1 else if skV a b c d e f g h = 2 then crX a b c d e f g h else 0) else 0
def croY (a b c d e f g h : Int) : Int := if okPt a b && okPt c d && okPt e f && okPt g h then (if skV a b c d e f g h = 1 then (meetK (a, b) (c, d) (e, f) (g, h)).2.2 else if skV a b c d e f g h = 2 then crY a b c d e f g h else 0) else 0
def croC (a b c d e f g h : Int) : Int := if okPt a b && okPt c d && okPt e f && okPt g h then (if skV a b c d e f g h = 1 then 0 else if skV a b c d e f g h = 2 then 0 else 6) else 1
def croV (a b c d e f g h : Int) : Value := .tuple #[.agg #[.int .i64 (croX a b c d e f g h), .int .i64 (croY a b c d e f g h)], .int .i64 (croC a b c d e f g h)]
def crV (x y k : Int) : Value := .tuple #[.agg #[.int .i64 x, .int .i64 y], .int .i64 k]
theorem cro_bad {a b c d e f g h : Int} (hk : (okPt a b && okPt c d && okPt e f && okPt g h) = false) : croV a b c d e f g h = crV 0 0 1 := by
  unfold croV croX croY croC; rw [hk]; rfl
theorem cro_1 {a b c d e f g h : Int} (hk : (okPt a b && okPt c d && okPt e f && okPt g h) = true) (h1 : skV a b c d e f g h = 1) : croV a b c d e f g h = crV (meetK (a, b) (c, d) (e, f) (g, h)).2.1 (meetK (a, b) (c, d) (e, f) (g, h)).2.2 0 := by
  unfold croV croX croY croC; rw [hk, h1]; rfl
theorem cro_2 {a b c d e f g h : Int} (hk : (okPt a b && okPt c d && okPt e f && okPt g h) = true) (h1 : skV a b c d e f g h = 2) : croV a b c d e f g h = crV (crX a b c d e f g h) (crY a b c d e f g h) 0 := by
  unfold croV croX croY croC; rw [hk, h1]; rfl
theorem cro_3 {a b c d e f g h : Int} (hk : (okPt a b && okPt c d && okPt e f && okPt g h) = true) (h1 : ¬ skV a b c d e f g h = 1) (h2 : ¬ skV a b c d e f g h = 2) : croV a b c d e f g h = crV 0 0 6 := by
  unfold croV croX croY croC; rw [hk]; simp [h1, h2, crV]
theorem sk_meet {a b c d e f g h : Int} (h1 : okPt a b = true) (h2 : okPt c d = true) (h3 : okPt e f = true) (h4 : okPt g h = true) :
    (skV a b c d e f g h = 1 → ends (a, b) (c, d) (e, f) (g, h) = [((meetK (a, b) (c, d) (e, f) (g, h)).2.1, (meetK (a, b) (c, d) (e, f) (g, h)).2.2)]) ∧ (skV a b c d e f g h = 2 → ends (a, b) (c, d) (e, f) (g, h) = [] ∧ ¬ crM a b c d e f g h = 0) := by
  have hl := meet_law (a := (a, b)) (b := (c, d)) (c := (e, f)) (d := (g, h)) h1 h2 h3 h4
  have hk := mK_eq h1 h2 h3 h4
  refine ⟨fun hs => hl.2.1 (hk.trans hs), fun hs => ?_⟩
  obtain ⟨x1, x2⟩ := hl.2.2 (hk.trans hs)
  exact ⟨x1, cr_ne x2.2⟩
theorem sk_bd (a b c d e f g h : Int) : 0 ≤ skV a b c d e f g h ∧ skV a b c d e f g h ≤ 3 := by
  unfold skV specK; (repeat' split) <;> omega
set_option maxHeartbeats 4000000 in
theorem crossingOf_i (a b c d e f g h : Int) (w : World) :
    Calls Try.prog 21 #[.agg #[.int .i64 a, .int .i64 b], .agg #[.int .i64 c, .int .i64 d], .agg #[.int .i64 e, .int .i64 f], .agg #[.int .i64 g, .int .i64 h]] w fun E w' => E = .returned (croV a b c d e f g h) ∧ Below w.heap.size w w' := by
  by_cases hk : okPt a b = true ∧ okPt c d = true ∧ okPt e f = true ∧ okPt g h = true
  · obtain ⟨h1, h2, h3, h4⟩ := hk
    have hok : (okPt a b && okPt c d && okPt e f && okPt g h) = true := by rw [h1, h2, h3, h4]; rfl
    have H := meeting_any a b c d e f g h h1 h2 h3 h4
    have hm := sk_meet h1 h2 h3 h4
    unfold meetV at H
    rw [mK_eq h1 h2 h3 h4] at H
    obtain ⟨b0, b1⟩ := sk_bd a b c d e f g h
    by_cases s1 : skV a b c d e f g h = 1
    · have HR := hide (cro_1 hok s1)
      have q1 : (skV a b c d e f g h == 1) = true := by rw [s1]; rfl
      clear s1 hm hok
      go_enter Try.func21, Try.ntmps21
      go_wp2_with (first | (go_at_call 62; (with_reducible refine (validPts4 _ _ a b c d e f g h _ (by simp) (by simp [go_sem]) (by simp [go_sem]) (by simp [go_sem]) (by simp [go_sem]) (by simp [go_sem]) (by simp [go_sem]) (by simp [go_sem]) (by simp [go_sem])).mono ?_); rintro e w1 ⟨rfl, hb1⟩; obtain ⟨hc1, hf1⟩ := bcell hb1; have hw1 : Below w.heap.size w w1 := bl_call (by repeat (first | exact Below.refl _ _ | assumption | (refine bl_alloc ?_ (Nat.le_refl _) _) | (refine bl_set ?_ (by simp <;> omega) _))) hb1; have hz1 : w.heap.size + 5 ≤ w1.heap.size := (by have hq := hb1.size; have hr := hw1.size; (try simp at hq); omega); have hza : w.heap.size < w1.heap.size := (by omega); have hzb : w.heap.size + 1 < w1.heap.size := (by omega); have hzc : w.heap.size + 1 + 1 < w1.heap.size := (by omega); have hzd : w.heap.size + 1 + 1 + 1 < w1.heap.size := (by omega); have hze : w.heap.size + 1 + 1 + 1 + 1 < w1.heap.size := (by omega); have hz4 := hb1.size; (try simp at hz4); (try have hz5 := Nat.lt_of_succ_le hz4)) | (go_at_call 69; (with_reducible refine (H _).mono ?_); rintro e w1 ⟨rfl, hb1⟩; obtain ⟨hc1, hf1⟩ := bcell hb1; have hw1 : Below w.heap.size w w1 := bl_call (by repeat (first | exact Below.refl _ _ | assumption | (refine bl_alloc ?_ (Nat.le_refl _) _) | (refine bl_set ?_ (by simp <;> omega) _))) hb1; have hz1 : w.heap.size + 5 ≤ w1.heap.size := (by have hq := hb1.size; have hr := hw1.size; (try simp at hq); omega); have hza : w.heap.size < w1.heap.size := (by omega); have hzb : w.heap.size + 1 < w1.heap.size := (by omega); have hzc : w.heap.size + 1 + 1 < w1.heap.size := (by omega); have hzd : w.heap.size + 1 + 1 + 1 < w1.heap.size := (by omega); have hze : w.heap.size + 1 + 1 + 1 + 1 < w1.heap.size := (by omega); have hz4 := hb1.size; (try simp at hz4); (try have hz5 := Nat.lt_of_succ_le hz4)))
      refine bodyPost_ret (v := croV a b c d e f g h) ?_ rfl ⟨rfl, (by repeat (first | exact Below.refl _ _ | assumption | (refine bl_alloc ?_ (Nat.le_refl _) _) | (refine bl_set ?_ (by simp <;> omega) _)))⟩
      rw [HR.out]; simp [results, Try.results21, go_sem, crV, *]
    by_cases s2 : skV a b c d e f g h = 2
    · have HR := hide (cro_2 hok s2)
      have q1 : (skV a b c d e f g h == 1) = false := by rw [s2]; rfl
      have q2 : (skV a b c d e f g h == 2) = true := by rw [s2]; rfl
      have hM := (hm.2 s2).2
      clear s1 s2 hm hok
      go_enter Try.func21, Try.ntmps21
      go_wp2_with (first | (go_at_call 62; (with_reducible refine (validPts4 _ _ a b c d e f g h _ (by simp) (by simp [go_sem]) (by simp [go_sem]) (by simp [go_sem]) (by simp [go_sem]) (by simp [go_sem]) (by simp [go_sem]) (by simp [go_sem]) (by simp [go_sem])).mono ?_); rintro e w1 ⟨rfl, hb1⟩; obtain ⟨hc1, hf1⟩ := bcell hb1; have hw1 : Below w.heap.size w w1 := bl_call (by repeat (first | exact Below.refl _ _ | assumption | (refine bl_alloc ?_ (Nat.le_refl _) _) | (refine bl_set ?_ (by simp <;> omega) _))) hb1; have hz1 : w.heap.size + 5 ≤ w1.heap.size := (by have hq := hb1.size; have hr := hw1.size; (try simp at hq); omega); have hza : w.heap.size < w1.heap.size := (by omega); have hzb : w.heap.size + 1 < w1.heap.size := (by omega); have hzc : w.heap.size + 1 + 1 < w1.heap.size := (by omega); have hzd : w.heap.size + 1 + 1 + 1 < w1.heap.size := (by omega); have hze : w.heap.size + 1 + 1 + 1 + 1 < w1.heap.size := (by omega); have hz4 := hb1.size; (try simp at hz4); (try have hz5 := Nat.lt_of_succ_le hz4)) | (go_at_call 69; (with_reducible refine (H _).mono ?_); rintro e w1 ⟨rfl, hb1⟩; obtain ⟨hc1, hf1⟩ := bcell hb1; have hw1 : Below w.heap.size w w1 := bl_call (by repeat (first | exact Below.refl _ _ | assumption | (refine bl_alloc ?_ (Nat.le_refl _) _) | (refine bl_set ?_ (by simp <;> omega) _))) hb1; have hz1 : w.heap.size + 5 ≤ w1.heap.size := (by have hq := hb1.size; have hr := hw1.size; (try simp at hq); omega); have hza : w.heap.size < w1.heap.size := (by omega); have hzb : w.heap.size + 1 < w1.heap.size := (by omega); have hzc : w.heap.size + 1 + 1 < w1.heap.size := (by omega); have hzd : w.heap.size + 1 + 1 + 1 < w1.heap.size := (by omega); have hze : w.heap.size + 1 + 1 + 1 + 1 < w1.heap.size := (by omega); have hz4 := hb1.size; (try simp at hz4); (try have hz5 := Nat.lt_of_succ_le hz4)) | (go_at_call 71; (with_reducible refine (crossing_any _ _ _ _ _ _ _ _ h1 h2 h3 h4 hM _).mono ?_); rintro e w1 ⟨rfl, hb1⟩; obtain ⟨hc1, hf1⟩ := bcell hb1; have hw1 : Below w.heap.size w w1 := bl_call (by repeat (first | exact Below.refl _ _ | assumption | (refine bl_alloc ?_ (Nat.le_refl _) _) | (refine bl_set ?_ (by simp <;> omega) _))) hb1; have hz1 : w.heap.size + 5 ≤ w1.heap.size := (by have hq := hb1.size; have hr := hw1.size; (try simp at hq); omega); have hza : w.heap.size < w1.heap.size := (by omega); have hzb : w.heap.size + 1 < w1.heap.size := (by omega); have hzc : w.heap.size + 1 + 1 < w1.heap.size := (by omega); have hzd : w.heap.size + 1 + 1 + 1 < w1.heap.size := (by omega); have hze : w.heap.size + 1 + 1 + 1 + 1 < w1.heap.size := (by omega); have hz4 := hb1.size; (try simp at hz4); (try have hz5 := Nat.lt_of_succ_le hz4)))
      refine bodyPost_ret (v := croV a b c d e f g h) ?_ rfl ⟨rfl, (by repeat (first | exact Below.refl _ _ | assumption | (refine bl_alloc ?_ (Nat.le_refl _) _) | (refine bl_set ?_ (by simp <;> omega) _)))⟩
      rw [HR.out]; simp [results, Try.results21, go_sem, crV, *]
    · have HR := hide (cro_3 hok s1 s2)
      have q1 : (skV a b c d e f g h == 1) = false := by simpa using s1
      have q2 : (skV a b c d e f g h == 2) = false := by simpa using s2
      clear s1 s2 hm hok
      go_enter Try.func21, Try.ntmps21
      go_wp2_with (first | (go_at_call 62; (with_reducible refine (validPts4 _ _ a b c d e f g h _ (by simp) (by simp [go_sem]) (by simp [go_sem]) (by simp [go_sem]) (by simp [go_sem]) (by simp [go_sem]) (by simp [go_sem]) (by simp [go_sem]) (by simp [go_sem])).mono ?_); rintro e w1 ⟨rfl, hb1⟩; obtain ⟨hc1, hf1⟩ := bcell hb1; have hw1 : Below w.heap.size w w1 := bl_call (by repeat (first | exact Below.refl _ _ | assumption | (refine bl_alloc ?_ (Nat.le_refl _) _) | (refine bl_set ?_ (by simp <;> omega) _))) hb1; have hz1 : w.heap.size + 5 ≤ w1.heap.size := (by have hq := hb1.size; have hr := hw1.size; (try simp at hq); omega); have hza : w.heap.size < w1.heap.size := (by omega); have hzb : w.heap.size + 1 < w1.heap.size := (by omega); have hzc : w.heap.size + 1 + 1 < w1.heap.size := (by omega); have hzd : w.heap.size + 1 + 1 + 1 < w1.heap.size := (by omega); have hze : w.heap.size + 1 + 1 + 1 + 1 < w1.heap.size := (by omega); have hz4 := hb1.size; (try simp at hz4); (try have hz5 := Nat.lt_of_succ_le hz4)) | (go_at_call 69; (with_reducible refine (H _).mono ?_); rintro e w1 ⟨rfl, hb1⟩; obtain ⟨hc1, hf1⟩ := bcell hb1; have hw1 : Below w.heap.size w w1 := bl_call (by repeat (first | exact Below.refl _ _ | assumption | (refine bl_alloc ?_ (Nat.le_refl _) _) | (refine bl_set ?_ (by simp <;> omega) _))) hb1; have hz1 : w.heap.size + 5 ≤ w1.heap.size := (by have hq := hb1.size; have hr := hw1.size; (try simp at hq); omega); have hza : w.heap.size < w1.heap.size := (by omega); have hzb : w.heap.size + 1 < w1.heap.size := (by omega); have hzc : w.heap.size + 1 + 1 < w1.heap.size := (by omega); have hzd : w.heap.size + 1 + 1 + 1 < w1.heap.size := (by omega); have hze : w.heap.size + 1 + 1 + 1 + 1 < w1.heap.size := (by omega); have hz4 := hb1.size; (try simp at hz4); (try have hz5 := Nat.lt_of_succ_le hz4)))
      refine bodyPost_ret (v := croV a b c d e f g h) ?_ rfl ⟨rfl, (by repeat (first | exact Below.refl _ _ | assumption | (refine bl_alloc ?_ (Nat.le_refl _) _) | (refine bl_set ?_ (by simp <;> omega) _)))⟩
      rw [HR.out]; simp [results, Try.results21, go_sem, crV, *]
  · have hf := ok4_f hk
    have HR := hide (cro_bad hf)
    have HF := hide hf
    clear hf hk
    go_enter Try.func21, Try.ntmps21
    go_wp2_with fail
    refine (validPts4 _ _ a b c d e f g h _ (by simp) (by simp [go_sem]) (by simp [go_sem]) (by simp [go_sem]) (by simp [go_sem]) (by simp [go_sem]) (by simp [go_sem]) (by simp [go_sem]) (by simp [go_sem])).mono ?_
    rw [HF.out]
    rintro E w1 ⟨rfl, hb1⟩
    have hw1 : Below w.heap.size w w1 := bl_call (by repeat (first | exact Below.refl _ _ | assumption | (refine bl_alloc ?_ (Nat.le_refl _) _) | (refine bl_set ?_ (by simp <;> omega) _))) hb1
    obtain ⟨hc1, hf1⟩ := bcell hb1
    have hz1 : w.heap.size + 5 ≤ w1.heap.size := (by have hq := hb1.size; have hr := hw1.size; (try simp at hq); omega)
    have hza : w.heap.size < w1.heap.size := by omega
    have hzb : w.heap.size + 1 < w1.heap.size := by omega
    have hzc : w.heap.size + 1 + 1 < w1.heap.size := by omega
    have hzd : w.heap.size + 1 + 1 + 1 < w1.heap.size := by omega
    have hze : w.heap.size + 1 + 1 + 1 + 1 < w1.heap.size := by omega
    go_wp2
    refine bodyPost_ret (v := croV a b c d e f g h) ?_ rfl ⟨rfl, (by repeat (first | exact Below.refl _ _ | assumption | (refine bl_alloc ?_ (Nat.le_refl _) _) | (refine bl_set ?_ (by simp <;> omega) _)))⟩
    rw [HR.out]; simp [results, Try.results21, go_sem, crV, *]
theorem mof_f {a b c d e f g h : Int} (hk : (okPt a b && okPt c d && okPt e f && okPt g h) = false) : mofR a b c d e f g h = -1 := by unfold mofR; rw [hk]; rfl
theorem mof_t {a b c d e f g h : Int} (hk : (okPt a b && okPt c d && okPt e f && okPt g h) = true) : mofR a b c d e f g h = skV a b c d e f g h := by unfold mofR; rw [hk]; rfl
set_option maxHeartbeats 4000000 in
theorem crossingOf_s (a b c d e f g h : Int) (w : World) :
    Calls Try.prog 20 #[.agg #[.int .i64 a, .int .i64 b], .agg #[.int .i64 c, .int .i64 d], .agg #[.int .i64 e, .int .i64 f], .agg #[.int .i64 g, .int .i64 h]] w fun E w' => E = .returned (croV a b c d e f g h) ∧ Below w.heap.size w w' := by
  have H := meetingOf_s a b c d e f g h
  by_cases hk : okPt a b = true ∧ okPt c d = true ∧ okPt e f = true ∧ okPt g h = true
  · obtain ⟨h1, h2, h3, h4⟩ := hk
    have hok : (okPt a b && okPt c d && okPt e f && okPt g h) = true := by rw [h1, h2, h3, h4]; rfl
    rw [mof_t hok] at H
    have hm := sk_meet h1 h2 h3 h4
    obtain ⟨b0, b1⟩ := sk_bd a b c d e f g h
    have q0 : (skV a b c d e f g h == -1) = false := by simp; omega
    by_cases s1 : skV a b c d e f g h = 1
    · have HR := hide (cro_1 hok s1)
      have q1 : (skV a b c d e f g h == 1) = true := by rw [s1]; rfl
      have hE := hide (hm.1 s1)
      clear s1 hm hok
      go_enter Try.func20, Try.ntmps20
      go_wp2_with (first | (go_at_call 18; (with_reducible refine (H _).mono ?_); rintro e w1 ⟨rfl, hb1⟩; obtain ⟨hc1, hf1⟩ := bcell hb1; have hw1 : Below w.heap.size w w1 := bl_call (by repeat (first | exact Below.refl _ _ | assumption | (refine bl_alloc ?_ (Nat.le_refl _) _) | (refine bl_set ?_ (by simp <;> omega) _))) hb1; have hz1 : w.heap.size + 5 ≤ w1.heap.size := (by have hq := hb1.size; have hr := hw1.size; (try simp at hq); omega); have hza : w.heap.size < w1.heap.size := (by omega); have hzb : w.heap.size + 1 < w1.heap.size := (by omega); have hzc : w.heap.size + 1 + 1 < w1.heap.size := (by omega); have hzd : w.heap.size + 1 + 1 + 1 < w1.heap.size := (by omega); have hze : w.heap.size + 1 + 1 + 1 + 1 < w1.heap.size := (by omega); have hz4 := hb1.size; (try simp at hz4); (try have hz5 := Nat.lt_of_succ_le hz4)) | (go_at_call 70; (with_reducible refine (l03Crossing_one _ _ _ _ _ _ _ _ _ _ h1 h2 h3 h4 hE.out _).mono ?_); rintro e w1 ⟨rfl, hb1⟩; obtain ⟨hc1, hf1⟩ := bcell hb1; have hw1 : Below w.heap.size w w1 := bl_call (by repeat (first | exact Below.refl _ _ | assumption | (refine bl_alloc ?_ (Nat.le_refl _) _) | (refine bl_set ?_ (by simp <;> omega) _))) hb1; have hz1 : w.heap.size + 5 ≤ w1.heap.size := (by have hq := hb1.size; have hr := hw1.size; (try simp at hq); omega); have hza : w.heap.size < w1.heap.size := (by omega); have hzb : w.heap.size + 1 < w1.heap.size := (by omega); have hzc : w.heap.size + 1 + 1 < w1.heap.size := (by omega); have hzd : w.heap.size + 1 + 1 + 1 < w1.heap.size := (by omega); have hze : w.heap.size + 1 + 1 + 1 + 1 < w1.heap.size := (by omega); have hz4 := hb1.size; (try simp at hz4); (try have hz5 := Nat.lt_of_succ_le hz4)))
      refine bodyPost_ret (v := croV a b c d e f g h) ?_ rfl ⟨rfl, (by repeat (first | exact Below.refl _ _ | assumption | (refine bl_alloc ?_ (Nat.le_refl _) _) | (refine bl_set ?_ (by simp <;> omega) _)))⟩
      rw [HR.out]; simp [results, Try.results20, go_sem, crV, *]
    by_cases s2 : skV a b c d e f g h = 2
    · have HR := hide (cro_2 hok s2)
      have q1 : (skV a b c d e f g h == 1) = false := by rw [s2]; rfl
      have q2 : (skV a b c d e f g h == 2) = true := by rw [s2]; rfl
      have hE := hide (hm.2 s2)
      clear s1 s2 hm hok
      go_enter Try.func20, Try.ntmps20
      go_wp2_with (first | (go_at_call 18; (with_reducible refine (H _).mono ?_); rintro e w1 ⟨rfl, hb1⟩; obtain ⟨hc1, hf1⟩ := bcell hb1; have hw1 : Below w.heap.size w w1 := bl_call (by repeat (first | exact Below.refl _ _ | assumption | (refine bl_alloc ?_ (Nat.le_refl _) _) | (refine bl_set ?_ (by simp <;> omega) _))) hb1; have hz1 : w.heap.size + 5 ≤ w1.heap.size := (by have hq := hb1.size; have hr := hw1.size; (try simp at hq); omega); have hza : w.heap.size < w1.heap.size := (by omega); have hzb : w.heap.size + 1 < w1.heap.size := (by omega); have hzc : w.heap.size + 1 + 1 < w1.heap.size := (by omega); have hzd : w.heap.size + 1 + 1 + 1 < w1.heap.size := (by omega); have hze : w.heap.size + 1 + 1 + 1 + 1 < w1.heap.size := (by omega); have hz4 := hb1.size; (try simp at hz4); (try have hz5 := Nat.lt_of_succ_le hz4)) | (go_at_call 70; (with_reducible refine (l03Crossing_cross _ _ _ _ _ _ _ _ h1 h2 h3 h4 hE.out.1 hE.out.2 _).mono ?_); rintro e w1 ⟨rfl, hb1⟩; obtain ⟨hc1, hf1⟩ := bcell hb1; have hw1 : Below w.heap.size w w1 := bl_call (by repeat (first | exact Below.refl _ _ | assumption | (refine bl_alloc ?_ (Nat.le_refl _) _) | (refine bl_set ?_ (by simp <;> omega) _))) hb1; have hz1 : w.heap.size + 5 ≤ w1.heap.size := (by have hq := hb1.size; have hr := hw1.size; (try simp at hq); omega); have hza : w.heap.size < w1.heap.size := (by omega); have hzb : w.heap.size + 1 < w1.heap.size := (by omega); have hzc : w.heap.size + 1 + 1 < w1.heap.size := (by omega); have hzd : w.heap.size + 1 + 1 + 1 < w1.heap.size := (by omega); have hze : w.heap.size + 1 + 1 + 1 + 1 < w1.heap.size := (by omega); have hz4 := hb1.size; (try simp at hz4); (try have hz5 := Nat.lt_of_succ_le hz4)))
      refine bodyPost_ret (v := croV a b c d e f g h) ?_ rfl ⟨rfl, (by repeat (first | exact Below.refl _ _ | assumption | (refine bl_alloc ?_ (Nat.le_refl _) _) | (refine bl_set ?_ (by simp <;> omega) _)))⟩
      rw [HR.out]; simp [results, Try.results20, go_sem, crV, *]
    · have HR := hide (cro_3 hok s1 s2)
      have q1 : (skV a b c d e f g h == 1) = false := by simpa using s1
      have q2 : (skV a b c d e f g h == 2) = false := by simpa using s2
      clear s1 s2 hm hok
      go_enter Try.func20, Try.ntmps20
      go_wp2_with (first | (go_at_call 18; (with_reducible refine (H _).mono ?_); rintro e w1 ⟨rfl, hb1⟩; obtain ⟨hc1, hf1⟩ := bcell hb1; have hw1 : Below w.heap.size w w1 := bl_call (by repeat (first | exact Below.refl _ _ | assumption | (refine bl_alloc ?_ (Nat.le_refl _) _) | (refine bl_set ?_ (by simp <;> omega) _))) hb1; have hz1 : w.heap.size + 5 ≤ w1.heap.size := (by have hq := hb1.size; have hr := hw1.size; (try simp at hq); omega); have hza : w.heap.size < w1.heap.size := (by omega); have hzb : w.heap.size + 1 < w1.heap.size := (by omega); have hzc : w.heap.size + 1 + 1 < w1.heap.size := (by omega); have hzd : w.heap.size + 1 + 1 + 1 < w1.heap.size := (by omega); have hze : w.heap.size + 1 + 1 + 1 + 1 < w1.heap.size := (by omega); have hz4 := hb1.size; (try simp at hz4); (try have hz5 := Nat.lt_of_succ_le hz4)))
      refine bodyPost_ret (v := croV a b c d e f g h) ?_ rfl ⟨rfl, (by repeat (first | exact Below.refl _ _ | assumption | (refine bl_alloc ?_ (Nat.le_refl _) _) | (refine bl_set ?_ (by simp <;> omega) _)))⟩
      rw [HR.out]; simp [results, Try.results20, go_sem, crV, *]
  · have hf := ok4_f hk
    have HR := hide (cro_bad hf)
    rw [mof_f hf] at H
    clear hf hk
    go_enter Try.func20, Try.ntmps20
    go_wp2_with (first | (go_at_call 18; (with_reducible refine (H _).mono ?_); rintro e w1 ⟨rfl, hb1⟩; obtain ⟨hc1, hf1⟩ := bcell hb1; have hw1 : Below w.heap.size w w1 := bl_call (by repeat (first | exact Below.refl _ _ | assumption | (refine bl_alloc ?_ (Nat.le_refl _) _) | (refine bl_set ?_ (by simp <;> omega) _))) hb1; have hz1 : w.heap.size + 5 ≤ w1.heap.size := (by have hq := hb1.size; have hr := hw1.size; (try simp at hq); omega); have hza : w.heap.size < w1.heap.size := (by omega); have hzb : w.heap.size + 1 < w1.heap.size := (by omega); have hzc : w.heap.size + 1 + 1 < w1.heap.size := (by omega); have hzd : w.heap.size + 1 + 1 + 1 < w1.heap.size := (by omega); have hze : w.heap.size + 1 + 1 + 1 + 1 < w1.heap.size := (by omega); have hz4 := hb1.size; (try simp at hz4); (try have hz5 := Nat.lt_of_succ_le hz4)))
    refine bodyPost_ret (v := croV a b c d e f g h) ?_ rfl ⟨rfl, (by repeat (first | exact Below.refl _ _ | assumption | (refine bl_alloc ?_ (Nat.le_refl _) _) | (refine bl_set ?_ (by simp <;> omega) _)))⟩
    rw [HR.out]; simp [results, Try.results20, go_sem, crV, *]
set_option maxHeartbeats 4000000 in
theorem fnCrossingOf (a b c d e f g h : Int) (_ : (Lit.int .i64 a).wf = true) (_ : (Lit.int .i64 b).wf = true) (_ : (Lit.int .i64 c).wf = true) (_ : (Lit.int .i64 d).wf = true) (_ : (Lit.int .i64 e).wf = true) (_ : (Lit.int .i64 f).wf = true) (_ : (Lit.int .i64 g).wf = true) (_ : (Lit.int .i64 h).wf = true) (w : World) :
    Calls Try.prog 6 #[.agg #[.int .i64 a, .int .i64 b], .agg #[.int .i64 c, .int .i64 d], .agg #[.int .i64 e, .int .i64 f], .agg #[.int .i64 g, .int .i64 h]] w fun E w' => E = .returned (.bool true) ∧ Below w.heap.size w w' := by
  have he := eqP_self (croX a b c d e f g h) (croY a b c d e f g h)
  have HS := crossingOf_s a b c d e f g h
  have HI := crossingOf_i a b c d e f g h
  unfold croV at HS HI
  go_enter Try.func6, Try.ntmps6
  go_wp2
  refine wp_region_made 12 _ _ (.cells #[.int .i64 0, .int .i64 0] 25) (.cells #[.int .i64 (croX a b c d e f g h), .int .i64 (croY a b c d e f g h)] 25) (by kernel_rfl) (by kernel_rfl) rfl rfl (fun _ _ => by kernel_rfl) ?_
  simp only [List.take_succ_cons, List.take_zero, List.drop_succ_cons, List.drop_zero]
  repeat (refine wpSteady_step (fun K hK => ?_); go_simp; first | (refine hK _ ?_; clear hK K) | (apply Exists.intro; refine ⟨fun _ => ?_, hK _ ?_⟩; (first | (go_at_call 14; with_reducible exact keeps_of (toPt_any _ _ _)) | (go_at_call 20; with_reducible exact keeps_of (HS _))); clear hK K))
  refine wpSteady_nil ?_
  refine ⟨?_, ?_⟩
  · intro gx w1 _ hx
    have hk := cell_blk hx
    have hf := frozen_blk hx
    exact ⟨(World.setCell (World.setCell w1 ⟨gx, 0, none⟩ (.int .i64 (croX a b c d e f g h))) ⟨gx, 1, none⟩ (.int .i64 (croY a b c d e f g h))), (by simp [go_sem, hk, hf]), (heap_set (heap_set hx 0 _) 1 _), (only_set ((only_set (only_refl w1 gx) 0 _)) 1 _)⟩
  intro gx w1 hgx hlx hb1 hx
  have hkx := cell_blk hx
  have hfx := frozen_blk hx
  clear hx
  try simp at hgx
  obtain ⟨hc1, hf1⟩ := bcell hb1
  have hw1 : Below w.heap.size w w1 := bl_call (by repeat (first | exact Below.refl _ _ | assumption | (refine bl_alloc ?_ (Nat.le_refl _) _) | (refine bl_set ?_ (by simp <;> omega) _))) hb1
  have hz1 : w.heap.size + 4 ≤ w1.heap.size := (by have hq := hb1.size; have hr := hw1.size; (try simp at hq); omega)
  have hza : w.heap.size < w1.heap.size := (by omega)
  have hzb : w.heap.size + 1 < w1.heap.size := (by omega)
  have hzc : w.heap.size + 1 + 1 < w1.heap.size := (by omega)
  have hzd : w.heap.size + 1 + 1 + 1 < w1.heap.size := (by omega)
  go_wp2
  refine wp_region_made 12 _ _ (.cells #[.int .i64 0, .int .i64 0] 25) (.cells #[.int .i64 (croX a b c d e f g h), .int .i64 (croY a b c d e f g h)] 25) (by kernel_rfl) (by kernel_rfl) rfl rfl (fun _ _ => by kernel_rfl) ?_
  simp only [List.take_succ_cons, List.take_zero, List.drop_succ_cons, List.drop_zero]
  repeat (refine wpSteady_step (fun K hK => ?_); go_simp; first | (refine hK _ ?_; clear hK K) | (apply Exists.intro; refine ⟨fun _ => ?_, hK _ ?_⟩; (first | (go_at_call 14; with_reducible exact keeps_of (toPt_any _ _ _)) | (go_at_call 21; with_reducible exact keeps_of (HI _))); clear hK K))
  refine wpSteady_nil ?_
  refine ⟨?_, ?_⟩
  · intro gy w1 _ hx
    have hk := cell_blk hx
    have hf := frozen_blk hx
    exact ⟨(World.setCell (World.setCell w1 ⟨gy, 0, none⟩ (.int .i64 (croX a b c d e f g h))) ⟨gy, 1, none⟩ (.int .i64 (croY a b c d e f g h))), (by simp [go_sem, hk, hf]), (heap_set (heap_set hx 0 _) 1 _), (only_set ((only_set (only_refl w1 gy) 0 _)) 1 _)⟩
  intro gy w1 hgy hly hb1 hx
  have hky := cell_blk hx
  have hfy := frozen_blk hx
  clear hx
  try simp at hgy
  obtain ⟨hc1, hf1⟩ := bcell hb1
  have hw1 : Below w.heap.size w w1 := bl_call (by repeat (first | exact Below.refl _ _ | assumption | (refine bl_alloc ?_ (Nat.le_refl _) _) | (refine bl_set ?_ (by simp <;> omega) _))) hb1
  have hz1 : w.heap.size + 4 ≤ w1.heap.size := (by have hq := hb1.size; have hr := hw1.size; (try simp at hq); omega)
  have hza : w.heap.size < w1.heap.size := (by omega)
  have hzb : w.heap.size + 1 < w1.heap.size := (by omega)
  have hzc : w.heap.size + 1 + 1 < w1.heap.size := (by omega)
  have hzd : w.heap.size + 1 + 1 + 1 < w1.heap.size := (by omega)
  go_wp2_with (go_at_call 22; (with_reducible refine (eqPt_any _ _ _ _ _).mono ?_); rintro e w1 ⟨rfl, hb1⟩; obtain ⟨hc1, hf1⟩ := bcell hb1; have hw1 : Below w.heap.size w w1 := bl_call (by repeat (first | exact Below.refl _ _ | assumption | (refine bl_alloc ?_ (Nat.le_refl _) _) | (refine bl_set ?_ (by simp <;> omega) _))) hb1; have hz1 : w.heap.size + 4 ≤ w1.heap.size := (by have hq := hb1.size; have hr := hw1.size; (try simp at hq); omega); have hza : w.heap.size < w1.heap.size := (by omega); have hzb : w.heap.size + 1 < w1.heap.size := (by omega); have hzc : w.heap.size + 1 + 1 < w1.heap.size := (by omega); have hzd : w.heap.size + 1 + 1 + 1 < w1.heap.size := (by omega); have hz4 := hb1.size; (try simp at hz4); (try have hz5 := Nat.lt_of_succ_le hz4))
  go_ret
  exact ⟨rfl, (by repeat (first | exact Below.refl _ _ | assumption | (refine bl_alloc ?_ (Nat.le_refl _) _) | (refine bl_set ?_ (by simp <;> omega) _)))⟩
end Go.Proofs.Ythellegojnndlaa
