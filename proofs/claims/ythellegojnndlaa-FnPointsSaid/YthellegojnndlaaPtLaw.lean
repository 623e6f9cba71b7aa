/-
  PLAIN LAW OF POINTS (what FnPoints asks): turns, distances, the order of directions, nearness at the distance 0 and of the middle. No program in sight. Conditions: those of each lemma.
-/
import Derived.Test.YthellegojnndlaaNear
import Derived.Test.YthellegojnndlaaMid
import Derived.Test.YthellegojnndlaaEnds
namespace Go.Proofs.Ythellegojnndlaa
open Go.RowKit
set_option linter.unusedVariables false

theorem tn_swap (a b c d e f : Int) : tn c d a b e f = -tn a b c d e f := by unfold tn; grind
theorem tn_turn (a b c d e f : Int) : tn c d e f a b = tn a b c d e f := by unfold tn; grind
theorem tn_last (a b c d e f : Int) : tn a b e f c d = -tn a b c d e f := by unfold tn; grind
theorem dsq_swap (a b c d : Int) : dsq c d a b = dsq a b c d := by unfold dsq; grind
theorem sq_z {x : Int} (h : x * x = 0) : x = 0 := by
  rcases Int.mul_eq_zero.mp h with h | h <;> exact h
theorem dsq_zero (a b c d : Int) : dsq a b c d = 0 ↔ a = c ∧ b = d := by
  unfold dsq
  constructor
  · intro h
    have h1 := sq_nn (c - a)
    have h2 := sq_nn (d - b)
    have h3 : (c - a) * (c - a) = 0 := by omega
    have h4 : (d - b) * (d - b) = 0 := by omega
    have h5 := sq_z h3
    have h6 := sq_z h4
    omega
  · rintro ⟨rfl, rfl⟩
    simp
theorem dot_swap (a b c d e f : Int) : dot c d a b e f = dsq a b c d - dot a b c d e f := by unfold dot dsq; grind
theorem near_swap (a b c d e f r : Int) : nearB c d a b e f r = nearB a b c d e f r := by
  have h1 := cosine a b c d e f
  have h2 := dsq_nn a b c d
  have h3 := dot_swap a b c d e f
  have h4 := dsq_swap a b c d
  have h5 := tn_swap a b c d e f
  unfold nearB
  rw [h3, h4, h5, Int.neg_mul_neg]
  by_cases x1 : dot a b c d e f ≤ 0
  · rw [if_pos x1]
    by_cases x2 : dsq a b c d - dot a b c d e f ≤ 0
    · rw [if_pos x2, decide_eq_decide]; omega
    · rw [if_neg x2, if_pos (by omega)]
  · rw [if_neg x1]
    by_cases x2 : dsq a b c d ≤ dot a b c d e f
    · rw [if_pos x2, if_pos (by omega)]
    · rw [if_neg x2, if_neg (by omega), if_neg (by omega)]
theorem near_mono {a b c d e f r s : Int} (h0 : 0 ≤ r) (h : r ≤ s) (hn : nearB a b c d e f r = true) : nearB a b c d e f s = true := by
  have h1 : r * r ≤ s * s := Int.mul_le_mul h h h0 (by omega)
  have h2 := dsq_nn a b c d
  have h3 := Int.mul_le_mul_of_nonneg_right h1 h2
  unfold nearB at *
  by_cases x1 : dot a b c d e f ≤ 0
  · rw [if_pos x1, decide_eq_true_eq] at *; omega
  · by_cases x2 : dsq a b c d ≤ dot a b c d e f
    · rw [if_neg x1, if_pos x2, decide_eq_true_eq] at *; omega
    · rw [if_neg x1, if_neg x2, decide_eq_true_eq] at *; omega
theorem same_side {p u : Int} (h1 : min 0 u ≤ p) (h2 : p ≤ max 0 u) : 0 ≤ p * u ∧ (p * u = 0 → p = 0) := by
  rcases Int.le_total 0 u with h | h
  · have hp : 0 ≤ p := by omega
    refine ⟨Int.mul_nonneg hp h, fun h3 => ?_⟩
    rcases Int.mul_eq_zero.mp h3 with h4 | h4 <;> omega
  · have hp : p ≤ 0 := by omega
    refine ⟨Int.mul_nonneg_of_nonpos_of_nonpos hp h, fun h3 => ?_⟩
    rcases Int.mul_eq_zero.mp h3 with h4 | h4 <;> omega
theorem between_of {p u D L : Int} (hD : 0 < D) (hL : D < L) (h : L * p = u * D) : min 0 u ≤ p ∧ p ≤ max 0 u := by
  rcases Int.le_total 0 u with hu | hu
  · have h1 : 0 ≤ u * D := Int.mul_nonneg hu (by omega)
    have h2 : u * D ≤ u * L := Int.mul_le_mul_of_nonneg_left (by omega) hu
    have h3 : L * 0 ≤ L * p := by rw [h]; simpa using h1
    have h4 : L * p ≤ L * u := by rw [h, Int.mul_comm L u]; exact h2
    have h5 := Int.le_of_mul_le_mul_left h3 (by omega)
    have h6 := Int.le_of_mul_le_mul_left h4 (by omega)
    omega
  · have h1 : u * D ≤ 0 := Int.mul_nonpos_of_nonpos_of_nonneg hu (by omega)
    have h2 : u * L ≤ u * D := Int.mul_le_mul_of_nonpos_left hu (by omega)
    have h3 : L * p ≤ L * 0 := by rw [h]; simpa using h1
    have h4 : L * u ≤ L * p := by rw [h, Int.mul_comm L u]; exact h2
    have h5 := Int.le_of_mul_le_mul_left h3 (by omega)
    have h6 := Int.le_of_mul_le_mul_left h4 (by omega)
    omega
theorem on_near (a b c d e f : Int) : onB a b c d e f = nearB a b c d e f 0 := by
  have h1 := cosine a b c d e f
  have h2 := dsq_nn a b c d
  rw [Bool.eq_iff_iff]
  constructor
  · intro h
    obtain ⟨s1, s2, s3, s4, s5⟩ := onB_t h
    obtain ⟨k1, k2⟩ := same_side (p := e - a) (u := c - a) (by omega) (by omega)
    obtain ⟨k3, k4⟩ := same_side (p := f - b) (u := d - b) (by omega) (by omega)
    obtain ⟨m1, m2⟩ := same_side (p := c - e) (u := c - a) (by omega) (by omega)
    obtain ⟨m3, m4⟩ := same_side (p := d - f) (u := d - b) (by omega) (by omega)
    unfold nearB
    split
    · rename_i hd
      apply decide_eq_true
      have hd' : (e - a) * (c - a) + (f - b) * (d - b) ≤ 0 := hd
      have z1 := k2 (by omega)
      have z2 := k4 (by omega)
      unfold dsq
      rw [z1, z2]; simp
    · split
      · rename_i hd hl
        apply decide_eq_true
        have hl' : (c - a) * (c - a) + (d - b) * (d - b) ≤ (e - a) * (c - a) + (f - b) * (d - b) := hl
        have e1 : (c - e) * (c - a) = (c - a) * (c - a) - (e - a) * (c - a) := by grind
        have e2 : (d - f) * (d - b) = (d - b) * (d - b) - (f - b) * (d - b) := by grind
        have z1 := m2 (by omega)
        have z2 := m4 (by omega)
        have z3 : e - c = 0 := by omega
        have z4 : f - d = 0 := by omega
        unfold dsq
        rw [z3, z4]; simp
      · rw [s1]; simp
  · intro h
    unfold nearB at h
    split at h
    · rw [decide_eq_true_eq] at h
      have h3 := dsq_nn a b e f
      obtain ⟨rfl, rfl⟩ := (dsq_zero a b e f).mp (by omega)
      exact onB_1 a b c d
    · split at h
      · rw [decide_eq_true_eq] at h
        have h3 := dsq_nn c d e f
        obtain ⟨rfl, rfl⟩ := (dsq_zero c d e f).mp (by omega)
        exact onB_2 a b c d
      · rename_i hd hl
        rw [decide_eq_true_eq] at h
        have h3 := sq_nn (tn a b c d e f)
        have h4 : tn a b c d e f * tn a b c d e f = 0 := by omega
        have h5 := sq_z h4
        have hv : (c - a) * (f - b) = (d - b) * (e - a) := by unfold tn at h5; omega
        have b1 := between_of (p := e - a) (u := c - a) (D := dot a b c d e f) (L := dsq a b c d) (by omega) (by omega) (by unfold dot dsq; grind)
        have b2 := between_of (p := f - b) (u := d - b) (D := dot a b c d e f) (L := dsq a b c d) (by omega) (by omega) (by unfold dot dsq; grind)
        unfold onB boxB
        simp only [Bool.and_eq_true, decide_eq_true_eq]
        refine ⟨h5, ?_⟩
        omega
theorem rnd_two (n : Int) : 2 * rnd n 2 = n ∨ 2 * rnd n 2 = n + 1 := by
  unfold rnd; split <;> omega
theorem mid_four {u v x y : Int} (hx : x = 0 ∨ x = 1) (hy : y = 0 ∨ y = 1) : (u * y - v * x) * (u * y - v * x) ≤ 2 * (u * u + v * v) := by
  have h1 := sq_nn u
  have h2 := sq_nn v
  have h3 := sq_nn (u + v)
  have e1 : (u + v) * (u + v) = u * u + 2 * (u * v) + v * v := by grind
  have e2 : (u - v) * (u - v) = u * u - 2 * (u * v) + v * v := by grind
  rcases hx with rfl | rfl <;> rcases hy with rfl | rfl
  · have e3 : (u * 0 - v * 0) * (u * 0 - v * 0) = 0 := by simp
    omega
  · have e3 : (u * 1 - v * 0) * (u * 1 - v * 0) = u * u := by simp
    omega
  · have e3 : (u * 0 - v * 1) * (u * 0 - v * 1) = v * v := by grind
    omega
  · have e3 : (u * 1 - v * 1) * (u * 1 - v * 1) = u * u - 2 * (u * v) + v * v := by grind
    omega
theorem near_half (a b c d : Int) : nearB a b c d (rnd (a + c) 2) (rnd (b + d) 2) 1 = true := by
  have hm := rnd_two (a + c)
  have hk := rnd_two (b + d)
  generalize rnd (a + c) 2 = m at *
  generalize rnd (b + d) 2 = k at *
  obtain ⟨x, hx, hm⟩ : ∃ x : Int, (x = 0 ∨ x = 1) ∧ 2 * m = a + c + x := by
    rcases hm with h | h
    · exact ⟨0, by omega, by omega⟩
    · exact ⟨1, by omega, by omega⟩
  obtain ⟨y, hy, hk⟩ : ∃ y : Int, (y = 0 ∨ y = 1) ∧ 2 * k = b + d + y := by
    rcases hk with h | h
    · exact ⟨0, by omega, by omega⟩
    · exact ⟨1, by omega, by omega⟩
  have hxx : x * x ≤ 1 := by rcases hx with rfl | rfl <;> decide
  have hyy : y * y ≤ 1 := by rcases hy with rfl | rfl <;> decide
  have hL := dsq_nn a b c d
  have h2 : 2 * dot a b c d m k = dsq a b c d + (x * (c - a) + y * (d - b)) := by unfold dot dsq; grind
  have h4 : 4 * dsq a b m k = dsq a b c d + 2 * (x * (c - a) + y * (d - b)) + x * x + y * y := by unfold dsq; grind
  have h5 : 4 * dsq c d m k = dsq a b c d - 2 * (x * (c - a) + y * (d - b)) + x * x + y * y := by unfold dsq; grind
  have h6 : 4 * (tn a b c d m k * tn a b c d m k) = ((c - a) * y - (d - b) * x) * ((c - a) * y - (d - b) * x) := by
    have : 2 * tn a b c d m k = (c - a) * y - (d - b) * x := by unfold tn; grind
    rw [← this]; grind
  have h7 := mid_four (u := c - a) (v := d - b) hx hy
  have h8 : dsq a b c d = (c - a) * (c - a) + (d - b) * (d - b) := rfl
  unfold nearB
  split
  · apply decide_eq_true; omega
  · split
    · apply decide_eq_true; omega
    · apply decide_eq_true; omega
/-- in one half: an order -/
theorem half_trans {ax ay bx by_ cx cy : Int} (h1 : 0 < ay ∨ (ay = 0 ∧ 0 < ax)) (h2 : 0 < by_ ∨ (by_ = 0 ∧ 0 < bx)) (h3 : 0 < cy ∨ (cy = 0 ∧ 0 < cx)) (g1 : 0 ≤ ax * by_ - ay * bx) (g2 : 0 ≤ bx * cy - by_ * cx) : 0 ≤ ax * cy - ay * cx := by
  rcases h2 with h2 | ⟨h2, h4⟩
  · have e : by_ * (ax * cy - ay * cx) = ay * (bx * cy - by_ * cx) + cy * (ax * by_ - ay * bx) := by grind
    have k1 : 0 ≤ ay * (bx * cy - by_ * cx) := Int.mul_nonneg (by omega) g2
    have k2 : 0 ≤ cy * (ax * by_ - ay * bx) := Int.mul_nonneg (by omega) g1
    have k3 : by_ * 0 ≤ by_ * (ax * cy - ay * cx) := by rw [e]; omega
    exact Int.le_of_mul_le_mul_left k3 h2
  · subst h2
    have k1 : ay * bx ≤ 0 := by omega
    have k2 : ay = 0 := by
      rcases Int.lt_trichotomy ay 0 with h | h | h
      · omega
      · exact h
      · have := Int.mul_pos h h4; omega
    subst k2
    have k3 : 0 ≤ ax * cy := Int.mul_nonneg (by omega) (by omega)
    omega
theorem sg_le (n : Int) : sg n ≤ 0 ↔ n ≤ 0 := by unfold sg; split <;> (try split) <;> omega
theorem sg_ge (n : Int) : 0 ≤ sg n ↔ 0 ≤ n := by unfold sg; split <;> (try split) <;> omega
theorem sg_neg (n : Int) : sg (-n) = -sg n := by unfold sg; split <;> split <;> (try split) <;> omega
theorem arB_le (a b c d e f : Int) : arB a b c d e f ≤ 0 ↔ half a b c d < half a b e f ∨ (half a b c d = half a b e f ∧ 0 ≤ tn a b c d e f) := by
  unfold arB
  split
  · have := sg_ge (tn a b c d e f); omega
  · have := sg_le (half a b c d - half a b e f); omega
theorem half_0 {a b c d : Int} (h : half a b c d = 0) : 0 < d - b ∨ (d - b = 0 ∧ 0 < c - a) := by
  unfold half at h; split at h <;> omega
theorem half_1 {a b c d : Int} (h : half a b c d = 1) (hn : ¬ (c = a ∧ d = b)) : 0 < b - d ∨ (b - d = 0 ∧ 0 < a - c) := by
  unfold half at h; split at h <;> omega
theorem arB_trans {a b c d e f g h : Int} (n1 : ¬ (c = a ∧ d = b)) (n2 : ¬ (e = a ∧ f = b)) (n3 : ¬ (g = a ∧ h = b)) (h1 : arB a b c d e f ≤ 0) (h2 : arB a b e f g h ≤ 0) : arB a b c d g h ≤ 0 := by
  rw [arB_le] at *
  have u1 := half_bdd a b c d
  have u2 := half_bdd a b e f
  have u3 := half_bdd a b g h
  by_cases q : half a b c d = half a b e f ∧ half a b e f = half a b g h
  · obtain ⟨q1, q2⟩ := q
    refine .inr ⟨q1.trans q2, ?_⟩
    have t1 : 0 ≤ tn a b c d e f := by omega
    have t2 : 0 ≤ tn a b e f g h := by omega
    unfold tn at *
    by_cases z : half a b c d = 0
    · exact half_trans (half_0 z) (half_0 (by omega)) (half_0 (by omega)) t1 t2
    · have k := half_trans (half_1 (a := a) (b := b) (c := c) (d := d) (by omega) n1) (half_1 (a := a) (b := b) (c := e) (d := f) (by omega) n2) (half_1 (a := a) (b := b) (c := g) (d := h) (by omega) n3) (by grind) (by grind)
      have e1 : (a - c) * (b - h) - (b - d) * (a - g) = (c - a) * (h - b) - (d - b) * (g - a) := by grind
      omega
  · omega
theorem arB_swap (a b c d e f : Int) : arB a b e f c d = -arB a b c d e f := by
  unfold arB
  have e1 : tn a b e f c d = -tn a b c d e f := tn_last a b c d e f
  by_cases q : half a b c d = half a b e f
  · rw [if_pos q, if_pos q.symm, e1, sg_neg]
  · rw [if_neg q, if_neg (fun h => q h.symm), ← sg_neg]
    congr 1
    omega
end Go.Proofs.Ythellegojnndlaa
