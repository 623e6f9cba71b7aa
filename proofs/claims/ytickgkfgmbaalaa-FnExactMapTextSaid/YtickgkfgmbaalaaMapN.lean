/-
  CONTRACTS of the negative of a fraction (impl.negFrac, spec.l04Neg) and of the reference's l04Two. Conditions: integers of 64 bits; the fractions of l04Two are valid.
-/
import Derived.Test.YtickgkfgmbaalaaMapD
namespace Go.Proofs.Ytickgkfgmbaalaa
open Go.RowKit Go.Sort
set_option linter.unusedVariables false
attribute [local go_sem] cell_grow frozen_grow
attribute [local go_sem] Oper.quietAt Oper.quietUpon
theorem neg_wrap {a : Int} (h0 : -9223372036854775808 < a) (h1 : a ≤ 9223372036854775807) : (-a + 9223372036854775808) % 18446744073709551616 - 9223372036854775808 = -a := by omega
theorem okF_neg {p : F2} (h : okF p = true) : okF (negF p) = true := by
  obtain ⟨a, b⟩ := p
  exact okFr_neg h
theorem negFrac_any (p : F2) (h : okF p = true) (w : World) : Calls Try.prog 48 #[.agg #[.int .i64 p.1, .int .i64 p.2]] w fun e w' => e = .returned (.agg #[.int .i64 (-p.1), .int .i64 p.2]) ∧ Below w.heap.size w w' := by
  obtain ⟨_, _, p3, p4, _⟩ := okFr_t h
  have hn := neg_wrap (a := p.1) (by omega) (by omega)
  go_enter Try.func48, Try.ntmps48
  go_wp2
  exact bodyPost_ret (v := .agg #[.int .i64 (-p.1), .int .i64 p.2]) (by simp [results, Try.results48, go_sem, *]) rfl ⟨rfl, (by repeat (first | (with_reducible refine bl_set ?_ (by simp <;> omega) _) | (with_reducible refine bl_alloc ?_ (Nat.le_refl _) _) | (with_reducible refine Below.drew ?_) | (with_reducible assumption) | (with_reducible exact Below.refl _ _)))⟩
theorem l04Neg_any (p : F2) (h : okF p = true) (w : World) : Calls Try.prog 56 #[.agg #[.int .i64 p.1, .int .i64 p.2]] w fun e w' => e = .returned (.agg #[.int .i64 (-p.1), .int .i64 p.2]) ∧ Below w.heap.size w w' := by
  obtain ⟨_, _, p3, p4, _⟩ := okFr_t h
  have hn := neg_wrap (a := p.1) (by omega) (by omega)
  go_enter Try.func56, Try.ntmps56
  go_wp2
  exact bodyPost_ret (v := .agg #[.int .i64 (-p.1), .int .i64 p.2]) (by simp [results, Try.results56, go_sem, *]) rfl ⟨rfl, (by repeat (first | (with_reducible refine bl_set ?_ (by simp <;> omega) _) | (with_reducible refine bl_alloc ?_ (Nat.le_refl _) _) | (with_reducible refine Below.drew ?_) | (with_reducible assumption) | (with_reducible exact Below.refl _ _)))⟩
set_option maxRecDepth 100000 in
set_option maxHeartbeats 8000000 in
theorem l04Two_any (a b c d : F2) (ha : okF a = true) (hb : okF b = true) (hc : okF c = true) (hd : okF d = true) (w : World) :
    Calls Try.prog 58 #[.agg #[.int .i64 a.1, .int .i64 a.2], .agg #[.int .i64 b.1, .int .i64 b.2], .agg #[.int .i64 c.1, .int .i64 c.2], .agg #[.int .i64 d.1, .int .i64 d.2]] w
      fun e w' => e = .returned (.tuple #[.agg #[.int .i64 (cnd (dotG a b c d) (dotF a b c d).1), .int .i64 (cnd (dotG a b c d) (dotF a b c d).2)], .bool (dotG a b c d)]) ∧ Below w.heap.size w w' := by
  have H1 := mulFrac_s a.1 a.2 b.1 b.2 (okF_I ha).1 (okF_I ha).2 (okF_I hb).1 (okF_I hb).2
  have H2 := mulFrac_s c.1 c.2 d.1 d.2 (okF_I hc).1 (okF_I hc).2 (okF_I hd).1 (okF_I hd).2
  by_cases k1 : mulK a b = 0
  · by_cases k2 : mulK c d = 0
    · have m1 := (mulF_v ha hb k1).1
      have m2 := (mulF_v hc hd k2).1
      have H3 := addFrac_s (mulN a.1 a.2 b.1 b.2) (mulD a.1 a.2 b.1 b.2) (mulN c.1 c.2 d.1 d.2) (mulD c.1 c.2 d.1 d.2) (okF_I m1).1 (okF_I m1).2 (okF_I m2).1 (okF_I m2).2
      have HG := hide (show dotG a b c d = decide (addK (mulF a b) (mulF c d) = 0) by unfold dotG; rw [decide_eq_true k1, decide_eq_true k2]; rfl)
      obtain ⟨e1, e2⟩ := rN_cnd ((mulF a b).1 * (mulF c d).2 + (mulF c d).1 * (mulF a b).2) ((mulF a b).2 * (mulF c d).2) (okFr (mulF a b).1 (mulF a b).2 && okFr (mulF c d).1 (mulF c d).2)
      have HV1 := hide (show addN (mulN a.1 a.2 b.1 b.2) (mulD a.1 a.2 b.1 b.2) (mulN c.1 c.2 d.1 d.2) (mulD c.1 c.2 d.1 d.2) = cnd (decide (addK (mulF a b) (mulF c d) = 0)) (dotF a b c d).1 from e1)
      have HV2 := hide (show addD (mulN a.1 a.2 b.1 b.2) (mulD a.1 a.2 b.1 b.2) (mulN c.1 c.2 d.1 d.2) (mulD c.1 c.2 d.1 d.2) = cnd (decide (addK (mulF a b) (mulF c d) = 0)) (dotF a b c d).2 from e2)
      have q1 : mulC a.1 a.2 b.1 b.2 = 0 := k1
      have q2 : mulC c.1 c.2 d.1 d.2 = 0 := k2
      clear e1 e2 k1 k2 m1 m2
      go_enter Try.func58, Try.ntmps58
      go_wp2_with (first | (go_at_call 77; (with_reducible refine (H1 _).mono ?_); rintro e w1 ⟨rfl, hb1⟩; obtain ⟨hc1, hf1⟩ := bcell hb1; have hw1 : Below w.heap.size w w1 := bl_call (by repeat (first | exact Below.refl _ _ | assumption | (refine bl_alloc ?_ (Nat.le_refl _) _) | (refine bl_set ?_ (by simp <;> omega) _))) hb1; have hz1 : w.heap.size + 5 ≤ w1.heap.size := (by have hq := hb1.size; have hr := hw1.size; (try simp at hq); omega); have hza : w.heap.size < w1.heap.size := (by omega); have hzb : w.heap.size + 1 < w1.heap.size := (by omega); have hzc : w.heap.size + 1 + 1 < w1.heap.size := (by omega); have hzd : w.heap.size + 1 + 1 + 1 < w1.heap.size := (by omega); have hze : w.heap.size + 1 + 1 + 1 + 1 < w1.heap.size := (by omega); have hz4 := hb1.size; (try simp at hz4); (try have hz5 := Nat.lt_of_succ_le hz4)) | (go_at_call 77; (with_reducible refine (H2 _).mono ?_); rintro e w1 ⟨rfl, hb1⟩; obtain ⟨hc1, hf1⟩ := bcell hb1; have hw1 : Below w.heap.size w w1 := bl_call (by repeat (first | exact Below.refl _ _ | assumption | (refine bl_alloc ?_ (Nat.le_refl _) _) | (refine bl_set ?_ (by simp <;> omega) _))) hb1; have hz1 : w.heap.size + 5 ≤ w1.heap.size := (by have hq := hb1.size; have hr := hw1.size; (try simp at hq); omega); have hza : w.heap.size < w1.heap.size := (by omega); have hzb : w.heap.size + 1 < w1.heap.size := (by omega); have hzc : w.heap.size + 1 + 1 < w1.heap.size := (by omega); have hzd : w.heap.size + 1 + 1 + 1 < w1.heap.size := (by omega); have hze : w.heap.size + 1 + 1 + 1 + 1 < w1.heap.size := (by omega); have hz4 := hb1.size; (try simp at hz4); (try have hz5 := Nat.lt_of_succ_le hz4)) | (go_at_call 72; (with_reducible refine (H3 _).mono ?_); rintro e w1 ⟨rfl, hb1⟩; obtain ⟨hc1, hf1⟩ := bcell hb1; have hw1 : Below w.heap.size w w1 := bl_call (by repeat (first | exact Below.refl _ _ | assumption | (refine bl_alloc ?_ (Nat.le_refl _) _) | (refine bl_set ?_ (by simp <;> omega) _))) hb1; have hz1 : w.heap.size + 5 ≤ w1.heap.size := (by have hq := hb1.size; have hr := hw1.size; (try simp at hq); omega); have hza : w.heap.size < w1.heap.size := (by omega); have hzb : w.heap.size + 1 < w1.heap.size := (by omega); have hzc : w.heap.size + 1 + 1 < w1.heap.size := (by omega); have hzd : w.heap.size + 1 + 1 + 1 < w1.heap.size := (by omega); have hze : w.heap.size + 1 + 1 + 1 + 1 < w1.heap.size := (by omega); have hz4 := hb1.size; (try simp at hz4); (try have hz5 := Nat.lt_of_succ_le hz4)))
      refine bodyPost_ret (v := .tuple #[.agg #[.int .i64 (cnd (dotG a b c d) (dotF a b c d).1), .int .i64 (cnd (dotG a b c d) (dotF a b c d).2)], .bool (dotG a b c d)]) ?_ rfl ⟨rfl, (by repeat (first | (with_reducible refine bl_set ?_ (by simp <;> omega) _) | (with_reducible refine bl_alloc ?_ (Nat.le_refl _) _) | (with_reducible refine Below.drew ?_) | (with_reducible assumption) | (with_reducible exact Below.refl _ _)))⟩
      rw [HG.out, ← HV1.out, ← HV2.out]; simp (maxDischargeDepth := 9) [results, Try.results58, go_sem, addK, mulF, *]; rfl
    · have HG := hide (show dotG a b c d = false by unfold dotG; rw [decide_eq_false k2]; simp)
      have q1 : mulC a.1 a.2 b.1 b.2 = 0 := k1
      have q2 : (mulC c.1 c.2 d.1 d.2 == 0) = false := by simpa using (show ¬ mulC c.1 c.2 d.1 d.2 = 0 from k2)
      have q3 : (mulC c.1 c.2 d.1 d.2 != 0) = true := by simpa using (show ¬ mulC c.1 c.2 d.1 d.2 = 0 from k2)
      clear k1 k2
      go_enter Try.func58, Try.ntmps58
      go_wp2_with (first | (go_at_call 77; (with_reducible refine (H1 _).mono ?_); rintro e w1 ⟨rfl, hb1⟩; obtain ⟨hc1, hf1⟩ := bcell hb1; have hw1 : Below w.heap.size w w1 := bl_call (by repeat (first | exact Below.refl _ _ | assumption | (refine bl_alloc ?_ (Nat.le_refl _) _) | (refine bl_set ?_ (by simp <;> omega) _))) hb1; have hz1 : w.heap.size + 5 ≤ w1.heap.size := (by have hq := hb1.size; have hr := hw1.size; (try simp at hq); omega); have hza : w.heap.size < w1.heap.size := (by omega); have hzb : w.heap.size + 1 < w1.heap.size := (by omega); have hzc : w.heap.size + 1 + 1 < w1.heap.size := (by omega); have hzd : w.heap.size + 1 + 1 + 1 < w1.heap.size := (by omega); have hze : w.heap.size + 1 + 1 + 1 + 1 < w1.heap.size := (by omega); have hz4 := hb1.size; (try simp at hz4); (try have hz5 := Nat.lt_of_succ_le hz4)) | (go_at_call 77; (with_reducible refine (H2 _).mono ?_); rintro e w1 ⟨rfl, hb1⟩; obtain ⟨hc1, hf1⟩ := bcell hb1; have hw1 : Below w.heap.size w w1 := bl_call (by repeat (first | exact Below.refl _ _ | assumption | (refine bl_alloc ?_ (Nat.le_refl _) _) | (refine bl_set ?_ (by simp <;> omega) _))) hb1; have hz1 : w.heap.size + 5 ≤ w1.heap.size := (by have hq := hb1.size; have hr := hw1.size; (try simp at hq); omega); have hza : w.heap.size < w1.heap.size := (by omega); have hzb : w.heap.size + 1 < w1.heap.size := (by omega); have hzc : w.heap.size + 1 + 1 < w1.heap.size := (by omega); have hzd : w.heap.size + 1 + 1 + 1 < w1.heap.size := (by omega); have hze : w.heap.size + 1 + 1 + 1 + 1 < w1.heap.size := (by omega); have hz4 := hb1.size; (try simp at hz4); (try have hz5 := Nat.lt_of_succ_le hz4)))
      refine bodyPost_ret (v := .tuple #[.agg #[.int .i64 (cnd (dotG a b c d) (dotF a b c d).1), .int .i64 (cnd (dotG a b c d) (dotF a b c d).2)], .bool (dotG a b c d)]) ?_ rfl ⟨rfl, (by repeat (first | (with_reducible refine bl_set ?_ (by simp <;> omega) _) | (with_reducible refine bl_alloc ?_ (Nat.le_refl _) _) | (with_reducible refine Below.drew ?_) | (with_reducible assumption) | (with_reducible exact Below.refl _ _)))⟩
      rw [HG.out, cnd_f, cnd_f]; simp (maxDischargeDepth := 9) [results, Try.results58, go_sem, *]
  · have HG := hide (show dotG a b c d = false by unfold dotG; rw [decide_eq_false k1]; rfl)
    have q2 : (mulC a.1 a.2 b.1 b.2 == 0) = false := by simpa using (show ¬ mulC a.1 a.2 b.1 b.2 = 0 from k1)
    have q3 : (mulC a.1 a.2 b.1 b.2 != 0) = true := by simpa using (show ¬ mulC a.1 a.2 b.1 b.2 = 0 from k1)
    clear k1
    go_enter Try.func58, Try.ntmps58
    go_wp2_with (first | (go_at_call 77; (with_reducible refine (H1 _).mono ?_); rintro e w1 ⟨rfl, hb1⟩; obtain ⟨hc1, hf1⟩ := bcell hb1; have hw1 : Below w.heap.size w w1 := bl_call (by repeat (first | exact Below.refl _ _ | assumption | (refine bl_alloc ?_ (Nat.le_refl _) _) | (refine bl_set ?_ (by simp <;> omega) _))) hb1; have hz1 : w.heap.size + 5 ≤ w1.heap.size := (by have hq := hb1.size; have hr := hw1.size; (try simp at hq); omega); have hza : w.heap.size < w1.heap.size := (by omega); have hzb : w.heap.size + 1 < w1.heap.size := (by omega); have hzc : w.heap.size + 1 + 1 < w1.heap.size := (by omega); have hzd : w.heap.size + 1 + 1 + 1 < w1.heap.size := (by omega); have hze : w.heap.size + 1 + 1 + 1 + 1 < w1.heap.size := (by omega); have hz4 := hb1.size; (try simp at hz4); (try have hz5 := Nat.lt_of_succ_le hz4)) | (go_at_call 77; (with_reducible refine (H2 _).mono ?_); rintro e w1 ⟨rfl, hb1⟩; obtain ⟨hc1, hf1⟩ := bcell hb1; have hw1 : Below w.heap.size w w1 := bl_call (by repeat (first | exact Below.refl _ _ | assumption | (refine bl_alloc ?_ (Nat.le_refl _) _) | (refine bl_set ?_ (by simp <;> omega) _))) hb1; have hz1 : w.heap.size + 5 ≤ w1.heap.size := (by have hq := hb1.size; have hr := hw1.size; (try simp at hq); omega); have hza : w.heap.size < w1.heap.size := (by omega); have hzb : w.heap.size + 1 < w1.heap.size := (by omega); have hzc : w.heap.size + 1 + 1 < w1.heap.size := (by omega); have hzd : w.heap.size + 1 + 1 + 1 < w1.heap.size := (by omega); have hze : w.heap.size + 1 + 1 + 1 + 1 < w1.heap.size := (by omega); have hz4 := hb1.size; (try simp at hz4); (try have hz5 := Nat.lt_of_succ_le hz4)))
    refine bodyPost_ret (v := .tuple #[.agg #[.int .i64 (cnd (dotG a b c d) (dotF a b c d).1), .int .i64 (cnd (dotG a b c d) (dotF a b c d).2)], .bool (dotG a b c d)]) ?_ rfl ⟨rfl, (by repeat (first | (with_reducible refine bl_set ?_ (by simp <;> omega) _) | (with_reducible refine bl_alloc ?_ (Nat.le_refl _) _) | (with_reducible refine Below.drew ?_) | (with_reducible assumption) | (with_reducible exact Below.refl _ _)))⟩
    rw [HG.out, cnd_f, cnd_f]; simp (maxDischargeDepth := 9) [results, Try.results58, go_sem, *]
end Go.Proofs.Ytickgkfgmbaalaa
