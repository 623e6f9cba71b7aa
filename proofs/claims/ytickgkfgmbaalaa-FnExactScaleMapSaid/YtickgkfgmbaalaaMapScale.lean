/-
  CONTRACTS of MoveMap, ScaleMap, SlantMap (packages impl and spec), and the walks of their laws. Conditions: integers of 64 bits.
-/
import Derived.Test.YtickgkfgmbaalaaMapE
namespace Go.Proofs.Ytickgkfgmbaalaa
open Go.RowKit Go.Sort
set_option linter.unusedVariables false
attribute [local go_sem] cell_grow frozen_grow
attribute [local go_sem] Oper.quietAt Oper.quietUpon
def scaA (a b c d : Int) : Af := if okFr a b && okFr c d then ⟨(a, b), (0, 1), (0, 1), (c, d), (0, 1), (0, 1)⟩ else zeroA
def scaC (a b c d : Int) : Int := if okFr a b && okFr c d then 0 else 1
set_option maxRecDepth 100000 in
set_option maxHeartbeats 8000000 in
theorem sca_i (a b c d : Int) (ha0 : -9223372036854775808 ≤ a) (ha1 : a ≤ 9223372036854775807) (hq0 : -9223372036854775808 ≤ c) (hq1 : c ≤ 9223372036854775807) (w : World) :
    Calls Try.prog 25 #[.agg #[.int .i64 a, .int .i64 b], .agg #[.int .i64 c, .int .i64 d]] w fun E w' => E = .returned (.tuple #[afV (scaA a b c d), .int .i64 (scaC a b c d)]) ∧ Below w.heap.size w w' := by
  have HI := identityMap_i
  simp only [affV] at HI
  cases h1 : okFr a b
  · have HA := hide (show scaA a b c d = zeroA by unfold scaA; rw [h1]; rfl)
    have HC := hide (show scaC a b c d = 1 by unfold scaC; rw [h1]; rfl)
    go_enter Try.func25, Try.ntmps25
    go_wp2_with (first | (go_at_call 44; (with_reducible refine (validFrac_i a b ha0 ha1 _).mono ?_); rintro e w1 ⟨rfl, hb1⟩; obtain ⟨hc1, hf1⟩ := bcell hb1; have hw1 : Below w.heap.size w w1 := bl_call (by repeat (first | exact Below.refl _ _ | assumption | (refine bl_alloc ?_ (Nat.le_refl _) _) | (refine bl_set ?_ (by simp <;> omega) _))) hb1; have hz1 : w.heap.size + 3 ≤ w1.heap.size := (by have hq := hb1.size; have hr := hw1.size; (try simp at hq); omega); have hza : w.heap.size < w1.heap.size := (by omega); have hzb : w.heap.size + 1 < w1.heap.size := (by omega); have hzc : w.heap.size + 1 + 1 < w1.heap.size := (by omega); have hz4 := hb1.size; (try simp at hz4); (try have hz5 := Nat.lt_of_succ_le hz4)) | (go_at_call 44; (with_reducible refine (validFrac_i c d hq0 hq1 _).mono ?_); rintro e w1 ⟨rfl, hb1⟩; obtain ⟨hc1, hf1⟩ := bcell hb1; have hw1 : Below w.heap.size w w1 := bl_call (by repeat (first | exact Below.refl _ _ | assumption | (refine bl_alloc ?_ (Nat.le_refl _) _) | (refine bl_set ?_ (by simp <;> omega) _))) hb1; have hz1 : w.heap.size + 3 ≤ w1.heap.size := (by have hq := hb1.size; have hr := hw1.size; (try simp at hq); omega); have hza : w.heap.size < w1.heap.size := (by omega); have hzb : w.heap.size + 1 < w1.heap.size := (by omega); have hzc : w.heap.size + 1 + 1 < w1.heap.size := (by omega); have hz4 := hb1.size; (try simp at hz4); (try have hz5 := Nat.lt_of_succ_le hz4)))
    refine bodyPost_ret (v := .tuple #[afV (scaA a b c d), .int .i64 (scaC a b c d)]) ?_ rfl ⟨rfl, (by repeat (first | (with_reducible refine bl_set ?_ (by simp <;> omega) _) | (with_reducible refine bl_alloc ?_ (Nat.le_refl _) _) | (with_reducible refine Below.drew ?_) | (with_reducible assumption) | (with_reducible exact Below.refl _ _)))⟩
    rw [HA.out, HC.out]; simp (maxDischargeDepth := 9) [results, Try.results25, go_sem, afV, affV, zeroA, *]
  cases h2 : okFr c d
  · have HA := hide (show scaA a b c d = zeroA by unfold scaA; rw [h1, h2]; rfl)
    have HC := hide (show scaC a b c d = 1 by unfold scaC; rw [h1, h2]; rfl)
    go_enter Try.func25, Try.ntmps25
    go_wp2_with (first | (go_at_call 44; (with_reducible refine (validFrac_i a b ha0 ha1 _).mono ?_); rintro e w1 ⟨rfl, hb1⟩; obtain ⟨hc1, hf1⟩ := bcell hb1; have hw1 : Below w.heap.size w w1 := bl_call (by repeat (first | exact Below.refl _ _ | assumption | (refine bl_alloc ?_ (Nat.le_refl _) _) | (refine bl_set ?_ (by simp <;> omega) _))) hb1; have hz1 : w.heap.size + 3 ≤ w1.heap.size := (by have hq := hb1.size; have hr := hw1.size; (try simp at hq); omega); have hza : w.heap.size < w1.heap.size := (by omega); have hzb : w.heap.size + 1 < w1.heap.size := (by omega); have hzc : w.heap.size + 1 + 1 < w1.heap.size := (by omega); have hz4 := hb1.size; (try simp at hz4); (try have hz5 := Nat.lt_of_succ_le hz4)) | (go_at_call 44; (with_reducible refine (validFrac_i c d hq0 hq1 _).mono ?_); rintro e w1 ⟨rfl, hb1⟩; obtain ⟨hc1, hf1⟩ := bcell hb1; have hw1 : Below w.heap.size w w1 := bl_call (by repeat (first | exact Below.refl _ _ | assumption | (refine bl_alloc ?_ (Nat.le_refl _) _) | (refine bl_set ?_ (by simp <;> omega) _))) hb1; have hz1 : w.heap.size + 3 ≤ w1.heap.size := (by have hq := hb1.size; have hr := hw1.size; (try simp at hq); omega); have hza : w.heap.size < w1.heap.size := (by omega); have hzb : w.heap.size + 1 < w1.heap.size := (by omega); have hzc : w.heap.size + 1 + 1 < w1.heap.size := (by omega); have hz4 := hb1.size; (try simp at hz4); (try have hz5 := Nat.lt_of_succ_le hz4)))
    refine bodyPost_ret (v := .tuple #[afV (scaA a b c d), .int .i64 (scaC a b c d)]) ?_ rfl ⟨rfl, (by repeat (first | (with_reducible refine bl_set ?_ (by simp <;> omega) _) | (with_reducible refine bl_alloc ?_ (Nat.le_refl _) _) | (with_reducible refine Below.drew ?_) | (with_reducible assumption) | (with_reducible exact Below.refl _ _)))⟩
    rw [HA.out, HC.out]; simp (maxDischargeDepth := 9) [results, Try.results25, go_sem, afV, affV, zeroA, *]
  · have HA := hide (show scaA a b c d = ⟨(a, b), (0, 1), (0, 1), (c, d), (0, 1), (0, 1)⟩ by unfold scaA; rw [h1, h2]; rfl)
    have HC := hide (show scaC a b c d = 0 by unfold scaC; rw [h1, h2]; rfl)
    go_enter Try.func25, Try.ntmps25
    go_wp2_with (first | (go_at_call 44; (with_reducible refine (validFrac_i a b ha0 ha1 _).mono ?_); rintro e w1 ⟨rfl, hb1⟩; obtain ⟨hc1, hf1⟩ := bcell hb1; have hw1 : Below w.heap.size w w1 := bl_call (by repeat (first | exact Below.refl _ _ | assumption | (refine bl_alloc ?_ (Nat.le_refl _) _) | (refine bl_set ?_ (by simp <;> omega) _))) hb1; have hz1 : w.heap.size + 3 ≤ w1.heap.size := (by have hq := hb1.size; have hr := hw1.size; (try simp at hq); omega); have hza : w.heap.size < w1.heap.size := (by omega); have hzb : w.heap.size + 1 < w1.heap.size := (by omega); have hzc : w.heap.size + 1 + 1 < w1.heap.size := (by omega); have hz4 := hb1.size; (try simp at hz4); (try have hz5 := Nat.lt_of_succ_le hz4)) | (go_at_call 44; (with_reducible refine (validFrac_i c d hq0 hq1 _).mono ?_); rintro e w1 ⟨rfl, hb1⟩; obtain ⟨hc1, hf1⟩ := bcell hb1; have hw1 : Below w.heap.size w w1 := bl_call (by repeat (first | exact Below.refl _ _ | assumption | (refine bl_alloc ?_ (Nat.le_refl _) _) | (refine bl_set ?_ (by simp <;> omega) _))) hb1; have hz1 : w.heap.size + 3 ≤ w1.heap.size := (by have hq := hb1.size; have hr := hw1.size; (try simp at hq); omega); have hza : w.heap.size < w1.heap.size := (by omega); have hzb : w.heap.size + 1 < w1.heap.size := (by omega); have hzc : w.heap.size + 1 + 1 < w1.heap.size := (by omega); have hz4 := hb1.size; (try simp at hz4); (try have hz5 := Nat.lt_of_succ_le hz4)) | (go_at_call 40; (with_reducible refine (HI _).mono ?_); rintro e w1 ⟨rfl, hb1⟩; obtain ⟨hc1, hf1⟩ := bcell hb1; have hw1 : Below w.heap.size w w1 := bl_call (by repeat (first | exact Below.refl _ _ | assumption | (refine bl_alloc ?_ (Nat.le_refl _) _) | (refine bl_set ?_ (by simp <;> omega) _))) hb1; have hz1 : w.heap.size + 3 ≤ w1.heap.size := (by have hq := hb1.size; have hr := hw1.size; (try simp at hq); omega); have hza : w.heap.size < w1.heap.size := (by omega); have hzb : w.heap.size + 1 < w1.heap.size := (by omega); have hzc : w.heap.size + 1 + 1 < w1.heap.size := (by omega); have hz4 := hb1.size; (try simp at hz4); (try have hz5 := Nat.lt_of_succ_le hz4)))
    go_region
    all_goals (try go_wp2)
    all_goals
      refine bodyPost_ret (v := .tuple #[afV (scaA a b c d), .int .i64 (scaC a b c d)]) ?_ rfl ⟨rfl, (by repeat (first | (with_reducible refine bl_set ?_ (by simp <;> omega) _) | (with_reducible refine bl_alloc ?_ (Nat.le_refl _) _) | (with_reducible refine Below.drew ?_) | (with_reducible assumption) | (with_reducible exact Below.refl _ _)))⟩
      rw [HA.out, HC.out]; simp (maxDischargeDepth := 9) [results, Try.results25, go_sem, afV, affV, *]
set_option maxRecDepth 100000 in
set_option maxHeartbeats 8000000 in
theorem sca_s (a b c d : Int) (ha0 : -9223372036854775808 ≤ a) (ha1 : a ≤ 9223372036854775807) (hq0 : -9223372036854775808 ≤ c) (hq1 : c ≤ 9223372036854775807) (w : World) :
    Calls Try.prog 24 #[.agg #[.int .i64 a, .int .i64 b], .agg #[.int .i64 c, .int .i64 d]] w fun E w' => E = .returned (.tuple #[afV (scaA a b c d), .int .i64 (scaC a b c d)]) ∧ Below w.heap.size w w' := by
  have HI := l04Ints_any 1 0 0 1
  simp only [affV] at HI
  cases h1 : okFr a b
  · have HA := hide (show scaA a b c d = zeroA by unfold scaA; rw [h1]; rfl)
    have HC := hide (show scaC a b c d = 1 by unfold scaC; rw [h1]; rfl)
    go_enter Try.func24, Try.ntmps24
    go_wp2_with (first | (go_at_call 45; (with_reducible refine (l02Ok_any a b ha0 ha1 _).mono ?_); rintro e w1 ⟨rfl, hb1⟩; obtain ⟨hc1, hf1⟩ := bcell hb1; have hw1 : Below w.heap.size w w1 := bl_call (by repeat (first | exact Below.refl _ _ | assumption | (refine bl_alloc ?_ (Nat.le_refl _) _) | (refine bl_set ?_ (by simp <;> omega) _))) hb1; have hz1 : w.heap.size + 3 ≤ w1.heap.size := (by have hq := hb1.size; have hr := hw1.size; (try simp at hq); omega); have hza : w.heap.size < w1.heap.size := (by omega); have hzb : w.heap.size + 1 < w1.heap.size := (by omega); have hzc : w.heap.size + 1 + 1 < w1.heap.size := (by omega); have hz4 := hb1.size; (try simp at hz4); (try have hz5 := Nat.lt_of_succ_le hz4)) | (go_at_call 45; (with_reducible refine (l02Ok_any c d hq0 hq1 _).mono ?_); rintro e w1 ⟨rfl, hb1⟩; obtain ⟨hc1, hf1⟩ := bcell hb1; have hw1 : Below w.heap.size w w1 := bl_call (by repeat (first | exact Below.refl _ _ | assumption | (refine bl_alloc ?_ (Nat.le_refl _) _) | (refine bl_set ?_ (by simp <;> omega) _))) hb1; have hz1 : w.heap.size + 3 ≤ w1.heap.size := (by have hq := hb1.size; have hr := hw1.size; (try simp at hq); omega); have hza : w.heap.size < w1.heap.size := (by omega); have hzb : w.heap.size + 1 < w1.heap.size := (by omega); have hzc : w.heap.size + 1 + 1 < w1.heap.size := (by omega); have hz4 := hb1.size; (try simp at hz4); (try have hz5 := Nat.lt_of_succ_le hz4)))
    refine bodyPost_ret (v := .tuple #[afV (scaA a b c d), .int .i64 (scaC a b c d)]) ?_ rfl ⟨rfl, (by repeat (first | (with_reducible refine bl_set ?_ (by simp <;> omega) _) | (with_reducible refine bl_alloc ?_ (Nat.le_refl _) _) | (with_reducible refine Below.drew ?_) | (with_reducible assumption) | (with_reducible exact Below.refl _ _)))⟩
    rw [HA.out, HC.out]; simp (maxDischargeDepth := 9) [results, Try.results24, go_sem, afV, affV, zeroA, *]
  cases h2 : okFr c d
  · have HA := hide (show scaA a b c d = zeroA by unfold scaA; rw [h1, h2]; rfl)
    have HC := hide (show scaC a b c d = 1 by unfold scaC; rw [h1, h2]; rfl)
    go_enter Try.func24, Try.ntmps24
    go_wp2_with (first | (go_at_call 45; (with_reducible refine (l02Ok_any a b ha0 ha1 _).mono ?_); rintro e w1 ⟨rfl, hb1⟩; obtain ⟨hc1, hf1⟩ := bcell hb1; have hw1 : Below w.heap.size w w1 := bl_call (by repeat (first | exact Below.refl _ _ | assumption | (refine bl_alloc ?_ (Nat.le_refl _) _) | (refine bl_set ?_ (by simp <;> omega) _))) hb1; have hz1 : w.heap.size + 3 ≤ w1.heap.size := (by have hq := hb1.size; have hr := hw1.size; (try simp at hq); omega); have hza : w.heap.size < w1.heap.size := (by omega); have hzb : w.heap.size + 1 < w1.heap.size := (by omega); have hzc : w.heap.size + 1 + 1 < w1.heap.size := (by omega); have hz4 := hb1.size; (try simp at hz4); (try have hz5 := Nat.lt_of_succ_le hz4)) | (go_at_call 45; (with_reducible refine (l02Ok_any c d hq0 hq1 _).mono ?_); rintro e w1 ⟨rfl, hb1⟩; obtain ⟨hc1, hf1⟩ := bcell hb1; have hw1 : Below w.heap.size w w1 := bl_call (by repeat (first | exact Below.refl _ _ | assumption | (refine bl_alloc ?_ (Nat.le_refl _) _) | (refine bl_set ?_ (by simp <;> omega) _))) hb1; have hz1 : w.heap.size + 3 ≤ w1.heap.size := (by have hq := hb1.size; have hr := hw1.size; (try simp at hq); omega); have hza : w.heap.size < w1.heap.size := (by omega); have hzb : w.heap.size + 1 < w1.heap.size := (by omega); have hzc : w.heap.size + 1 + 1 < w1.heap.size := (by omega); have hz4 := hb1.size; (try simp at hz4); (try have hz5 := Nat.lt_of_succ_le hz4)))
    refine bodyPost_ret (v := .tuple #[afV (scaA a b c d), .int .i64 (scaC a b c d)]) ?_ rfl ⟨rfl, (by repeat (first | (with_reducible refine bl_set ?_ (by simp <;> omega) _) | (with_reducible refine bl_alloc ?_ (Nat.le_refl _) _) | (with_reducible refine Below.drew ?_) | (with_reducible assumption) | (with_reducible exact Below.refl _ _)))⟩
    rw [HA.out, HC.out]; simp (maxDischargeDepth := 9) [results, Try.results24, go_sem, afV, affV, zeroA, *]
  · have HA := hide (show scaA a b c d = ⟨(a, b), (0, 1), (0, 1), (c, d), (0, 1), (0, 1)⟩ by unfold scaA; rw [h1, h2]; rfl)
    have HC := hide (show scaC a b c d = 0 by unfold scaC; rw [h1, h2]; rfl)
    go_enter Try.func24, Try.ntmps24
    go_wp2_with (first | (go_at_call 45; (with_reducible refine (l02Ok_any a b ha0 ha1 _).mono ?_); rintro e w1 ⟨rfl, hb1⟩; obtain ⟨hc1, hf1⟩ := bcell hb1; have hw1 : Below w.heap.size w w1 := bl_call (by repeat (first | exact Below.refl _ _ | assumption | (refine bl_alloc ?_ (Nat.le_refl _) _) | (refine bl_set ?_ (by simp <;> omega) _))) hb1; have hz1 : w.heap.size + 3 ≤ w1.heap.size := (by have hq := hb1.size; have hr := hw1.size; (try simp at hq); omega); have hza : w.heap.size < w1.heap.size := (by omega); have hzb : w.heap.size + 1 < w1.heap.size := (by omega); have hzc : w.heap.size + 1 + 1 < w1.heap.size := (by omega); have hz4 := hb1.size; (try simp at hz4); (try have hz5 := Nat.lt_of_succ_le hz4)) | (go_at_call 45; (with_reducible refine (l02Ok_any c d hq0 hq1 _).mono ?_); rintro e w1 ⟨rfl, hb1⟩; obtain ⟨hc1, hf1⟩ := bcell hb1; have hw1 : Below w.heap.size w w1 := bl_call (by repeat (first | exact Below.refl _ _ | assumption | (refine bl_alloc ?_ (Nat.le_refl _) _) | (refine bl_set ?_ (by simp <;> omega) _))) hb1; have hz1 : w.heap.size + 3 ≤ w1.heap.size := (by have hq := hb1.size; have hr := hw1.size; (try simp at hq); omega); have hza : w.heap.size < w1.heap.size := (by omega); have hzb : w.heap.size + 1 < w1.heap.size := (by omega); have hzc : w.heap.size + 1 + 1 < w1.heap.size := (by omega); have hz4 := hb1.size; (try simp at hz4); (try have hz5 := Nat.lt_of_succ_le hz4)) | (go_at_call 39; (with_reducible refine (HI _).mono ?_); rintro e w1 ⟨rfl, hb1⟩; obtain ⟨hc1, hf1⟩ := bcell hb1; have hw1 : Below w.heap.size w w1 := bl_call (by repeat (first | exact Below.refl _ _ | assumption | (refine bl_alloc ?_ (Nat.le_refl _) _) | (refine bl_set ?_ (by simp <;> omega) _))) hb1; have hz1 : w.heap.size + 3 ≤ w1.heap.size := (by have hq := hb1.size; have hr := hw1.size; (try simp at hq); omega); have hza : w.heap.size < w1.heap.size := (by omega); have hzb : w.heap.size + 1 < w1.heap.size := (by omega); have hzc : w.heap.size + 1 + 1 < w1.heap.size := (by omega); have hz4 := hb1.size; (try simp at hz4); (try have hz5 := Nat.lt_of_succ_le hz4)))
    refine bodyPost_ret (v := .tuple #[afV (scaA a b c d), .int .i64 (scaC a b c d)]) ?_ rfl ⟨rfl, (by repeat (first | (with_reducible refine bl_set ?_ (by simp <;> omega) _) | (with_reducible refine bl_alloc ?_ (Nat.le_refl _) _) | (with_reducible refine Below.drew ?_) | (with_reducible assumption) | (with_reducible exact Below.refl _ _)))⟩
    rw [HA.out, HC.out]; simp (maxDischargeDepth := 9) [results, Try.results24, go_sem, afV, affV, *]
set_option maxRecDepth 100000 in
set_option maxHeartbeats 8000000 in
theorem fnScaleMap (a b c d : Int) (wa : (Lit.int .i64 a).wf = true) (wb : (Lit.int .i64 b).wf = true) (wc : (Lit.int .i64 c).wf = true) (wd : (Lit.int .i64 d).wf = true) (w : World) :
    Calls Try.prog 7 #[.agg #[.int .i64 a, .int .i64 b], .agg #[.int .i64 c, .int .i64 d]] w fun E w' => E = .returned (.bool true) ∧ Below w.heap.size w w' := by
  obtain ⟨ha0, ha1⟩ := wf64 wa
  obtain ⟨hq0, hq1⟩ := wf64 wc
  have HE := eqAffine_self (scaA a b c d).xx.1 (scaA a b c d).xx.2 (scaA a b c d).xy.1 (scaA a b c d).xy.2 (scaA a b c d).yx.1 (scaA a b c d).yx.2 (scaA a b c d).yy.1 (scaA a b c d).yy.2 (scaA a b c d).dx.1 (scaA a b c d).dx.2 (scaA a b c d).dy.1 (scaA a b c d).dy.2
  have HS := sca_s a b c d ha0 ha1 hq0 hq1
  have HI := sca_i a b c d ha0 ha1 hq0 hq1
  simp only [afV, affV] at HE HS HI
  go_enter Try.func7, Try.ntmps7
  go_wp2
  refine wp_region_made 8 _ _ (.cells #[.int .i64 0, .int .i64 0, .int .i64 0, .int .i64 0, .int .i64 0, .int .i64 0, .int .i64 0, .int .i64 0, .int .i64 0, .int .i64 0, .int .i64 0, .int .i64 0] 25) (.cells #[.int .i64 (scaA a b c d).xx.1, .int .i64 (scaA a b c d).xx.2, .int .i64 (scaA a b c d).xy.1, .int .i64 (scaA a b c d).xy.2, .int .i64 (scaA a b c d).yx.1, .int .i64 (scaA a b c d).yx.2, .int .i64 (scaA a b c d).yy.1, .int .i64 (scaA a b c d).yy.2, .int .i64 (scaA a b c d).dx.1, .int .i64 (scaA a b c d).dx.2, .int .i64 (scaA a b c d).dy.1, .int .i64 (scaA a b c d).dy.2] 25) (by kernel_rfl) (by kernel_rfl) rfl rfl (fun _ _ => by kernel_rfl) ?_
  simp only [List.take_succ_cons, List.take_zero, List.drop_succ_cons, List.drop_zero]
  repeat (refine wpSteady_step (fun K hK => ?_); go_simp; first | (refine hK _ ?_; clear hK K) | (apply Exists.intro; refine ⟨fun _ => ?_, hK _ ?_⟩; (first | (go_at_call 20; with_reducible exact keeps_of (toFrac_any _ _ _)) | (go_at_call 24; with_reducible exact keeps_of (HS _))); clear hK K))
  refine wpSteady_nil ?_
  refine ⟨?_, ?_⟩
  · exact storeOK_row rfl (fun _ => rfl) (fun _ => rfl) (show _ = some 12 from by kernel_rfl) rfl (by simp [Value.oneCell'])
  intro gx w1 hgx hlx hb1 hx
  have hkx := cell_blk hx
  have hfx := frozen_blk hx
  clear hx
  try simp at hgx
  obtain ⟨hc1, hf1⟩ := bcell hb1
  have hw1 : Below w.heap.size w w1 := bl_call (by repeat (first | exact Below.refl _ _ | assumption | (refine bl_alloc ?_ (Nat.le_refl _) _) | (refine bl_set ?_ (by simp <;> omega) _))) hb1
  have hz1 : w.heap.size + 2 ≤ w1.heap.size := (by have hq := hb1.size; have hr := hw1.size; (try simp at hq); omega)
  have hza : w.heap.size < w1.heap.size := (by omega)
  have hzb : w.heap.size + 1 < w1.heap.size := (by omega)
  go_wp2
  refine wp_region_made 8 _ _ (.cells #[.int .i64 0, .int .i64 0, .int .i64 0, .int .i64 0, .int .i64 0, .int .i64 0, .int .i64 0, .int .i64 0, .int .i64 0, .int .i64 0, .int .i64 0, .int .i64 0] 25) (.cells #[.int .i64 (scaA a b c d).xx.1, .int .i64 (scaA a b c d).xx.2, .int .i64 (scaA a b c d).xy.1, .int .i64 (scaA a b c d).xy.2, .int .i64 (scaA a b c d).yx.1, .int .i64 (scaA a b c d).yx.2, .int .i64 (scaA a b c d).yy.1, .int .i64 (scaA a b c d).yy.2, .int .i64 (scaA a b c d).dx.1, .int .i64 (scaA a b c d).dx.2, .int .i64 (scaA a b c d).dy.1, .int .i64 (scaA a b c d).dy.2] 25) (by kernel_rfl) (by kernel_rfl) rfl rfl (fun _ _ => by kernel_rfl) ?_
  simp only [List.take_succ_cons, List.take_zero, List.drop_succ_cons, List.drop_zero]
  repeat (refine wpSteady_step (fun K hK => ?_); go_simp; first | (refine hK _ ?_; clear hK K) | (apply Exists.intro; refine ⟨fun _ => ?_, hK _ ?_⟩; (first | (go_at_call 20; with_reducible exact keeps_of (toFrac_any _ _ _)) | (go_at_call 25; with_reducible exact keeps_of (HI _))); clear hK K))
  refine wpSteady_nil ?_
  refine ⟨?_, ?_⟩
  · exact storeOK_row rfl (fun _ => rfl) (fun _ => rfl) (show _ = some 12 from by kernel_rfl) rfl (by simp [Value.oneCell'])
  intro gy w1 hgy hly hb1 hx
  have hky := cell_blk hx
  have hfy := frozen_blk hx
  clear hx
  try simp at hgy
  obtain ⟨hc1, hf1⟩ := bcell hb1
  have hw1 : Below w.heap.size w w1 := bl_call (by repeat (first | exact Below.refl _ _ | assumption | (refine bl_alloc ?_ (Nat.le_refl _) _) | (refine bl_set ?_ (by simp <;> omega) _))) hb1
  have hz1 : w.heap.size + 2 ≤ w1.heap.size := (by have hq := hb1.size; have hr := hw1.size; (try simp at hq); omega)
  have hza : w.heap.size < w1.heap.size := (by omega)
  have hzb : w.heap.size + 1 < w1.heap.size := (by omega)
  have hlx2 : gx < w1.heap.size := by have hq := hb1.size; (try simp at hq); omega
  go_wp2_with (first | (go_at_call 15; (with_reducible refine (HE _).mono ?_); rintro e w1 ⟨rfl, hb1⟩; obtain ⟨hc1, hf1⟩ := bcell hb1; have hw1 : Below w.heap.size w w1 := bl_call (by repeat (first | exact Below.refl _ _ | assumption | (refine bl_alloc ?_ (Nat.le_refl _) _) | (refine bl_set ?_ (by simp <;> omega) _))) hb1; have hz1 : w.heap.size + 2 ≤ w1.heap.size := (by have hq := hb1.size; have hr := hw1.size; (try simp at hq); omega); have hza : w.heap.size < w1.heap.size := (by omega); have hzb : w.heap.size + 1 < w1.heap.size := (by omega); have hz4 := hb1.size; (try simp at hz4); (try have hz5 := Nat.lt_of_succ_le hz4)))
  go_ret
  exact ⟨rfl, (by repeat (first | exact Below.refl _ _ | assumption | (refine bl_alloc ?_ (Nat.le_refl _) _) | (refine bl_set ?_ (by simp <;> omega) _)))⟩
end Go.Proofs.Ytickgkfgmbaalaa
