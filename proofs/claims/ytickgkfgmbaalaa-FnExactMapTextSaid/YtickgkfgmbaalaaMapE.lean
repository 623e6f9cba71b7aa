/-
  CONTRACTS of the functions on maps that hold no computing (impl, spec, laws): validity, quarter turns, moving, scaling, slanting; and the walks of their laws. Conditions: integers of 64 bits.
-/
import Derived.Test.YtickgkfgmbaalaaAff
import Derived.Test.YtickgkfgmbaalaaMaps
import Derived.Test.YtickgkfgmbaalaaTail
import Derived.Test.YtickgkfgmbaalaaSeq
import Derived.LoopTactic
import Derived.LoopN
import Derived.RegionTactic
import Derived.BigRegion
namespace Go.Proofs.Ytickgkfgmbaalaa
open Go.RowKit Go.Sort
set_option linter.unusedVariables false
attribute [local go_sem] cell_grow frozen_grow
attribute [local go_sem] Oper.quietAt Oper.quietUpon

def zeroA : Af := ⟨(0, 0), (0, 0), (0, 0), (0, 0), (0, 0), (0, 0)⟩
/-- the value of a map -/
def afV (m : Af) : Value := affV m.xx.1 m.xx.2 m.xy.1 m.xy.2 m.yx.1 m.yx.2 m.yy.1 m.yy.2 m.dx.1 m.dx.2 m.dy.1 m.dy.2
def afCells (m : Af) : Array Value := #[.int .i64 m.xx.1, .int .i64 m.xx.2, .int .i64 m.xy.1, .int .i64 m.xy.2, .int .i64 m.yx.1, .int .i64 m.yx.2, .int .i64 m.yy.1, .int .i64 m.yy.2, .int .i64 m.dx.1, .int .i64 m.dx.2, .int .i64 m.dy.1, .int .i64 m.dy.2]
set_option maxRecDepth 100000 in
set_option maxHeartbeats 4000000 in
theorem toAffine_any (a b c d e f g h i j k l : Int) (w : World) : Calls Try.prog 17 #[affV a b c d e f g h i j k l] w fun E w' => E = .returned (affV a b c d e f g h i j k l) ∧ Below w.heap.size w w' := by
  unfold affV
  go_enter Try.func17, Try.ntmps17
  go_wp2_with (first | (go_at_call 20; (with_reducible refine (toFrac_any _ _ _).mono ?_); rintro e w1 ⟨rfl, hb1⟩; obtain ⟨hc1, hf1⟩ := bcell hb1; have hw1 : Below w.heap.size w w1 := bl_call (by repeat (first | exact Below.refl _ _ | assumption | (refine bl_alloc ?_ (Nat.le_refl _) _) | (refine bl_set ?_ (by simp <;> omega) _))) hb1; have hz1 : w.heap.size + 3 ≤ w1.heap.size := (by have hq := hb1.size; have hr := hw1.size; (try simp at hq); omega); have hza : w.heap.size < w1.heap.size := (by omega); have hzb : w.heap.size + 1 < w1.heap.size := (by omega); have hzc : w.heap.size + 1 + 1 < w1.heap.size := (by omega); have hz4 := hb1.size; (try simp at hz4); (try have hz5 := Nat.lt_of_succ_le hz4)))
  exact bodyPost_ret (v := affV a b c d e f g h i j k l) (by simp [results, Try.results17, go_sem, affV, *]) rfl ⟨rfl, (by repeat (first | (with_reducible refine bl_set ?_ (by simp <;> omega) _) | (with_reducible refine bl_alloc ?_ (Nat.le_refl _) _) | (with_reducible assumption) | (with_reducible exact Below.refl _ _)))⟩
theorem qc_0 {k : Int} (h : k % 4 = 0) : quarterC k = 1 ∧ quarterS k = 0 := by unfold quarterC quarterS; rw [h]; decide
theorem qc_1 {k : Int} (h : k % 4 = 1) : quarterC k = 0 ∧ quarterS k = 1 := by unfold quarterC quarterS; rw [h]; decide
theorem qc_2 {k : Int} (h : k % 4 = 2) : quarterC k = -1 ∧ quarterS k = 0 := by unfold quarterC quarterS; rw [h]; decide
theorem qc_3 {k : Int} (h : k % 4 = 3) : quarterC k = 0 ∧ quarterS k = -1 := by unfold quarterC quarterS; rw [h]; decide
theorem and3 (k : Int) : bits .and .i64 k 3 = k % 4 := by
  show IntKind.i64.wrap ((BitVec.ofInt 64 k &&& BitVec.ofInt 64 3).toNat : Int) = _
  have e : (BitVec.ofInt 64 3).toNat = 3 := by decide
  rw [BitVec.toNat_and, e]
  have h := Nat.and_two_pow_sub_one_eq_mod (BitVec.ofInt 64 k).toNat 2
  have h2 : (BitVec.ofInt 64 k).toNat &&& 3 = (BitVec.ofInt 64 k).toNat % 4 := h
  rw [h2, BitVec.toNat_ofInt, IntKind.wrap_i64]
  omega
theorem tmod4 {k : Int} : (k.tmod 4 + 4).tmod 4 = k % 4 := by
  have h1 : -3 ≤ k.tmod 4 ∧ k.tmod 4 ≤ 3 ∧ k.tmod 4 % 4 = k % 4 := by
    rcases Int.le_total 0 k with h | h
    · rw [Int.tmod_eq_emod_of_nonneg h]; omega
    · have : k.tmod 4 = -((-k).tmod 4) := by rw [Int.neg_tmod]; omega
      rw [this, Int.tmod_eq_emod_of_nonneg (by omega)]; omega
  rw [Int.tmod_eq_emod_of_nonneg (by omega)]
  omega
theorem tmod4_bd (k : Int) : -3 ≤ k.tmod 4 ∧ k.tmod 4 ≤ 3 := by
  rcases Int.le_total 0 k with h | h
  · rw [Int.tmod_eq_emod_of_nonneg h]; omega
  · have : k.tmod 4 = -((-k).tmod 4) := by rw [Int.neg_tmod]; omega
    rw [this, Int.tmod_eq_emod_of_nonneg (by omega)]; omega
def qV (k : Int) : Value := affV (quarterC k) 1 (-(quarterS k)) 1 (quarterS k) 1 (quarterC k) 1 0 1 0 1
set_option maxRecDepth 100000 in
set_option maxHeartbeats 4000000 in
theorem quarterMap_s (k : Int) (w : World) : Calls Try.prog 13 #[.int .i64 k] w fun E w' => E = .returned (qV k) ∧ Below w.heap.size w w' := by
  have H1 := l04Ints_any 0 (-1) 1 0
  have H2 := l04Ints_any (-1) 0 0 (-1)
  have H3 := l04Ints_any 0 1 (-1) 0
  have H0 := l04Ints_any 1 0 0 1
  simp only [affV] at H0 H1 H2 H3
  have ha := and3 k
  rcases (show k % 4 = 0 ∨ k % 4 = 1 ∨ k % 4 = 2 ∨ k % 4 = 3 by omega) with h | h | h | h
  · obtain ⟨e1, e2⟩ := qc_0 h
    have HR := hide (show qV k = affV 1 1 0 1 0 1 1 1 0 1 0 1 by unfold qV; rw [e1, e2]; rfl)
    rw [h] at ha
    clear e1 e2 h
    go_enter Try.func13, Try.ntmps13
    go_wp2_with (first | (go_at_call 39; (with_reducible refine (H0 _).mono ?_); rintro e w1 ⟨rfl, hb1⟩; obtain ⟨hc1, hf1⟩ := bcell hb1; have hw1 : Below w.heap.size w w1 := bl_call (by repeat (first | exact Below.refl _ _ | assumption | (refine bl_alloc ?_ (Nat.le_refl _) _) | (refine bl_set ?_ (by simp <;> omega) _))) hb1; have hz1 : w.heap.size + 1 ≤ w1.heap.size := (by have hq := hb1.size; have hr := hw1.size; (try simp at hq); omega); have hza : w.heap.size < w1.heap.size := (by omega); have hz4 := hb1.size; (try simp at hz4); (try have hz5 := Nat.lt_of_succ_le hz4)))
    refine bodyPost_ret (v := qV k) ?_ rfl ⟨rfl, (by repeat (first | (with_reducible refine bl_set ?_ (by simp <;> omega) _) | (with_reducible refine bl_alloc ?_ (Nat.le_refl _) _) | (with_reducible assumption) | (with_reducible exact Below.refl _ _)))⟩
    rw [HR.out]; simp [results, Try.results13, go_sem, affV, *]
  · obtain ⟨e1, e2⟩ := qc_1 h
    have HR := hide (show qV k = affV 0 1 (-1) 1 1 1 0 1 0 1 0 1 by unfold qV; rw [e1, e2])
    rw [h] at ha
    clear e1 e2 h
    go_enter Try.func13, Try.ntmps13
    go_wp2_with (first | (go_at_call 39; (with_reducible refine (H1 _).mono ?_); rintro e w1 ⟨rfl, hb1⟩; obtain ⟨hc1, hf1⟩ := bcell hb1; have hw1 : Below w.heap.size w w1 := bl_call (by repeat (first | exact Below.refl _ _ | assumption | (refine bl_alloc ?_ (Nat.le_refl _) _) | (refine bl_set ?_ (by simp <;> omega) _))) hb1; have hz1 : w.heap.size + 1 ≤ w1.heap.size := (by have hq := hb1.size; have hr := hw1.size; (try simp at hq); omega); have hza : w.heap.size < w1.heap.size := (by omega); have hz4 := hb1.size; (try simp at hz4); (try have hz5 := Nat.lt_of_succ_le hz4)))
    refine bodyPost_ret (v := qV k) ?_ rfl ⟨rfl, (by repeat (first | (with_reducible refine bl_set ?_ (by simp <;> omega) _) | (with_reducible refine bl_alloc ?_ (Nat.le_refl _) _) | (with_reducible assumption) | (with_reducible exact Below.refl _ _)))⟩
    rw [HR.out]; simp [results, Try.results13, go_sem, affV, *]
  · obtain ⟨e1, e2⟩ := qc_2 h
    have HR := hide (show qV k = affV (-1) 1 0 1 0 1 (-1) 1 0 1 0 1 by unfold qV; rw [e1, e2]; rfl)
    rw [h] at ha
    clear e1 e2 h
    go_enter Try.func13, Try.ntmps13
    go_wp2_with (first | (go_at_call 39; (with_reducible refine (H2 _).mono ?_); rintro e w1 ⟨rfl, hb1⟩; obtain ⟨hc1, hf1⟩ := bcell hb1; have hw1 : Below w.heap.size w w1 := bl_call (by repeat (first | exact Below.refl _ _ | assumption | (refine bl_alloc ?_ (Nat.le_refl _) _) | (refine bl_set ?_ (by simp <;> omega) _))) hb1; have hz1 : w.heap.size + 1 ≤ w1.heap.size := (by have hq := hb1.size; have hr := hw1.size; (try simp at hq); omega); have hza : w.heap.size < w1.heap.size := (by omega); have hz4 := hb1.size; (try simp at hz4); (try have hz5 := Nat.lt_of_succ_le hz4)))
    refine bodyPost_ret (v := qV k) ?_ rfl ⟨rfl, (by repeat (first | (with_reducible refine bl_set ?_ (by simp <;> omega) _) | (with_reducible refine bl_alloc ?_ (Nat.le_refl _) _) | (with_reducible assumption) | (with_reducible exact Below.refl _ _)))⟩
    rw [HR.out]; simp [results, Try.results13, go_sem, affV, *]
  · obtain ⟨e1, e2⟩ := qc_3 h
    have HR := hide (show qV k = affV 0 1 1 1 (-1) 1 0 1 0 1 0 1 by unfold qV; rw [e1, e2]; rfl)
    rw [h] at ha
    clear e1 e2 h
    go_enter Try.func13, Try.ntmps13
    go_wp2_with (first | (go_at_call 39; (with_reducible refine (H3 _).mono ?_); rintro e w1 ⟨rfl, hb1⟩; obtain ⟨hc1, hf1⟩ := bcell hb1; have hw1 : Below w.heap.size w w1 := bl_call (by repeat (first | exact Below.refl _ _ | assumption | (refine bl_alloc ?_ (Nat.le_refl _) _) | (refine bl_set ?_ (by simp <;> omega) _))) hb1; have hz1 : w.heap.size + 1 ≤ w1.heap.size := (by have hq := hb1.size; have hr := hw1.size; (try simp at hq); omega); have hza : w.heap.size < w1.heap.size := (by omega); have hz4 := hb1.size; (try simp at hz4); (try have hz5 := Nat.lt_of_succ_le hz4)))
    refine bodyPost_ret (v := qV k) ?_ rfl ⟨rfl, (by repeat (first | (with_reducible refine bl_set ?_ (by simp <;> omega) _) | (with_reducible refine bl_alloc ?_ (Nat.le_refl _) _) | (with_reducible assumption) | (with_reducible exact Below.refl _ _)))⟩
    rw [HR.out]; simp [results, Try.results13, go_sem, affV, *]
set_option maxRecDepth 100000 in
set_option maxHeartbeats 8000000 in
theorem quarterMap_i (k : Int) (w : World) : Calls Try.prog 14 #[.int .i64 k] w fun E w' => E = .returned (qV k) ∧ Below w.heap.size w w' := by
  have HI := identityMap_i
  simp only [affV] at HI
  have ht := tmod4 (k := k)
  obtain ⟨b0, b1⟩ := tmod4_bd k
  rcases (show k % 4 = 0 ∨ k % 4 = 1 ∨ k % 4 = 2 ∨ k % 4 = 3 by omega) with h | h | h | h
  · obtain ⟨e1, e2⟩ := qc_0 h
    have HR := hide (show qV k = affV 1 1 0 1 0 1 1 1 0 1 0 1 by unfold qV; rw [e1, e2]; rfl)
    rw [h] at ht
    clear e1 e2 h
    go_enter Try.func14, Try.ntmps14
    go_wp2_with (first | (go_at_call 40; (with_reducible refine (HI _).mono ?_); rintro e w1 ⟨rfl, hb1⟩; obtain ⟨hc1, hf1⟩ := bcell hb1; have hw1 : Below w.heap.size w w1 := bl_call (by repeat (first | exact Below.refl _ _ | assumption | (refine bl_alloc ?_ (Nat.le_refl _) _) | (refine bl_set ?_ (by simp <;> omega) _))) hb1; have hz1 : w.heap.size + 1 ≤ w1.heap.size := (by have hq := hb1.size; have hr := hw1.size; (try simp at hq); omega); have hza : w.heap.size < w1.heap.size := (by omega); have hz4 := hb1.size; (try simp at hz4); (try have hz5 := Nat.lt_of_succ_le hz4)))
    obtain ⟨wI, rfl⟩ : ∃ wI : World, wI = w1 := ⟨_, rfl⟩
    refine wp_loop_rounds 1 ?_
    rw [rounds_succ]
    go_wp2_with (first | (go_at_call 41; (with_reducible refine (whole_any _ _).mono ?_); rintro e w1 ⟨rfl, hb1⟩; obtain ⟨hc1, hf1⟩ := bcell hb1; have hw1 : Below w.heap.size w w1 := bl_call (by repeat (first | exact Below.refl _ _ | assumption | (refine bl_alloc ?_ (Nat.le_refl _) _) | (refine bl_set ?_ (by simp <;> omega) _))) hb1; have hz1 : w.heap.size + 2 ≤ w1.heap.size := (by have hq := hb1.size; have hr := hw1.size; (try simp at hq); omega); have hza : w.heap.size < w1.heap.size := (by omega); have hzb : w.heap.size + 1 < w1.heap.size := (by omega); have hz4 := hb1.size; (try simp at hz4); (try have hz5 := Nat.lt_of_succ_le hz4); (try have hzxwI : wI.heap.size < w1.heap.size := (by omega))))
    have n1 : ¬ w.heap.size = wI.heap.size := by omega
    have n2 : ¬ wI.heap.size = w.heap.size := by omega
    have n3 : w.heap.size < w1.heap.size := by omega
    refine bodyPost_ret (v := qV k) ?_ rfl ⟨rfl, (by repeat (first | (with_reducible refine bl_set ?_ (by simp <;> omega) _) | (with_reducible refine bl_alloc ?_ (Nat.le_refl _) _) | (with_reducible assumption) | (with_reducible exact Below.refl _ _)))⟩
    rw [HR.out]; simp (maxDischargeDepth := 9) [results, Try.results14, go_sem, affV, *]
  · obtain ⟨e1, e2⟩ := qc_1 h
    have HR := hide (show qV k = affV 0 1 (-1) 1 1 1 0 1 0 1 0 1 by unfold qV; rw [e1, e2])
    rw [h] at ht
    clear e1 e2 h
    go_enter Try.func14, Try.ntmps14
    go_wp2_with (first | (go_at_call 40; (with_reducible refine (HI _).mono ?_); rintro e w1 ⟨rfl, hb1⟩; obtain ⟨hc1, hf1⟩ := bcell hb1; have hw1 : Below w.heap.size w w1 := bl_call (by repeat (first | exact Below.refl _ _ | assumption | (refine bl_alloc ?_ (Nat.le_refl _) _) | (refine bl_set ?_ (by simp <;> omega) _))) hb1; have hz1 : w.heap.size + 1 ≤ w1.heap.size := (by have hq := hb1.size; have hr := hw1.size; (try simp at hq); omega); have hza : w.heap.size < w1.heap.size := (by omega); have hz4 := hb1.size; (try simp at hz4); (try have hz5 := Nat.lt_of_succ_le hz4)))
    obtain ⟨wI, rfl⟩ : ∃ wI : World, wI = w1 := ⟨_, rfl⟩
    refine wp_loop_rounds 2 ?_
    rw [rounds_succ]
    go_wp2_with fail
    rw [rounds_succ]
    go_wp2_with (first | (go_at_call 41; (with_reducible refine (whole_any _ _).mono ?_); rintro e w1 ⟨rfl, hb1⟩; obtain ⟨hc1, hf1⟩ := bcell hb1; have hw1 : Below w.heap.size w w1 := bl_call (by repeat (first | exact Below.refl _ _ | assumption | (refine bl_alloc ?_ (Nat.le_refl _) _) | (refine bl_set ?_ (by simp <;> omega) _))) hb1; have hz1 : w.heap.size + 2 ≤ w1.heap.size := (by have hq := hb1.size; have hr := hw1.size; (try simp at hq); omega); have hza : w.heap.size < w1.heap.size := (by omega); have hzb : w.heap.size + 1 < w1.heap.size := (by omega); have hz4 := hb1.size; (try simp at hz4); (try have hz5 := Nat.lt_of_succ_le hz4); (try have hzxwI : wI.heap.size < w1.heap.size := (by omega))))
    have n1 : ¬ w.heap.size = wI.heap.size := by omega
    have n2 : ¬ wI.heap.size = w.heap.size := by omega
    have n3 : w.heap.size < w1.heap.size := by omega
    refine bodyPost_ret (v := qV k) ?_ rfl ⟨rfl, (by repeat (first | (with_reducible refine bl_set ?_ (by simp <;> omega) _) | (with_reducible refine bl_alloc ?_ (Nat.le_refl _) _) | (with_reducible assumption) | (with_reducible exact Below.refl _ _)))⟩
    rw [HR.out]; simp (maxDischargeDepth := 9) [results, Try.results14, go_sem, affV, *]
  · obtain ⟨e1, e2⟩ := qc_2 h
    have HR := hide (show qV k = affV (-1) 1 0 1 0 1 (-1) 1 0 1 0 1 by unfold qV; rw [e1, e2]; rfl)
    rw [h] at ht
    clear e1 e2 h
    go_enter Try.func14, Try.ntmps14
    go_wp2_with (first | (go_at_call 40; (with_reducible refine (HI _).mono ?_); rintro e w1 ⟨rfl, hb1⟩; obtain ⟨hc1, hf1⟩ := bcell hb1; have hw1 : Below w.heap.size w w1 := bl_call (by repeat (first | exact Below.refl _ _ | assumption | (refine bl_alloc ?_ (Nat.le_refl _) _) | (refine bl_set ?_ (by simp <;> omega) _))) hb1; have hz1 : w.heap.size + 1 ≤ w1.heap.size := (by have hq := hb1.size; have hr := hw1.size; (try simp at hq); omega); have hza : w.heap.size < w1.heap.size := (by omega); have hz4 := hb1.size; (try simp at hz4); (try have hz5 := Nat.lt_of_succ_le hz4)))
    obtain ⟨wI, rfl⟩ : ∃ wI : World, wI = w1 := ⟨_, rfl⟩
    refine wp_loop_rounds 3 ?_
    rw [rounds_succ]
    go_wp2_with fail
    rw [rounds_succ]
    go_wp2_with fail
    rw [rounds_succ]
    go_wp2_with (first | (go_at_call 41; (with_reducible refine (whole_any _ _).mono ?_); rintro e w1 ⟨rfl, hb1⟩; obtain ⟨hc1, hf1⟩ := bcell hb1; have hw1 : Below w.heap.size w w1 := bl_call (by repeat (first | exact Below.refl _ _ | assumption | (refine bl_alloc ?_ (Nat.le_refl _) _) | (refine bl_set ?_ (by simp <;> omega) _))) hb1; have hz1 : w.heap.size + 2 ≤ w1.heap.size := (by have hq := hb1.size; have hr := hw1.size; (try simp at hq); omega); have hza : w.heap.size < w1.heap.size := (by omega); have hzb : w.heap.size + 1 < w1.heap.size := (by omega); have hz4 := hb1.size; (try simp at hz4); (try have hz5 := Nat.lt_of_succ_le hz4); (try have hzxwI : wI.heap.size < w1.heap.size := (by omega))))
    have n1 : ¬ w.heap.size = wI.heap.size := by omega
    have n2 : ¬ wI.heap.size = w.heap.size := by omega
    have n3 : w.heap.size < w1.heap.size := by omega
    refine bodyPost_ret (v := qV k) ?_ rfl ⟨rfl, (by repeat (first | (with_reducible refine bl_set ?_ (by simp <;> omega) _) | (with_reducible refine bl_alloc ?_ (Nat.le_refl _) _) | (with_reducible assumption) | (with_reducible exact Below.refl _ _)))⟩
    rw [HR.out]; simp (maxDischargeDepth := 9) [results, Try.results14, go_sem, affV, *]
  · obtain ⟨e1, e2⟩ := qc_3 h
    have HR := hide (show qV k = affV 0 1 1 1 (-1) 1 0 1 0 1 0 1 by unfold qV; rw [e1, e2]; rfl)
    rw [h] at ht
    clear e1 e2 h
    go_enter Try.func14, Try.ntmps14
    go_wp2_with (first | (go_at_call 40; (with_reducible refine (HI _).mono ?_); rintro e w1 ⟨rfl, hb1⟩; obtain ⟨hc1, hf1⟩ := bcell hb1; have hw1 : Below w.heap.size w w1 := bl_call (by repeat (first | exact Below.refl _ _ | assumption | (refine bl_alloc ?_ (Nat.le_refl _) _) | (refine bl_set ?_ (by simp <;> omega) _))) hb1; have hz1 : w.heap.size + 1 ≤ w1.heap.size := (by have hq := hb1.size; have hr := hw1.size; (try simp at hq); omega); have hza : w.heap.size < w1.heap.size := (by omega); have hz4 := hb1.size; (try simp at hz4); (try have hz5 := Nat.lt_of_succ_le hz4)))
    obtain ⟨wI, rfl⟩ : ∃ wI : World, wI = w1 := ⟨_, rfl⟩
    refine wp_loop_rounds 4 ?_
    rw [rounds_succ]
    go_wp2_with fail
    rw [rounds_succ]
    go_wp2_with fail
    rw [rounds_succ]
    go_wp2_with fail
    rw [rounds_succ]
    go_wp2_with (first | (go_at_call 41; (with_reducible refine (whole_any _ _).mono ?_); rintro e w1 ⟨rfl, hb1⟩; obtain ⟨hc1, hf1⟩ := bcell hb1; have hw1 : Below w.heap.size w w1 := bl_call (by repeat (first | exact Below.refl _ _ | assumption | (refine bl_alloc ?_ (Nat.le_refl _) _) | (refine bl_set ?_ (by simp <;> omega) _))) hb1; have hz1 : w.heap.size + 2 ≤ w1.heap.size := (by have hq := hb1.size; have hr := hw1.size; (try simp at hq); omega); have hza : w.heap.size < w1.heap.size := (by omega); have hzb : w.heap.size + 1 < w1.heap.size := (by omega); have hz4 := hb1.size; (try simp at hz4); (try have hz5 := Nat.lt_of_succ_le hz4); (try have hzxwI : wI.heap.size < w1.heap.size := (by omega))))
    have n1 : ¬ w.heap.size = wI.heap.size := by omega
    have n2 : ¬ wI.heap.size = w.heap.size := by omega
    have n3 : w.heap.size < w1.heap.size := by omega
    refine bodyPost_ret (v := qV k) ?_ rfl ⟨rfl, (by repeat (first | (with_reducible refine bl_set ?_ (by simp <;> omega) _) | (with_reducible refine bl_alloc ?_ (Nat.le_refl _) _) | (with_reducible assumption) | (with_reducible exact Below.refl _ _)))⟩
    rw [HR.out]; simp (maxDischargeDepth := 9) [results, Try.results14, go_sem, affV, *]
set_option maxRecDepth 100000 in
set_option maxHeartbeats 4000000 in
theorem fnQuarterMap (k : Int) (wk : (Lit.int .i64 k).wf = true) (w : World) : Calls Try.prog 3 #[.int .i64 k] w fun E w' => E = .returned (.bool true) ∧ Below w.heap.size w w' := by
  have HE := eqAffine_self (quarterC k) 1 (-(quarterS k)) 1 (quarterS k) 1 (quarterC k) 1 0 1 0 1
  have HS := quarterMap_s k
  have HI := quarterMap_i k
  simp only [qV, affV] at HE HS HI
  go_enter Try.func3, Try.ntmps3
  go_wp2_with (first | (go_at_call 13; (with_reducible refine (HS _).mono ?_); rintro e w1 ⟨rfl, hb1⟩; obtain ⟨hc1, hf1⟩ := bcell hb1; have hw1 : Below w.heap.size w w1 := bl_call (by repeat (first | exact Below.refl _ _ | assumption | (refine bl_alloc ?_ (Nat.le_refl _) _) | (refine bl_set ?_ (by simp <;> omega) _))) hb1; have hz1 : w.heap.size + 0 ≤ w1.heap.size := (by have hq := hb1.size; have hr := hw1.size; (try simp at hq); omega); have hz4 := hb1.size; (try simp at hz4); (try have hz5 := Nat.lt_of_succ_le hz4)) | (go_at_call 14; (with_reducible refine (HI _).mono ?_); rintro e w1 ⟨rfl, hb1⟩; obtain ⟨hc1, hf1⟩ := bcell hb1; have hw1 : Below w.heap.size w w1 := bl_call (by repeat (first | exact Below.refl _ _ | assumption | (refine bl_alloc ?_ (Nat.le_refl _) _) | (refine bl_set ?_ (by simp <;> omega) _))) hb1; have hz1 : w.heap.size + 0 ≤ w1.heap.size := (by have hq := hb1.size; have hr := hw1.size; (try simp at hq); omega); have hz4 := hb1.size; (try simp at hz4); (try have hz5 := Nat.lt_of_succ_le hz4)) | (go_at_call 15; (with_reducible refine (HE _).mono ?_); rintro e w1 ⟨rfl, hb1⟩; obtain ⟨hc1, hf1⟩ := bcell hb1; have hw1 : Below w.heap.size w w1 := bl_call (by repeat (first | exact Below.refl _ _ | assumption | (refine bl_alloc ?_ (Nat.le_refl _) _) | (refine bl_set ?_ (by simp <;> omega) _))) hb1; have hz1 : w.heap.size + 0 ≤ w1.heap.size := (by have hq := hb1.size; have hr := hw1.size; (try simp at hq); omega); have hz4 := hb1.size; (try simp at hz4); (try have hz5 := Nat.lt_of_succ_le hz4)))
  go_ret
  exact ⟨rfl, (by repeat (first | exact Below.refl _ _ | assumption | (refine bl_alloc ?_ (Nat.le_refl _) _) | (refine bl_set ?_ (by simp <;> omega) _)))⟩
end Go.Proofs.Ytickgkfgmbaalaa
