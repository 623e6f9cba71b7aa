/-
  CONTRACTS of the functions on maps that hold no computing (impl, spec, laws): validity, quarter turns, moving, scaling, slanting; and the walks of their laws. Conditions: integers of 64 bits.
-/
import Derived.Test.YtickgkfgmbaalaaDoorAff
import Derived.Test.YtickgkfgmbaalaaDoorMaps
import Derived.Test.YtickgkfgmbaalaaDoorTail
import Derived.Test.YtickgkfgmbaalaaDoorSeq
import Derived.LoopTactic
import Derived.LoopN
import Derived.RegionTactic
import Derived.BigRegion
namespace Go.Proofs.YtickgkfgmbaalaaDoor
open Go.RowKit Go.Sort
set_option linter.unusedVariables false
attribute [local go_sem] cell_grow frozen_grow
attribute [local go_sem] Oper.quietAt Oper.quietUpon

def zeroA : Af := ⟨(0, 0), (0, 0), (0, 0), (0, 0), (0, 0), (0, 0)⟩
/-- the value of a map -/
def afV (m : Af) : Value := affV m.xx.1 m.xx.2 m.xy.1 m.xy.2 m.yx.1 m.yx.2 m.yy.1 m.yy.2 m.dx.1 m.dx.2 m.dy.1 m.dy.2
def afCells (m : Af) : Array Value := #[.int .i64 m.xx.1, .int .i64 m.xx.2, .int .i64 m.xy.1, .int .i64 m.xy.2, .int .i64 m.yx.1, .int .i64 m.yx.2, .int .i64 m.yy.1, .int .i64 m.yy.2, .int .i64 m.dx.1, .int .i64 m.dx.2, .int .i64 m.dy.1, .int .i64 m.dy.2]
theorem qc_0 {k : Int} (h : k % 4 = 0) : quarterC k = 1 ∧ quarterS k = 0 := by unfold quarterC quarterS; rw [h]; decide
theorem qc_1 {k : Int} (h : k % 4 = 1) : quarterC k = 0 ∧ quarterS k = 1 := by unfold quarterC quarterS; rw [h]; decide
theorem qc_2 {k : Int} (h : k % 4 = 2) : quarterC k = -1 ∧ quarterS k = 0 := by unfold quarterC quarterS; rw [h]; decide
theorem qc_3 {k : Int} (h : k % 4 = 3) : quarterC k = 0 ∧ quarterS k = -1 := by unfold quarterC quarterS; rw [h]; decide
theorem and3 (k : Int) : bits .and .i64 k 3 = k % 4 := by
  show IntKind.i64.wrap ((BitVec.ofInt 64 k &&& BitVec.ofInt 64 3).toNat : Int) = _
  have e : (BitVec.ofInt 64 3).toNat = 3 := by decide
  rw [BitVec.toNat_and, e]
  have h := Nat.and_two_pow_sub_one_eq_mod (BitVec.ofInt 64 k).toNat 2
  have h2 : (BitVec.ofInt 64 k).toNat &&& 3 = (BitVec.ofInt 64 k).toNat % 4 := h
  rw [h2, BitVec.toNat_ofInt, IntKind.wrap_i64]
  omega
theorem tmod4 {k : Int} : (k.tmod 4 + 4).tmod 4 = k % 4 := by
  have h1 : -3 ≤ k.tmod 4 ∧ k.tmod 4 ≤ 3 ∧ k.tmod 4 % 4 = k % 4 := by
    rcases Int.le_total 0 k with h | h
    · rw [Int.tmod_eq_emod_of_nonneg h]; omega
    · have : k.tmod 4 = -((-k).tmod 4) := by rw [Int.neg_tmod]; omega
      rw [this, Int.tmod_eq_emod_of_nonneg (by omega)]; omega
  rw [Int.tmod_eq_emod_of_nonneg (by omega)]
  omega
theorem tmod4_bd (k : Int) : -3 ≤ k.tmod 4 ∧ k.tmod 4 ≤ 3 := by
  rcases Int.le_total 0 k with h | h
  · rw [Int.tmod_eq_emod_of_nonneg h]; omega
  · have : k.tmod 4 = -((-k).tmod 4) := by rw [Int.neg_tmod]; omega
    rw [this, Int.tmod_eq_emod_of_nonneg (by omega)]; omega
def qV (k : Int) : Value := affV (quarterC k) 1 (-(quarterS k)) 1 (quarterS k) 1 (quarterC k) 1 0 1 0 1
set_option maxRecDepth 100000 in
set_option maxHeartbeats 8000000 in
theorem quarterMap_i (k : Int) (w : World) : Calls Tryd.prog 15 #[.int .i64 k] w fun E w' => E = .returned (qV k) ∧ Below w.heap.size w w' := by
  have HI := identityMap_i
  simp only [affV] at HI
  have ht := tmod4 (k := k)
  obtain ⟨b0, b1⟩ := tmod4_bd k
  rcases (show k % 4 = 0 ∨ k % 4 = 1 ∨ k % 4 = 2 ∨ k % 4 = 3 by omega) with h | h | h | h
  · obtain ⟨e1, e2⟩ := qc_0 h
    have HR := hide (show qV k = affV 1 1 0 1 0 1 1 1 0 1 0 1 by unfold qV; rw [e1, e2]; rfl)
    rw [h] at ht
    clear e1 e2 h
    go_enter Tryd.func15, Tryd.ntmps15
    go_wp2_with (first | (go_at_call 40; (with_reducible refine (HI _).mono ?_); rintro e w1 ⟨rfl, hb1⟩; obtain ⟨hc1, hf1⟩ := bcell hb1; have hw1 : Below w.heap.size w w1 := bl_call (by repeat (first | exact Below.refl _ _ | assumption | (refine bl_alloc ?_ (Nat.le_refl _) _) | (refine bl_set ?_ (by simp <;> omega) _))) hb1; have hz1 : w.heap.size + 1 ≤ w1.heap.size := (by have hq := hb1.size; have hr := hw1.size; (try simp at hq); omega); have hza : w.heap.size < w1.heap.size := (by omega); have hz4 := hb1.size; (try simp at hz4); (try have hz5 := Nat.lt_of_succ_le hz4)))
    obtain ⟨wI, rfl⟩ : ∃ wI : World, wI = w1 := ⟨_, rfl⟩
    refine wp_loop_rounds 1 ?_
    rw [rounds_succ]
    go_wp2_with (first | (go_at_call 41; (with_reducible refine (whole_any _ _).mono ?_); rintro e w1 ⟨rfl, hb1⟩; obtain ⟨hc1, hf1⟩ := bcell hb1; have hw1 : Below w.heap.size w w1 := bl_call (by repeat (first | exact Below.refl _ _ | assumption | (refine bl_alloc ?_ (Nat.le_refl _) _) | (refine bl_set ?_ (by simp <;> omega) _))) hb1; have hz1 : w.heap.size + 2 ≤ w1.heap.size := (by have hq := hb1.size; have hr := hw1.size; (try simp at hq); omega); have hza : w.heap.size < w1.heap.size := (by omega); have hzb : w.heap.size + 1 < w1.heap.size := (by omega); have hz4 := hb1.size; (try simp at hz4); (try have hz5 := Nat.lt_of_succ_le hz4); (try have hzxwI : wI.heap.size < w1.heap.size := (by omega))))
    have n1 : ¬ w.heap.size = wI.heap.size := by omega
    have n2 : ¬ wI.heap.size = w.heap.size := by omega
    have n3 : w.heap.size < w1.heap.size := by omega
    refine bodyPost_ret (v := qV k) ?_ rfl ⟨rfl, (by repeat (first | (with_reducible refine bl_set ?_ (by simp <;> omega) _) | (with_reducible refine bl_alloc ?_ (Nat.le_refl _) _) | (with_reducible assumption) | (with_reducible exact Below.refl _ _)))⟩
    rw [HR.out]; simp (maxDischargeDepth := 9) [results, Tryd.results15, go_sem, affV, *]
  · obtain ⟨e1, e2⟩ := qc_1 h
    have HR := hide (show qV k = affV 0 1 (-1) 1 1 1 0 1 0 1 0 1 by unfold qV; rw [e1, e2])
    rw [h] at ht
    clear e1 e2 h
    go_enter Tryd.func15, Tryd.ntmps15
    go_wp2_with (first | (go_at_call 40; (with_reducible refine (HI _).mono ?_); rintro e w1 ⟨rfl, hb1⟩; obtain ⟨hc1, hf1⟩ := bcell hb1; have hw1 : Below w.heap.size w w1 := bl_call (by repeat (first | exact Below.refl _ _ | assumption | (refine bl_alloc ?_ (Nat.le_refl _) _) | (refine bl_set ?_ (by simp <;> omega) _))) hb1; have hz1 : w.heap.size + 1 ≤ w1.heap.size := (by have hq := hb1.size; have hr := hw1.size; (try simp at hq); omega); have hza : w.heap.size < w1.heap.size := (by omega); have hz4 := hb1.size; (try simp at hz4); (try have hz5 := Nat.lt_of_succ_le hz4)))
    obtain ⟨wI, rfl⟩ : ∃ wI : World, wI = w1 := ⟨_, rfl⟩
    refine wp_loop_rounds 2 ?_
    rw [rounds_succ]
    go_wp2_with fail
    rw [rounds_succ]
    go_wp2_with (first | (go_at_call 41; (with_reducible refine (whole_any _ _).mono ?_); rintro e w1 ⟨rfl, hb1⟩; obtain ⟨hc1, hf1⟩ := bcell hb1; have hw1 : Below w.heap.size w w1 := bl_call (by repeat (first | exact Below.refl _ _ | assumption | (refine bl_alloc ?_ (Nat.le_refl _) _) | (refine bl_set ?_ (by simp <;> omega) _))) hb1; have hz1 : w.heap.size + 2 ≤ w1.heap.size := (by have hq := hb1.size; have hr := hw1.size; (try simp at hq); omega); have hza : w.heap.size < w1.heap.size := (by omega); have hzb : w.heap.size + 1 < w1.heap.size := (by omega); have hz4 := hb1.size; (try simp at hz4); (try have hz5 := Nat.lt_of_succ_le hz4); (try have hzxwI : wI.heap.size < w1.heap.size := (by omega))))
    have n1 : ¬ w.heap.size = wI.heap.size := by omega
    have n2 : ¬ wI.heap.size = w.heap.size := by omega
    have n3 : w.heap.size < w1.heap.size := by omega
    refine bodyPost_ret (v := qV k) ?_ rfl ⟨rfl, (by repeat (first | (with_reducible refine bl_set ?_ (by simp <;> omega) _) | (with_reducible refine bl_alloc ?_ (Nat.le_refl _) _) | (with_reducible assumption) | (with_reducible exact Below.refl _ _)))⟩
    rw [HR.out]; simp (maxDischargeDepth := 9) [results, Tryd.results15, go_sem, affV, *]
  · obtain ⟨e1, e2⟩ := qc_2 h
    have HR := hide (show qV k = affV (-1) 1 0 1 0 1 (-1) 1 0 1 0 1 by unfold qV; rw [e1, e2]; rfl)
    rw [h] at ht
    clear e1 e2 h
    go_enter Tryd.func15, Tryd.ntmps15
    go_wp2_with (first | (go_at_call 40; (with_reducible refine (HI _).mono ?_); rintro e w1 ⟨rfl, hb1⟩; obtain ⟨hc1, hf1⟩ := bcell hb1; have hw1 : Below w.heap.size w w1 := bl_call (by repeat (first | exact Below.refl _ _ | assumption | (refine bl_alloc ?_ (Nat.le_refl _) _) | (refine bl_set ?_ (by simp <;> omega) _))) hb1; have hz1 : w.heap.size + 1 ≤ w1.heap.size := (by have hq := hb1.size; have hr := hw1.size; (try simp at hq); omega); have hza : w.heap.size < w1.heap.size := (by omega); have hz4 := hb1.size; (try simp at hz4); (try have hz5 := Nat.lt_of_succ_le hz4)))
    obtain ⟨wI, rfl⟩ : ∃ wI : World, wI = w1 := ⟨_, rfl⟩
    refine wp_loop_rounds 3 ?_
    rw [rounds_succ]
    go_wp2_with fail
    rw [rounds_succ]
    go_wp2_with fail
    rw [rounds_succ]
    go_wp2_with (first | (go_at_call 41; (with_reducible refine (whole_any _ _).mono ?_); rintro e w1 ⟨rfl, hb1⟩; obtain ⟨hc1, hf1⟩ := bcell hb1; have hw1 : Below w.heap.size w w1 := bl_call (by repeat (first | exact Below.refl _ _ | assumption | (refine bl_alloc ?_ (Nat.le_refl _) _) | (refine bl_set ?_ (by simp <;> omega) _))) hb1; have hz1 : w.heap.size + 2 ≤ w1.heap.size := (by have hq := hb1.size; have hr := hw1.size; (try simp at hq); omega); have hza : w.heap.size < w1.heap.size := (by omega); have hzb : w.heap.size + 1 < w1.heap.size := (by omega); have hz4 := hb1.size; (try simp at hz4); (try have hz5 := Nat.lt_of_succ_le hz4); (try have hzxwI : wI.heap.size < w1.heap.size := (by omega))))
    have n1 : ¬ w.heap.size = wI.heap.size := by omega
    have n2 : ¬ wI.heap.size = w.heap.size := by omega
    have n3 : w.heap.size < w1.heap.size := by omega
    refine bodyPost_ret (v := qV k) ?_ rfl ⟨rfl, (by repeat (first | (with_reducible refine bl_set ?_ (by simp <;> omega) _) | (with_reducible refine bl_alloc ?_ (Nat.le_refl _) _) | (with_reducible assumption) | (with_reducible exact Below.refl _ _)))⟩
    rw [HR.out]; simp (maxDischargeDepth := 9) [results, Tryd.results15, go_sem, affV, *]
  · obtain ⟨e1, e2⟩ := qc_3 h
    have HR := hide (show qV k = affV 0 1 1 1 (-1) 1 0 1 0 1 0 1 by unfold qV; rw [e1, e2]; rfl)
    rw [h] at ht
    clear e1 e2 h
    go_enter Tryd.func15, Tryd.ntmps15
    go_wp2_with (first | (go_at_call 40; (with_reducible refine (HI _).mono ?_); rintro e w1 ⟨rfl, hb1⟩; obtain ⟨hc1, hf1⟩ := bcell hb1; have hw1 : Below w.heap.size w w1 := bl_call (by repeat (first | exact Below.refl _ _ | assumption | (refine bl_alloc ?_ (Nat.le_refl _) _) | (refine bl_set ?_ (by simp <;> omega) _))) hb1; have hz1 : w.heap.size + 1 ≤ w1.heap.size := (by have hq := hb1.size; have hr := hw1.size; (try simp at hq); omega); have hza : w.heap.size < w1.heap.size := (by omega); have hz4 := hb1.size; (try simp at hz4); (try have hz5 := Nat.lt_of_succ_le hz4)))
    obtain ⟨wI, rfl⟩ : ∃ wI : World, wI = w1 := ⟨_, rfl⟩
    refine wp_loop_rounds 4 ?_
    rw [rounds_succ]
    go_wp2_with fail
    rw [rounds_succ]
    go_wp2_with fail
    rw [rounds_succ]
    go_wp2_with fail
    rw [rounds_succ]
    go_wp2_with (first | (go_at_call 41; (with_reducible refine (whole_any _ _).mono ?_); rintro e w1 ⟨rfl, hb1⟩; obtain ⟨hc1, hf1⟩ := bcell hb1; have hw1 : Below w.heap.size w w1 := bl_call (by repeat (first | exact Below.refl _ _ | assumption | (refine bl_alloc ?_ (Nat.le_refl _) _) | (refine bl_set ?_ (by simp <;> omega) _))) hb1; have hz1 : w.heap.size + 2 ≤ w1.heap.size := (by have hq := hb1.size; have hr := hw1.size; (try simp at hq); omega); have hza : w.heap.size < w1.heap.size := (by omega); have hzb : w.heap.size + 1 < w1.heap.size := (by omega); have hz4 := hb1.size; (try simp at hz4); (try have hz5 := Nat.lt_of_succ_le hz4); (try have hzxwI : wI.heap.size < w1.heap.size := (by omega))))
    have n1 : ¬ w.heap.size = wI.heap.size := by omega
    have n2 : ¬ wI.heap.size = w.heap.size := by omega
    have n3 : w.heap.size < w1.heap.size := by omega
    refine bodyPost_ret (v := qV k) ?_ rfl ⟨rfl, (by repeat (first | (with_reducible refine bl_set ?_ (by simp <;> omega) _) | (with_reducible refine bl_alloc ?_ (Nat.le_refl _) _) | (with_reducible assumption) | (with_reducible exact Below.refl _ _)))⟩
    rw [HR.out]; simp (maxDischargeDepth := 9) [results, Tryd.results15, go_sem, affV, *]
end Go.Proofs.YtickgkfgmbaalaaDoor
