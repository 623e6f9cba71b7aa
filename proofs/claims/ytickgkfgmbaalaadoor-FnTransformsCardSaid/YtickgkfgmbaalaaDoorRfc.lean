/-
  CONTRACTS of the reference's l02Int and of ReadFrac (packages impl and spec), and the walk of the law FnExactReadFrac. Conditions: a text of at most 1048576 bytes.
-/
import Derived.Test.YtickgkfgmbaalaaDoorCut
import Derived.Test.YtickgkfgmbaalaaDoorFracP
namespace Go.Proofs.YtickgkfgmbaalaaDoor
open Go.RowKit Go.Sort
set_option linter.unusedVariables false
attribute [local go_sem] cell_grow frozen_grow
theorem l2T_f {s : ByteArray} (h : l2Ok s = false) : l2T s = .tuple #[.int .i64 0, .bool false] := by unfold l2T; rw [h]; rfl
theorem l2T_t {s : ByteArray} (h : l2Ok s = true) : l2T s = .tuple #[.int .i64 (rdV s), .bool true] := by unfold l2T; rw [h]; rfl
set_option maxHeartbeats 2000000 in
theorem l02Int_pos (s : ByteArray) (hg0 : ng s = false) (hz : s.size ≤ 1048576) (w : World) : Calls Tryd.prog 48 #[.string s] w fun e w' => e = .returned (l2T s) ∧ Below w.heap.size w w' := by
  have HS := hide (rs_pos hg0)
  have hg := hide hg0
  by_cases h0 : s.size = 0
  · have he : s = ⟨#[]⟩ := size_zero h0
    subst he
    have HR := hide (l2T_f (s := ⟨#[]⟩) l2Ok_e)
    clear hg0 h0
    go_enter Tryd.func48, Tryd.ntmps48
    go_wp2
    refine bodyPost_ret (v := l2T ⟨#[]⟩) ?_ rfl ⟨rfl, (by repeat (first | exact Below.refl _ _ | assumption | (refine bl_alloc ?_ (Nat.le_refl _) _) | (refine bl_set ?_ (by simp <;> omega) _)))⟩
    rw [HR.out]; simp [results, Tryd.results48, go_sem, *]
  have hs1 : 1 ≤ s.size := by omega
  have hb : ¬ byteAt s 0 = 45 := by
    obtain ⟨⟨l⟩⟩ := s
    cases l with
    | nil => simp [ByteArray.size] at h0
    | cons x r =>
      intro h
      have hx : x = 45 := by
        have h2 : (x.toNat : Int) = 45 := h
        apply UInt8.toNat_inj.mp
        show x.toNat = 45
        omega
      subst hx
      have : ng ⟨⟨45 :: r⟩⟩ = true := rfl
      rw [this] at hg0; cases hg0
  have e0 := byteAt_eq s 0 (by omega)
  have q7 : ¬ ((s[0]).toNat : Int) = 45 := by rw [e0]; exact hb
  have q6 : (((s[0]).toNat : Int) == 45) = false := by simp; omega
  have hne : ¬ s = ⟨#[]⟩ := fun h => by rw [h] at hs1; simp [ByteArray.size] at hs1
  have q8 := ba_nbeq hne
  have q9 := ba_nbne hne
  have q10 := full_ne hs1
  have q11 := full_isE hs1
  clear hne hb e0 hg0 h0
  by_cases h2 : 10 < s.size
  · have HR := hide (l2T_f (s := s) (by unfold l2Ok; rw [HS.out, decide_eq_false (p := _ ≤ 10) (by omega)]; simp))
    go_enter Tryd.func48, Tryd.ntmps48
    go_wp2
    all_goals (try (exfalso; omega))
    all_goals
      refine bodyPost_ret (v := l2T s) ?_ rfl ⟨rfl, (by repeat (first | exact Below.refl _ _ | assumption | (refine bl_alloc ?_ (Nat.le_refl _) _) | (refine bl_set ?_ (by simp <;> omega) _)))⟩
      rw [HR.out]; simp [results, Tryd.results48, go_sem, *]
  have HX := hide (show l2Ok s = dgs s s.size by unfold l2Ok; rw [HS.out, decide_eq_true (by omega), decide_eq_true (by omega)]; rfl)
  have HV := hide (show rdV s = vN s s.size by unfold rdV; rw [hg.out, HS.out]; rfl)
  go_enter Tryd.func48, Tryd.ntmps48
  go_wp2
  all_goals (try (exfalso; omega))
  go_loop [5, 6] (fun n i => ∃ k : Nat, k ≤ s.size ∧ i = .int .i64 k ∧ n = .int .i64 (vN s k) ∧ Hid (dgs s k = true)) (fun n i => s.size - (intOf i).toNat)
  case atStart => exact ⟨0, by omega, rfl, rfl, rfl⟩
  case round =>
    obtain ⟨k, hk, rfl, rfl, ho⟩ := hrel
    by_cases hkn : k < s.size
    · have e1 := byteAt_eq s k hkn
      cases p1 : dgI (byteAt s k)
      · have hf : dgs s s.size = false := allN_f (p := fun j => dgI (byteAt s j)) p1 s.size hkn
        have HR := hide (l2T_f (s := s) (by rw [HX.out, hf]))
        have q2 : ((s[k]).toNat : Int) < 48 ∨ ¬ ((s[k]).toNat : Int) < 48 ∧ 57 < ((s[k]).toNat : Int) := by
          rw [e1]
          have q3 : ¬ (48 ≤ byteAt s k ∧ byteAt s k ≤ 57) := of_decide_eq_false p1
          omega
        clear e1 p1 hf
        rcases q2 with q3 | ⟨q3, q4⟩
        all_goals
          go_wp2
          refine bodyPost_ret (v := l2T s) ?_ rfl ⟨rfl, (by repeat (first | exact Below.refl _ _ | assumption | (refine bl_alloc ?_ (Nat.le_refl _) _) | (refine bl_set ?_ (by simp <;> omega) _)))⟩
          rw [HR.out]; simp [results, Tryd.results48, go_sem, *]
      · have HE := hide (show dgs s (k + 1) = true by unfold dgs at *; rw [allN, ho.out]; exact p1)
        obtain ⟨v0, v1⟩ := vN_17 s k (by omega) ho.out
        have q2 : 48 ≤ ((s[k]).toNat : Int) ∧ ((s[k]).toNat : Int) ≤ 57 := by rw [e1]; exact of_decide_eq_true p1
        obtain ⟨q3, q4⟩ := q2
        have HV2 := hide (show vN s (k + 1) = 10 * vN s k + (((s[k]).toNat : Int) - 48) by rw [e1, vN]; omega)
        clear e1 p1
        go_wp2
        go_round
        case rel => exact ⟨k + 1, by omega, by go_num, by rw [HV2.out]; try go_num, HE⟩
        case measure => simp [intOf]; omega
    · obtain rfl : s.size = k := by omega
      obtain ⟨v0, v1⟩ := vN_18 s s.size (by omega) ho.out
      have HR := hide (show l2T s = .tuple #[.int .i64 (vN s s.size), .bool true] by rw [← HV.out]; exact l2T_t (by rw [HX.out]; exact ho.out))
      go_wp2
      refine bodyPost_ret (v := l2T s) ?_ rfl ⟨rfl, (by repeat (first | exact Below.refl _ _ | assumption | (refine bl_alloc ?_ (Nat.le_refl _) _) | (refine bl_set ?_ (by simp <;> omega) _)))⟩
      rw [HR.out]; simp [results, Tryd.results48, go_sem, *]
set_option maxHeartbeats 2000000 in
theorem l02Int_neg (s : ByteArray) (hg0 : ng s = true) (hz : s.size ≤ 1048576) (w : World) : Calls Tryd.prog 48 #[.string s] w fun e w' => e = .returned (l2T s) ∧ Below w.heap.size w w' := by
  obtain ⟨hx, hs1, hs2⟩ := rs_neg hg0
  have hs3 : (rs s).size < s.size := by omega
  have hg := hide hg0
  have hb : byteAt s 0 = 45 := by
    obtain ⟨⟨l⟩⟩ := s
    cases l with
    | nil => simp [ng, negL] at hg0
    | cons x r =>
      by_cases h : x = 45
      · subst h; rfl
      · have : ng ⟨⟨x :: r⟩⟩ = false := negL_ne h
        rw [this] at hg0; cases hg0
  have e0 := byteAt_eq s 0 (by omega)
  rw [hb] at e0
  have hne : ¬ s = ⟨#[]⟩ := fun h => by rw [h] at hs1; simp [ByteArray.size] at hs1
  have q8 := ba_nbeq hne
  have q9 := ba_nbne hne
  have q10 := full_ne hs1
  have q11 := full_isE hs1
  clear hne hb hs2 hg0
  by_cases h1 : (rs s).size < 1
  · have HR := hide (l2T_f (s := s) (by unfold l2Ok; rw [decide_eq_false (by omega)]; rfl))
    have he : rs s = ⟨#[]⟩ := size_zero (by omega)
    rw [he] at hx
    clear h1 hs3 he
    go_enter Tryd.func48, Tryd.ntmps48
    go_wp2
    all_goals (try (exfalso; omega))
    all_goals
      refine bodyPost_ret (v := l2T s) ?_ rfl ⟨rfl, (by repeat (first | exact Below.refl _ _ | assumption | (refine bl_alloc ?_ (Nat.le_refl _) _) | (refine bl_set ?_ (by simp <;> omega) _)))⟩
      rw [HR.out]; simp [results, Tryd.results48, go_sem, *]
  have hne2 : ¬ rs s = ⟨#[]⟩ := fun h => by rw [h] at h1; simp [ByteArray.size] at h1
  have p8 := ba_nbeq hne2
  have p9 := ba_nbne hne2
  have p10 := full_ne (s := rs s) (by omega)
  have p11 := full_isE (s := rs s) (by omega)
  clear hne2
  by_cases h2 : 10 < (rs s).size
  · have HR := hide (l2T_f (s := s) (by unfold l2Ok; rw [decide_eq_false (p := _ ≤ 10) (by omega)]; simp))
    go_enter Tryd.func48, Tryd.ntmps48
    go_wp2
    all_goals (try (exfalso; omega))
    all_goals
      refine bodyPost_ret (v := l2T s) ?_ rfl ⟨rfl, (by repeat (first | exact Below.refl _ _ | assumption | (refine bl_alloc ?_ (Nat.le_refl _) _) | (refine bl_set ?_ (by simp <;> omega) _)))⟩
      rw [HR.out]; simp [results, Tryd.results48, go_sem, *]
  have HX := hide (show l2Ok s = dgs (rs s) (rs s).size by unfold l2Ok; rw [decide_eq_true (by omega), decide_eq_true (by omega)]; rfl)
  have HV := hide (show rdV s = -(vN (rs s) (rs s).size) by unfold rdV; rw [hg.out]; rfl)
  generalize hr : rs s = r at *
  clear hr
  go_enter Tryd.func48, Tryd.ntmps48
  go_wp2
  all_goals (try (exfalso; omega))
  go_loop [5, 6] (fun n i => ∃ k : Nat, k ≤ r.size ∧ i = .int .i64 k ∧ n = .int .i64 (vN r k) ∧ Hid (dgs r k = true)) (fun n i => r.size - (intOf i).toNat)
  case atStart => exact ⟨0, by omega, rfl, rfl, rfl⟩
  case round =>
    obtain ⟨k, hk, rfl, rfl, ho⟩ := hrel
    by_cases hkn : k < r.size
    · have e1 := byteAt_eq r k hkn
      cases p1 : dgI (byteAt r k)
      · have hf : dgs r r.size = false := allN_f (p := fun j => dgI (byteAt r j)) p1 r.size hkn
        have HR := hide (l2T_f (s := s) (by rw [HX.out, hf]))
        have q2 : ((r[k]).toNat : Int) < 48 ∨ ¬ ((r[k]).toNat : Int) < 48 ∧ 57 < ((r[k]).toNat : Int) := by
          rw [e1]
          have q3 : ¬ (48 ≤ byteAt r k ∧ byteAt r k ≤ 57) := of_decide_eq_false p1
          omega
        clear e1 p1 hf
        rcases q2 with q3 | ⟨q3, q4⟩
        all_goals
          go_wp2
          refine bodyPost_ret (v := l2T s) ?_ rfl ⟨rfl, (by repeat (first | exact Below.refl _ _ | assumption | (refine bl_alloc ?_ (Nat.le_refl _) _) | (refine bl_set ?_ (by simp <;> omega) _)))⟩
          rw [HR.out]; simp [results, Tryd.results48, go_sem, *]
      · have HE := hide (show dgs r (k + 1) = true by unfold dgs at *; rw [allN, ho.out]; exact p1)
        obtain ⟨v0, v1⟩ := vN_17 r k (by omega) ho.out
        have q2 : 48 ≤ ((r[k]).toNat : Int) ∧ ((r[k]).toNat : Int) ≤ 57 := by rw [e1]; exact of_decide_eq_true p1
        obtain ⟨q3, q4⟩ := q2
        have HV2 := hide (show vN r (k + 1) = 10 * vN r k + (((r[k]).toNat : Int) - 48) by rw [e1, vN]; omega)
        clear e1 p1
        go_wp2
        go_round
        case rel => exact ⟨k + 1, by omega, by go_num, by rw [HV2.out]; try go_num, HE⟩
        case measure => simp [intOf]; omega
    · obtain rfl : r.size = k := by omega
      obtain ⟨v0, v1⟩ := vN_18 r r.size (by omega) ho.out
      have HR := hide (show l2T s = .tuple #[.int .i64 (-(vN r r.size)), .bool true] by rw [← HV.out]; exact l2T_t (by rw [HX.out]; exact ho.out))
      go_wp2
      refine bodyPost_ret (v := l2T s) ?_ rfl ⟨rfl, (by repeat (first | exact Below.refl _ _ | assumption | (refine bl_alloc ?_ (Nat.le_refl _) _) | (refine bl_set ?_ (by simp <;> omega) _)))⟩
      rw [HR.out]; simp [results, Tryd.results48, go_sem, *]
set_option maxHeartbeats 400000 in
theorem l02Int_any (s : ByteArray) (hz : s.size ≤ 1048576) (w : World) : Calls Tryd.prog 48 #[.string s] w fun e w' => e = .returned (l2T s) ∧ Below w.heap.size w w' := by
  cases hg : ng s
  · exact l02Int_pos s hg hz w
  · exact l02Int_neg s hg hz w
end Go.Proofs.YtickgkfgmbaalaaDoor
