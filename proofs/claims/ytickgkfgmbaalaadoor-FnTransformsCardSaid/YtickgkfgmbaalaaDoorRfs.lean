/-
  CONTRACTS of ReadFrac (packages impl and spec), and the walk of the law FnExactReadFrac. Conditions: a text of at most 1048576 bytes.
-/
import Derived.Test.YtickgkfgmbaalaaDoorRfc
namespace Go.Proofs.YtickgkfgmbaalaaDoor
open Go.RowKit Go.Sort
set_option linter.unusedVariables false
attribute [local go_sem] cell_grow frozen_grow
theorem rd_bd {s : ByteArray} (h : dgs (rs s) (rs s).size = true) (h2 : (rs s).size ≤ 18) : -9223372036854775808 ≤ rdV s ∧ rdV s ≤ 9223372036854775807 := by
  obtain ⟨a, b⟩ := vN_18 (rs s) (rs s).size h2 h
  unfold rdV
  split <;> omega
theorem rdOk_bd {s : ByteArray} (h : rdOk s = true) : -9223372036854775808 ≤ rdV s ∧ rdV s ≤ 9223372036854775807 := by
  have hd := rdOk_dgs h
  unfold rdOk rdAll at h
  simp only [Bool.and_eq_true, decide_eq_true_eq] at h
  exact rd_bd hd h.1.1.2
theorem l2Ok_bd {s : ByteArray} (h : l2Ok s = true) : -9223372036854775808 ≤ rdV s ∧ rdV s ≤ 9223372036854775807 := by
  unfold l2Ok at h
  simp only [Bool.and_eq_true, decide_eq_true_eq] at h
  exact rd_bd h.2 (by omega)
theorem rdV_one : rdV ⟨#[49]⟩ = 1 := by rw [dnF_one]; exact rdV_dec 1
theorem rfT_f {s : ByteArray} (h : rfOk s = false) : rfT s = rfF := by unfold rfT; rw [h]; rfl
theorem rfT_t {s : ByteArray} (h : rfOk s = true) : rfT s = .tuple #[.agg #[.int .i64 (rfN s), .int .i64 (rfD s)], .bool true] := by unfold rfT; rw [h]; rfl
theorem rfOk_f {s : ByteArray} (h : rdOk (hdF s) = false ∨ rdOk (dnF s) = false ∨ l2Ok (hdF s) = false ∨ l2Ok (dnF s) = false) : rfOk s = false := by
  cases hr : rfOk s
  · rfl
  · obtain ⟨a, b, c, d⟩ := rf_all hr
    rw [a, b, c, d] at h
    simp at h
theorem rfT_form (s : ByteArray) : ∃ a b c, rfT s = .tuple #[.agg #[.int .i64 a, .int .i64 b], .bool c] := by
  unfold rfT
  split
  · exact ⟨_, _, _, rfl⟩
  · exact ⟨_, _, _, rfl⟩
theorem miss_parts {s : ByteArray} (h : fstI s 47 = -1) : hdF s = s ∧ dnF s = ⟨#[49]⟩ := by
  unfold hdF dnF
  rw [if_pos h, if_pos h]
  exact ⟨rfl, rfl⟩
theorem hit_parts {s : ByteArray} {i : Nat} (h : fstI s 47 = i) : hdF s = s.extract 0 i ∧ dnF s = s.extract (i + 1) s.size := by
  unfold hdF dnF
  rw [if_neg (by omega), if_neg (by omega), h]
  exact ⟨rfl, rfl⟩
set_option maxRecDepth 100000 in
set_option maxHeartbeats 8000000 in
theorem readFrac_miss (s : ByteArray) (hz : s.size ≤ 1048576) (h : fstI s 47 = -1) (w : World) : Calls Tryd.prog 24 #[.string s] w fun e w' => e = .returned (rfT s) ∧ Below w.heap.size w w' := by
  have HC := cut_miss s 47 h
  obtain ⟨e1, e2⟩ := miss_parts h
  have HX := readDecimal_i s
  cases hx : rdOk s
  · have HR := hide (rfT_f (rfOk_f (s := s) (.inl (by rw [e1]; exact hx))))
    rw [rdT_f hx] at HX
    clear e1 e2 h
    go_enter Tryd.func24, Tryd.ntmps24
    go_wp2_with (first | (go_at_call 51; (with_reducible refine (HC _).mono ?_); rintro e w1 ⟨rfl, hb1⟩; obtain ⟨hc1, hf1⟩ := bcell hb1; have hw1 : Below w.heap.size w w1 := bl_call (by repeat (first | exact Below.refl _ _ | assumption | (refine bl_alloc ?_ (Nat.le_refl _) _) | (refine bl_set ?_ (by simp <;> omega) _))) hb1; have hz1 : w.heap.size + 1 ≤ w1.heap.size := (by have hq := hb1.size; have hr := hw1.size; (try simp at hq); omega); have hza : w.heap.size < w1.heap.size := (by omega); have hz4 := hb1.size; (try simp at hz4); (try have hz5 := Nat.lt_of_succ_le hz4); obtain ⟨wC, rfl⟩ : ∃ wC : World, wC = w1 := ⟨_, rfl⟩) | (go_at_call 52; (with_reducible refine (HX _).mono ?_); rintro e w1 ⟨rfl, hb1⟩; obtain ⟨hc1, hf1⟩ := bcell hb1; have hw1 : Below w.heap.size w w1 := bl_call (by repeat (first | exact Below.refl _ _ | assumption | (refine bl_alloc ?_ (Nat.le_refl _) _) | (refine bl_set ?_ (by simp <;> omega) _))) hb1; have hz1 : w.heap.size + 2 ≤ w1.heap.size := (by have hq := hb1.size; have hr := hw1.size; (try simp at hq); omega); have hza : w.heap.size < w1.heap.size := (by omega); have hzb : w.heap.size + 1 < w1.heap.size := (by omega); have hz4 := hb1.size; (try simp at hz4); (try have hz5 := Nat.lt_of_succ_le hz4); (try have hzxwC : wC.heap.size < w1.heap.size := (by omega))))
    refine bodyPost_ret (v := rfT s) ?_ rfl ⟨rfl, (by repeat (first | exact Below.refl _ _ | assumption | (refine bl_alloc ?_ (Nat.le_refl _) _) | (refine bl_set ?_ (by simp <;> omega) _)))⟩
    rw [HR.out]; simp (maxDischargeDepth := 9) [rfF, results, Tryd.results24, go_sem, *]
  · have hN : rfN s = rdV s := by unfold rfN; rw [e1]
    have hD : rfD s = 1 := by unfold rfD; rw [e2]; exact rdV_one
    obtain ⟨b1, b2⟩ := rdOk_bd hx
    have HF := fracText_i (rdV s) 1 b1 b2
    have hse := rdOk_ne hx
    rw [rdT_t hx] at HX
    by_cases hd : fracText (rdV s) 1 = s
    · have HR := hide (show rfT s = .tuple #[.agg #[.int .i64 (rdV s), .int .i64 1], .bool true] by rw [rfT_t (rf_text (by rw [hN, hD]; exact hd) hse), hN, hD])
      have q1 : ((fracText (rdV s) 1).toList == s.toList) = true := ba_beq hd
      have q2 : ((fracText (rdV s) 1).toList != s.toList) = false := ba_bne hd
      clear e1 e2 h hN hD hse hd
      go_enter Tryd.func24, Tryd.ntmps24
      go_wp2_with (first | (go_at_call 51; (with_reducible refine (HC _).mono ?_); rintro e w1 ⟨rfl, hb1⟩; obtain ⟨hc1, hf1⟩ := bcell hb1; have hw1 : Below w.heap.size w w1 := bl_call (by repeat (first | exact Below.refl _ _ | assumption | (refine bl_alloc ?_ (Nat.le_refl _) _) | (refine bl_set ?_ (by simp <;> omega) _))) hb1; have hz1 : w.heap.size + 1 ≤ w1.heap.size := (by have hq := hb1.size; have hr := hw1.size; (try simp at hq); omega); have hza : w.heap.size < w1.heap.size := (by omega); have hz4 := hb1.size; (try simp at hz4); (try have hz5 := Nat.lt_of_succ_le hz4); obtain ⟨wC, rfl⟩ : ∃ wC : World, wC = w1 := ⟨_, rfl⟩) | (go_at_call 52; (with_reducible refine (HX _).mono ?_); rintro e w1 ⟨rfl, hb1⟩; obtain ⟨hc1, hf1⟩ := bcell hb1; have hw1 : Below w.heap.size w w1 := bl_call (by repeat (first | exact Below.refl _ _ | assumption | (refine bl_alloc ?_ (Nat.le_refl _) _) | (refine bl_set ?_ (by simp <;> omega) _))) hb1; have hz1 : w.heap.size + 2 ≤ w1.heap.size := (by have hq := hb1.size; have hr := hw1.size; (try simp at hq); omega); have hza : w.heap.size < w1.heap.size := (by omega); have hzb : w.heap.size + 1 < w1.heap.size := (by omega); have hz4 := hb1.size; (try simp at hz4); (try have hz5 := Nat.lt_of_succ_le hz4); (try have hzxwC : wC.heap.size < w1.heap.size := (by omega))) | (go_at_call 38; (with_reducible refine (HF _).mono ?_); rintro e w1 ⟨rfl, hb1⟩; obtain ⟨hc1, hf1⟩ := bcell hb1; have hw1 : Below w.heap.size w w1 := bl_call (by repeat (first | exact Below.refl _ _ | assumption | (refine bl_alloc ?_ (Nat.le_refl _) _) | (refine bl_set ?_ (by simp <;> omega) _))) hb1; have hz1 : w.heap.size + 2 ≤ w1.heap.size := (by have hq := hb1.size; have hr := hw1.size; (try simp at hq); omega); have hza : w.heap.size < w1.heap.size := (by omega); have hzb : w.heap.size + 1 < w1.heap.size := (by omega); have hz4 := hb1.size; (try simp at hz4); (try have hz5 := Nat.lt_of_succ_le hz4); (try have hzxwC : wC.heap.size < w1.heap.size := (by omega))))
      refine bodyPost_ret (v := rfT s) ?_ rfl ⟨rfl, (by repeat (first | exact Below.refl _ _ | assumption | (refine bl_alloc ?_ (Nat.le_refl _) _) | (refine bl_set ?_ (by simp <;> omega) _)))⟩
      rw [HR.out]; simp (maxDischargeDepth := 9) [results, Tryd.results24, go_sem, *]
    · have HR := hide (rfT_f (rf_no (s := s) (by rw [hN, hD]; exact hd)))
      have q1 : ((fracText (rdV s) 1).toList == s.toList) = false := ba_nbeq hd
      have q2 : ((fracText (rdV s) 1).toList != s.toList) = true := ba_nbne hd
      clear e1 e2 h hN hD hse hd
      go_enter Tryd.func24, Tryd.ntmps24
      go_wp2_with (first | (go_at_call 51; (with_reducible refine (HC _).mono ?_); rintro e w1 ⟨rfl, hb1⟩; obtain ⟨hc1, hf1⟩ := bcell hb1; have hw1 : Below w.heap.size w w1 := bl_call (by repeat (first | exact Below.refl _ _ | assumption | (refine bl_alloc ?_ (Nat.le_refl _) _) | (refine bl_set ?_ (by simp <;> omega) _))) hb1; have hz1 : w.heap.size + 1 ≤ w1.heap.size := (by have hq := hb1.size; have hr := hw1.size; (try simp at hq); omega); have hza : w.heap.size < w1.heap.size := (by omega); have hz4 := hb1.size; (try simp at hz4); (try have hz5 := Nat.lt_of_succ_le hz4); obtain ⟨wC, rfl⟩ : ∃ wC : World, wC = w1 := ⟨_, rfl⟩) | (go_at_call 52; (with_reducible refine (HX _).mono ?_); rintro e w1 ⟨rfl, hb1⟩; obtain ⟨hc1, hf1⟩ := bcell hb1; have hw1 : Below w.heap.size w w1 := bl_call (by repeat (first | exact Below.refl _ _ | assumption | (refine bl_alloc ?_ (Nat.le_refl _) _) | (refine bl_set ?_ (by simp <;> omega) _))) hb1; have hz1 : w.heap.size + 2 ≤ w1.heap.size := (by have hq := hb1.size; have hr := hw1.size; (try simp at hq); omega); have hza : w.heap.size < w1.heap.size := (by omega); have hzb : w.heap.size + 1 < w1.heap.size := (by omega); have hz4 := hb1.size; (try simp at hz4); (try have hz5 := Nat.lt_of_succ_le hz4); (try have hzxwC : wC.heap.size < w1.heap.size := (by omega))) | (go_at_call 38; (with_reducible refine (HF _).mono ?_); rintro e w1 ⟨rfl, hb1⟩; obtain ⟨hc1, hf1⟩ := bcell hb1; have hw1 : Below w.heap.size w w1 := bl_call (by repeat (first | exact Below.refl _ _ | assumption | (refine bl_alloc ?_ (Nat.le_refl _) _) | (refine bl_set ?_ (by simp <;> omega) _))) hb1; have hz1 : w.heap.size + 2 ≤ w1.heap.size := (by have hq := hb1.size; have hr := hw1.size; (try simp at hq); omega); have hza : w.heap.size < w1.heap.size := (by omega); have hzb : w.heap.size + 1 < w1.heap.size := (by omega); have hz4 := hb1.size; (try simp at hz4); (try have hz5 := Nat.lt_of_succ_le hz4); (try have hzxwC : wC.heap.size < w1.heap.size := (by omega))))
      refine bodyPost_ret (v := rfT s) ?_ rfl ⟨rfl, (by repeat (first | exact Below.refl _ _ | assumption | (refine bl_alloc ?_ (Nat.le_refl _) _) | (refine bl_set ?_ (by simp <;> omega) _)))⟩
      rw [HR.out]; simp (maxDischargeDepth := 9) [rfF, results, Tryd.results24, go_sem, *]
set_option maxRecDepth 100000 in
set_option maxHeartbeats 8000000 in
theorem readFrac_hit (s : ByteArray) (hz : s.size ≤ 1048576) (i : Nat) (h : fstI s 47 = i) (w : World) : Calls Tryd.prog 24 #[.string s] w fun e w' => e = .returned (rfT s) ∧ Below w.heap.size w w' := by
  have HC := cut_hit s 47 i h hz
  have hs0 : s ≠ ⟨#[]⟩ := fun e => by have := (fst_some h).1; rw [e] at this; simp [ByteArray.size] at this
  obtain ⟨e1, e2⟩ := hit_parts h
  have hN : rfN s = rdV (hdF s) := rfl
  have hD : rfD s = rdV (dnF s) := rfl
  rw [← e1, ← e2] at HC
  have hA := fun k => rfOk_f (s := s) k
  generalize hdF s = x at *
  generalize dnF s = y at *
  clear e1 e2 h
  have HX := readDecimal_i x
  have HY := readDecimal_i y
  cases hx : rdOk x
  · have HR := hide (rfT_f (hA (.inl hx)))
    rw [rdT_f hx] at HX
    clear hA hN hD
    go_enter Tryd.func24, Tryd.ntmps24
    go_wp2_with (first | (go_at_call 51; (with_reducible refine (HC _).mono ?_); rintro e w1 ⟨rfl, hb1⟩; obtain ⟨hc1, hf1⟩ := bcell hb1; have hw1 : Below w.heap.size w w1 := bl_call (by repeat (first | exact Below.refl _ _ | assumption | (refine bl_alloc ?_ (Nat.le_refl _) _) | (refine bl_set ?_ (by simp <;> omega) _))) hb1; have hz1 : w.heap.size + 1 ≤ w1.heap.size := (by have hq := hb1.size; have hr := hw1.size; (try simp at hq); omega); have hza : w.heap.size < w1.heap.size := (by omega); have hz4 := hb1.size; (try simp at hz4); (try have hz5 := Nat.lt_of_succ_le hz4); obtain ⟨wC, rfl⟩ : ∃ wC : World, wC = w1 := ⟨_, rfl⟩) | (go_at_call 52; (with_reducible refine (HX _).mono ?_); rintro e w1 ⟨rfl, hb1⟩; obtain ⟨hc1, hf1⟩ := bcell hb1; have hw1 : Below w.heap.size w w1 := bl_call (by repeat (first | exact Below.refl _ _ | assumption | (refine bl_alloc ?_ (Nat.le_refl _) _) | (refine bl_set ?_ (by simp <;> omega) _))) hb1; have hz1 : w.heap.size + 2 ≤ w1.heap.size := (by have hq := hb1.size; have hr := hw1.size; (try simp at hq); omega); have hza : w.heap.size < w1.heap.size := (by omega); have hzb : w.heap.size + 1 < w1.heap.size := (by omega); have hz4 := hb1.size; (try simp at hz4); (try have hz5 := Nat.lt_of_succ_le hz4); (try have hzxwC : wC.heap.size < w1.heap.size := (by omega))))
    refine bodyPost_ret (v := rfT s) ?_ rfl ⟨rfl, (by repeat (first | exact Below.refl _ _ | assumption | (refine bl_alloc ?_ (Nat.le_refl _) _) | (refine bl_set ?_ (by simp <;> omega) _)))⟩
    rw [HR.out]; simp (maxDischargeDepth := 9) [rfF, results, Tryd.results24, go_sem, *]
  · rw [rdT_t hx] at HX
    cases hy : rdOk y
    · have HR := hide (rfT_f (hA (.inr (.inl hy))))
      rw [rdT_f hy] at HY
      clear hA hN hD
      go_enter Tryd.func24, Tryd.ntmps24
      go_wp2_with (first | (go_at_call 51; (with_reducible refine (HC _).mono ?_); rintro e w1 ⟨rfl, hb1⟩; obtain ⟨hc1, hf1⟩ := bcell hb1; have hw1 : Below w.heap.size w w1 := bl_call (by repeat (first | exact Below.refl _ _ | assumption | (refine bl_alloc ?_ (Nat.le_refl _) _) | (refine bl_set ?_ (by simp <;> omega) _))) hb1; have hz1 : w.heap.size + 1 ≤ w1.heap.size := (by have hq := hb1.size; have hr := hw1.size; (try simp at hq); omega); have hza : w.heap.size < w1.heap.size := (by omega); have hz4 := hb1.size; (try simp at hz4); (try have hz5 := Nat.lt_of_succ_le hz4); obtain ⟨wC, rfl⟩ : ∃ wC : World, wC = w1 := ⟨_, rfl⟩) | (go_at_call 52; (with_reducible refine (HX _).mono ?_); rintro e w1 ⟨rfl, hb1⟩; obtain ⟨hc1, hf1⟩ := bcell hb1; have hw1 : Below w.heap.size w w1 := bl_call (by repeat (first | exact Below.refl _ _ | assumption | (refine bl_alloc ?_ (Nat.le_refl _) _) | (refine bl_set ?_ (by simp <;> omega) _))) hb1; have hz1 : w.heap.size + 2 ≤ w1.heap.size := (by have hq := hb1.size; have hr := hw1.size; (try simp at hq); omega); have hza : w.heap.size < w1.heap.size := (by omega); have hzb : w.heap.size + 1 < w1.heap.size := (by omega); have hz4 := hb1.size; (try simp at hz4); (try have hz5 := Nat.lt_of_succ_le hz4); (try have hzxwC : wC.heap.size < w1.heap.size := (by omega))) | (go_at_call 52; (with_reducible refine (HY _).mono ?_); rintro e w1 ⟨rfl, hb1⟩; obtain ⟨hc1, hf1⟩ := bcell hb1; have hw1 : Below w.heap.size w w1 := bl_call (by repeat (first | exact Below.refl _ _ | assumption | (refine bl_alloc ?_ (Nat.le_refl _) _) | (refine bl_set ?_ (by simp <;> omega) _))) hb1; have hz1 : w.heap.size + 2 ≤ w1.heap.size := (by have hq := hb1.size; have hr := hw1.size; (try simp at hq); omega); have hza : w.heap.size < w1.heap.size := (by omega); have hzb : w.heap.size + 1 < w1.heap.size := (by omega); have hz4 := hb1.size; (try simp at hz4); (try have hz5 := Nat.lt_of_succ_le hz4); (try have hzxwC : wC.heap.size < w1.heap.size := (by omega))))
      refine bodyPost_ret (v := rfT s) ?_ rfl ⟨rfl, (by repeat (first | exact Below.refl _ _ | assumption | (refine bl_alloc ?_ (Nat.le_refl _) _) | (refine bl_set ?_ (by simp <;> omega) _)))⟩
      rw [HR.out]; simp (maxDischargeDepth := 9) [rfF, results, Tryd.results24, go_sem, *]
    · rw [rdT_t hy] at HY
      obtain ⟨b1, b2⟩ := rdOk_bd hx
      have HF := fracText_i (rdV x) (rdV y) b1 b2
      by_cases hd : fracText (rdV x) (rdV y) = s
      · have hse : s ≠ ⟨#[]⟩ := hs0
        have HR := hide (show rfT s = .tuple #[.agg #[.int .i64 (rdV x), .int .i64 (rdV y)], .bool true] by rw [rfT_t (rf_text (by rw [hN, hD]; exact hd) hse), hN, hD])
        have q1 : ((fracText (rdV x) (rdV y)).toList == s.toList) = true := ba_beq hd
        have q2 : ((fracText (rdV x) (rdV y)).toList != s.toList) = false := ba_bne hd
        clear hA hN hD hse hd
        go_enter Tryd.func24, Tryd.ntmps24
        go_wp2_with (first | (go_at_call 51; (with_reducible refine (HC _).mono ?_); rintro e w1 ⟨rfl, hb1⟩; obtain ⟨hc1, hf1⟩ := bcell hb1; have hw1 : Below w.heap.size w w1 := bl_call (by repeat (first | exact Below.refl _ _ | assumption | (refine bl_alloc ?_ (Nat.le_refl _) _) | (refine bl_set ?_ (by simp <;> omega) _))) hb1; have hz1 : w.heap.size + 1 ≤ w1.heap.size := (by have hq := hb1.size; have hr := hw1.size; (try simp at hq); omega); have hza : w.heap.size < w1.heap.size := (by omega); have hz4 := hb1.size; (try simp at hz4); (try have hz5 := Nat.lt_of_succ_le hz4); obtain ⟨wC, rfl⟩ : ∃ wC : World, wC = w1 := ⟨_, rfl⟩) | (go_at_call 52; (with_reducible refine (HX _).mono ?_); rintro e w1 ⟨rfl, hb1⟩; obtain ⟨hc1, hf1⟩ := bcell hb1; have hw1 : Below w.heap.size w w1 := bl_call (by repeat (first | exact Below.refl _ _ | assumption | (refine bl_alloc ?_ (Nat.le_refl _) _) | (refine bl_set ?_ (by simp <;> omega) _))) hb1; have hz1 : w.heap.size + 2 ≤ w1.heap.size := (by have hq := hb1.size; have hr := hw1.size; (try simp at hq); omega); have hza : w.heap.size < w1.heap.size := (by omega); have hzb : w.heap.size + 1 < w1.heap.size := (by omega); have hz4 := hb1.size; (try simp at hz4); (try have hz5 := Nat.lt_of_succ_le hz4); (try have hzxwC : wC.heap.size < w1.heap.size := (by omega))) | (go_at_call 52; (with_reducible refine (HY _).mono ?_); rintro e w1 ⟨rfl, hb1⟩; obtain ⟨hc1, hf1⟩ := bcell hb1; have hw1 : Below w.heap.size w w1 := bl_call (by repeat (first | exact Below.refl _ _ | assumption | (refine bl_alloc ?_ (Nat.le_refl _) _) | (refine bl_set ?_ (by simp <;> omega) _))) hb1; have hz1 : w.heap.size + 2 ≤ w1.heap.size := (by have hq := hb1.size; have hr := hw1.size; (try simp at hq); omega); have hza : w.heap.size < w1.heap.size := (by omega); have hzb : w.heap.size + 1 < w1.heap.size := (by omega); have hz4 := hb1.size; (try simp at hz4); (try have hz5 := Nat.lt_of_succ_le hz4); (try have hzxwC : wC.heap.size < w1.heap.size := (by omega))) | (go_at_call 38; (with_reducible refine (HF _).mono ?_); rintro e w1 ⟨rfl, hb1⟩; obtain ⟨hc1, hf1⟩ := bcell hb1; have hw1 : Below w.heap.size w w1 := bl_call (by repeat (first | exact Below.refl _ _ | assumption | (refine bl_alloc ?_ (Nat.le_refl _) _) | (refine bl_set ?_ (by simp <;> omega) _))) hb1; have hz1 : w.heap.size + 2 ≤ w1.heap.size := (by have hq := hb1.size; have hr := hw1.size; (try simp at hq); omega); have hza : w.heap.size < w1.heap.size := (by omega); have hzb : w.heap.size + 1 < w1.heap.size := (by omega); have hz4 := hb1.size; (try simp at hz4); (try have hz5 := Nat.lt_of_succ_le hz4); (try have hzxwC : wC.heap.size < w1.heap.size := (by omega))))
        refine bodyPost_ret (v := rfT s) ?_ rfl ⟨rfl, (by repeat (first | exact Below.refl _ _ | assumption | (refine bl_alloc ?_ (Nat.le_refl _) _) | (refine bl_set ?_ (by simp <;> omega) _)))⟩
        rw [HR.out]; simp (maxDischargeDepth := 9) [results, Tryd.results24, go_sem, *]
      · have HR := hide (rfT_f (rf_no (s := s) (by rw [hN, hD]; exact hd)))
        have q1 : ((fracText (rdV x) (rdV y)).toList == s.toList) = false := ba_nbeq hd
        have q2 : ((fracText (rdV x) (rdV y)).toList != s.toList) = true := ba_nbne hd
        clear hA hN hD hd
        go_enter Tryd.func24, Tryd.ntmps24
        go_wp2_with (first | (go_at_call 51; (with_reducible refine (HC _).mono ?_); rintro e w1 ⟨rfl, hb1⟩; obtain ⟨hc1, hf1⟩ := bcell hb1; have hw1 : Below w.heap.size w w1 := bl_call (by repeat (first | exact Below.refl _ _ | assumption | (refine bl_alloc ?_ (Nat.le_refl _) _) | (refine bl_set ?_ (by simp <;> omega) _))) hb1; have hz1 : w.heap.size + 1 ≤ w1.heap.size := (by have hq := hb1.size; have hr := hw1.size; (try simp at hq); omega); have hza : w.heap.size < w1.heap.size := (by omega); have hz4 := hb1.size; (try simp at hz4); (try have hz5 := Nat.lt_of_succ_le hz4); obtain ⟨wC, rfl⟩ : ∃ wC : World, wC = w1 := ⟨_, rfl⟩) | (go_at_call 52; (with_reducible refine (HX _).mono ?_); rintro e w1 ⟨rfl, hb1⟩; obtain ⟨hc1, hf1⟩ := bcell hb1; have hw1 : Below w.heap.size w w1 := bl_call (by repeat (first | exact Below.refl _ _ | assumption | (refine bl_alloc ?_ (Nat.le_refl _) _) | (refine bl_set ?_ (by simp <;> omega) _))) hb1; have hz1 : w.heap.size + 2 ≤ w1.heap.size := (by have hq := hb1.size; have hr := hw1.size; (try simp at hq); omega); have hza : w.heap.size < w1.heap.size := (by omega); have hzb : w.heap.size + 1 < w1.heap.size := (by omega); have hz4 := hb1.size; (try simp at hz4); (try have hz5 := Nat.lt_of_succ_le hz4); (try have hzxwC : wC.heap.size < w1.heap.size := (by omega))) | (go_at_call 52; (with_reducible refine (HY _).mono ?_); rintro e w1 ⟨rfl, hb1⟩; obtain ⟨hc1, hf1⟩ := bcell hb1; have hw1 : Below w.heap.size w w1 := bl_call (by repeat (first | exact Below.refl _ _ | assumption | (refine bl_alloc ?_ (Nat.le_refl _) _) | (refine bl_set ?_ (by simp <;> omega) _))) hb1; have hz1 : w.heap.size + 2 ≤ w1.heap.size := (by have hq := hb1.size; have hr := hw1.size; (try simp at hq); omega); have hza : w.heap.size < w1.heap.size := (by omega); have hzb : w.heap.size + 1 < w1.heap.size := (by omega); have hz4 := hb1.size; (try simp at hz4); (try have hz5 := Nat.lt_of_succ_le hz4); (try have hzxwC : wC.heap.size < w1.heap.size := (by omega))) | (go_at_call 38; (with_reducible refine (HF _).mono ?_); rintro e w1 ⟨rfl, hb1⟩; obtain ⟨hc1, hf1⟩ := bcell hb1; have hw1 : Below w.heap.size w w1 := bl_call (by repeat (first | exact Below.refl _ _ | assumption | (refine bl_alloc ?_ (Nat.le_refl _) _) | (refine bl_set ?_ (by simp <;> omega) _))) hb1; have hz1 : w.heap.size + 2 ≤ w1.heap.size := (by have hq := hb1.size; have hr := hw1.size; (try simp at hq); omega); have hza : w.heap.size < w1.heap.size := (by omega); have hzb : w.heap.size + 1 < w1.heap.size := (by omega); have hz4 := hb1.size; (try simp at hz4); (try have hz5 := Nat.lt_of_succ_le hz4); (try have hzxwC : wC.heap.size < w1.heap.size := (by omega))))
        refine bodyPost_ret (v := rfT s) ?_ rfl ⟨rfl, (by repeat (first | exact Below.refl _ _ | assumption | (refine bl_alloc ?_ (Nat.le_refl _) _) | (refine bl_set ?_ (by simp <;> omega) _)))⟩
        rw [HR.out]; simp (maxDischargeDepth := 9) [rfF, results, Tryd.results24, go_sem, *]
theorem readFrac_i (s : ByteArray) (hz : s.size ≤ 1048576) (w : World) : Calls Tryd.prog 24 #[.string s] w fun e w' => e = .returned (rfT s) ∧ Below w.heap.size w w' := by
  rcases fst_cases s 47 with h | ⟨i, h⟩
  · exact readFrac_miss s hz h w
  · exact readFrac_hit s hz i h w
theorem ext_le2 (s : ByteArray) (a e : Nat) (h : s.size ≤ 1048576) : (s.extract a e).size ≤ 1048576 := by rw [ByteArray.size_extract]; omega
set_option maxRecDepth 100000 in
set_option maxHeartbeats 8000000 in
theorem readFrac_sm (s : ByteArray) (hz : s.size ≤ 1048576) (h : fstI s 47 = -1) (w : World) : Calls Tryd.prog 21 #[.string s] w fun e w' => e = .returned (rfT s) ∧ Below w.heap.size w w' := by
  have hno := fst_none h
  obtain ⟨e1, e2⟩ := miss_parts h
  have HX := l02Int_any s hz
  have HF := fun b1 b2 => fracText_s (rdV s) 1 b1 b2
  have HA := hide (show l2Ok s = false → rfT s = rfF from fun hx => rfT_f (rfOk_f (s := s) (.inr (.inr (.inl (by rw [e1]; exact hx))))))
  have hN : rfN s = rdV s := by unfold rfN; rw [e1]
  have hD : rfD s = 1 := by unfold rfD; rw [e2]; exact rdV_one
  have HT := hide (show l2Ok s = true → fracText (rdV s) 1 = s → rfT s = .tuple #[.agg #[.int .i64 (rdV s), .int .i64 1], .bool true] from fun hx hd => by rw [rfT_t (rf_text (by rw [hN, hD]; exact hd) (l2Ok_ne hx)), hN, hD])
  have HN := hide (show ¬ fracText (rdV s) 1 = s → rfT s = rfF from fun hd => rfT_f (rf_no (s := s) (by rw [hN, hD]; exact hd)))
  clear e1 e2 hN hD h
  go_enter Tryd.func21, Tryd.ntmps21
  go_wp2
  go_loop [3, 5, 6] (fun o hd i => ∃ k : Nat, k ≤ s.size ∧ i = .int .i64 k ∧ hd = .string s ∧ o = .bool false) (fun _ _ i => s.size - (intOf i).toNat)
  case atStart => exact ⟨0, by omega, rfl, rfl, rfl⟩
  case round =>
    obtain ⟨k, hk, rfl, rfl, rfl⟩ := hrel
    by_cases hkn : k < s.size
    · have e1 := byteAt_eq s k hkn
      have q2 : ¬ ((s[k]).toNat : Int) = 47 := by rw [e1]; exact hno k hkn
      have q1 : (((s[k]).toNat : Int) == 47) = false := by simpa using q2
      clear e1 hno
      go_wp2
      go_round
      case rel => exact ⟨k + 1, by omega, by go_num, rfl, rfl⟩
      case measure => simp [intOf]; omega
    · obtain rfl : k = s.size := by omega
      clear hno
      cases hx : l2Ok s
      · have HR := hide (HA.out hx)
        rw [l2T_f hx] at HX
        go_wp2_with (first | (go_at_call 48; (with_reducible refine (HX _).mono ?_); rintro e w1 ⟨rfl, hb1⟩; obtain ⟨hc1, hf1⟩ := bcell hb1; have hw1 : Below w.heap.size w w1 := bl_call (by repeat (first | exact Below.refl _ _ | assumption | (refine bl_alloc ?_ (Nat.le_refl _) _) | (refine bl_set ?_ (by simp <;> omega) _))) hb1; have hz1 : w.heap.size + 2 ≤ w1.heap.size := (by have hq := hb1.size; have hr := hw1.size; (try simp at hq); omega); have hza : w.heap.size < w1.heap.size := (by omega); have hzb : w.heap.size + 1 < w1.heap.size := (by omega); have hz4 := hb1.size; (try simp at hz4); (try have hz5 := Nat.lt_of_succ_le hz4)))
        refine bodyPost_ret (v := rfT s) ?_ rfl ⟨rfl, (by repeat (first | exact Below.refl _ _ | assumption | (refine bl_alloc ?_ (Nat.le_refl _) _) | (refine bl_set ?_ (by simp <;> omega) _)))⟩
        rw [HR.out]; simp (maxDischargeDepth := 9) [rfF, results, Tryd.results21, go_sem, *]
      · rw [l2T_t hx] at HX
        obtain ⟨b1, b2⟩ := l2Ok_bd hx
        have HF2 := HF b1 b2
        by_cases hd : fracText (rdV s) 1 = s
        · have HR := hide (HT.out hx hd)
          have q1 : ((fracText (rdV s) 1).toList == s.toList) = true := ba_beq hd
          have q2 : ((fracText (rdV s) 1).toList != s.toList) = false := ba_bne hd
          clear hd
          go_wp2_with (first | (go_at_call 48; (with_reducible refine (HX _).mono ?_); rintro e w1 ⟨rfl, hb1⟩; obtain ⟨hc1, hf1⟩ := bcell hb1; have hw1 : Below w.heap.size w w1 := bl_call (by repeat (first | exact Below.refl _ _ | assumption | (refine bl_alloc ?_ (Nat.le_refl _) _) | (refine bl_set ?_ (by simp <;> omega) _))) hb1; have hz1 : w.heap.size + 2 ≤ w1.heap.size := (by have hq := hb1.size; have hr := hw1.size; (try simp at hq); omega); have hza : w.heap.size < w1.heap.size := (by omega); have hzb : w.heap.size + 1 < w1.heap.size := (by omega); have hz4 := hb1.size; (try simp at hz4); (try have hz5 := Nat.lt_of_succ_le hz4)) | (go_at_call 49; (with_reducible refine (HF2 _).mono ?_); rintro e w1 ⟨rfl, hb1⟩; obtain ⟨hc1, hf1⟩ := bcell hb1; have hw1 : Below w.heap.size w w1 := bl_call (by repeat (first | exact Below.refl _ _ | assumption | (refine bl_alloc ?_ (Nat.le_refl _) _) | (refine bl_set ?_ (by simp <;> omega) _))) hb1; have hz1 : w.heap.size + 2 ≤ w1.heap.size := (by have hq := hb1.size; have hr := hw1.size; (try simp at hq); omega); have hza : w.heap.size < w1.heap.size := (by omega); have hzb : w.heap.size + 1 < w1.heap.size := (by omega); have hz4 := hb1.size; (try simp at hz4); (try have hz5 := Nat.lt_of_succ_le hz4)))
          refine bodyPost_ret (v := rfT s) ?_ rfl ⟨rfl, (by repeat (first | exact Below.refl _ _ | assumption | (refine bl_alloc ?_ (Nat.le_refl _) _) | (refine bl_set ?_ (by simp <;> omega) _)))⟩
          rw [HR.out]; simp (maxDischargeDepth := 9) [results, Tryd.results21, go_sem, *]
        · have HR := hide (HN.out hd)
          have q1 : ((fracText (rdV s) 1).toList == s.toList) = false := ba_nbeq hd
          have q2 : ((fracText (rdV s) 1).toList != s.toList) = true := ba_nbne hd
          clear hd
          go_wp2_with (first | (go_at_call 48; (with_reducible refine (HX _).mono ?_); rintro e w1 ⟨rfl, hb1⟩; obtain ⟨hc1, hf1⟩ := bcell hb1; have hw1 : Below w.heap.size w w1 := bl_call (by repeat (first | exact Below.refl _ _ | assumption | (refine bl_alloc ?_ (Nat.le_refl _) _) | (refine bl_set ?_ (by simp <;> omega) _))) hb1; have hz1 : w.heap.size + 2 ≤ w1.heap.size := (by have hq := hb1.size; have hr := hw1.size; (try simp at hq); omega); have hza : w.heap.size < w1.heap.size := (by omega); have hzb : w.heap.size + 1 < w1.heap.size := (by omega); have hz4 := hb1.size; (try simp at hz4); (try have hz5 := Nat.lt_of_succ_le hz4)) | (go_at_call 49; (with_reducible refine (HF2 _).mono ?_); rintro e w1 ⟨rfl, hb1⟩; obtain ⟨hc1, hf1⟩ := bcell hb1; have hw1 : Below w.heap.size w w1 := bl_call (by repeat (first | exact Below.refl _ _ | assumption | (refine bl_alloc ?_ (Nat.le_refl _) _) | (refine bl_set ?_ (by simp <;> omega) _))) hb1; have hz1 : w.heap.size + 2 ≤ w1.heap.size := (by have hq := hb1.size; have hr := hw1.size; (try simp at hq); omega); have hza : w.heap.size < w1.heap.size := (by omega); have hzb : w.heap.size + 1 < w1.heap.size := (by omega); have hz4 := hb1.size; (try simp at hz4); (try have hz5 := Nat.lt_of_succ_le hz4)))
          refine bodyPost_ret (v := rfT s) ?_ rfl ⟨rfl, (by repeat (first | exact Below.refl _ _ | assumption | (refine bl_alloc ?_ (Nat.le_refl _) _) | (refine bl_set ?_ (by simp <;> omega) _)))⟩
          rw [HR.out]; simp (maxDischargeDepth := 9) [rfF, results, Tryd.results21, go_sem, *]
set_option maxRecDepth 100000 in
set_option maxHeartbeats 8000000 in
theorem readFrac_sh (s : ByteArray) (hz : s.size ≤ 1048576) (i : Nat) (h : fstI s 47 = i) (w : World) : Calls Tryd.prog 21 #[.string s] w fun e w' => e = .returned (rfT s) ∧ Below w.heap.size w w' := by
  obtain ⟨hil, hi, hno⟩ := fst_some h
  have hse : s ≠ ⟨#[]⟩ := fun e => by rw [e] at hil; simp [ByteArray.size] at hil
  obtain ⟨e1, e2⟩ := hit_parts h
  have HX := l02Int_any (s.extract 0 i) (ext_le2 _ _ _ hz)
  have HY := l02Int_any (s.extract (i + 1) s.size) (ext_le2 _ _ _ hz)
  have hN : rfN s = rdV (s.extract 0 i) := by unfold rfN; rw [e1]
  have hD : rfD s = rdV (s.extract (i + 1) s.size) := by unfold rfD; rw [e2]
  have HA := hide (show l2Ok (s.extract 0 i) = false → rfT s = rfF from fun hx => rfT_f (rfOk_f (s := s) (.inr (.inr (.inl (by rw [e1]; exact hx))))))
  have HB := hide (show l2Ok (s.extract (i + 1) s.size) = false → rfT s = rfF from fun hx => rfT_f (rfOk_f (s := s) (.inr (.inr (.inr (by rw [e2]; exact hx))))))
  have HF := fun b1 b2 => fracText_s (rdV (s.extract 0 i)) (rdV (s.extract (i + 1) s.size)) b1 b2
  have HT := hide (show fracText (rdV (s.extract 0 i)) (rdV (s.extract (i + 1) s.size)) = s → rfT s = .tuple #[.agg #[.int .i64 (rdV (s.extract 0 i)), .int .i64 (rdV (s.extract (i + 1) s.size))], .bool true] from fun hd => by rw [rfT_t (rf_text (by rw [hN, hD]; exact hd) hse), hN, hD])
  have HN := hide (show ¬ fracText (rdV (s.extract 0 i)) (rdV (s.extract (i + 1) s.size)) = s → rfT s = rfF from fun hd => rfT_f (rf_no (s := s) (by rw [hN, hD]; exact hd)))
  clear e1 e2 hN hD h hse
  go_enter Tryd.func21, Tryd.ntmps21
  go_wp2
  go_loop [3, 5, 6] (fun o hd iv => ∃ k : Nat, k ≤ i ∧ iv = .int .i64 k ∧ hd = .string s ∧ o = .bool false) (fun _ _ iv => s.size - (intOf iv).toNat)
  case atStart => exact ⟨0, by omega, rfl, rfl, rfl⟩
  case round =>
    obtain ⟨k, hk, rfl, rfl, rfl⟩ := hrel
    have e1 := byteAt_eq s k (by omega)
    by_cases hkn : k < i
    · have q2 : ¬ ((s[k]).toNat : Int) = 47 := by rw [e1]; exact hno k hkn
      have q1 : (((s[k]).toNat : Int) == 47) = false := by simpa using q2
      clear e1 hno
      go_wp2
      go_round
      case rel => exact ⟨k + 1, by omega, by go_num, rfl, rfl⟩
      case measure => simp [intOf]; omega
    · obtain rfl : k = i := by omega
      have q2 : ((s[k]).toNat : Int) = 47 := by rw [e1]; exact hi
      have q1 : (((s[k]).toNat : Int) == 47) = true := by rw [q2]; rfl
      have hw : wrap64 ((k : Int) + 1) = (k : Int) + 1 := IntWalk.wrap64_in _ ⟨by omega, by omega⟩
      clear e1 hno hi
      have hx0 : (k : Int) ≤ s.size := by omega
      generalize hyy : s.extract (k + 1) s.size = y at *
      generalize hxx : s.extract 0 k = x at *
      cases hy : l2Ok y
      · have HR := hide (HB.out hy)
        rw [l2T_f hy] at HY
        go_wp2_with (first | (go_at_call 48; (with_reducible refine (HY _).mono ?_); rintro e w1 ⟨rfl, hb1⟩; obtain ⟨hc1, hf1⟩ := bcell hb1; have hw1 : Below w.heap.size w w1 := bl_call (by repeat (first | exact Below.refl _ _ | assumption | (refine bl_alloc ?_ (Nat.le_refl _) _) | (refine bl_set ?_ (by simp <;> omega) _))) hb1; have hz1 : w.heap.size + 2 ≤ w1.heap.size := (by have hq := hb1.size; have hr := hw1.size; (try simp at hq); omega); have hza : w.heap.size < w1.heap.size := (by omega); have hzb : w.heap.size + 1 < w1.heap.size := (by omega); have hz4 := hb1.size; (try simp at hz4); (try have hz5 := Nat.lt_of_succ_le hz4)))
        refine bodyPost_ret (v := rfT s) ?_ rfl ⟨rfl, (by repeat (first | exact Below.refl _ _ | assumption | (refine bl_alloc ?_ (Nat.le_refl _) _) | (refine bl_set ?_ (by simp <;> omega) _)))⟩
        rw [HR.out]; simp (maxDischargeDepth := 9) [rfF, results, Tryd.results21, go_sem, *]
      · rw [l2T_t hy] at HY
        cases hx : l2Ok x
        · have HR := hide (HA.out hx)
          rw [l2T_f hx] at HX
          go_wp2_with (first | (go_at_call 48; (with_reducible refine (HX _).mono ?_); rintro e w1 ⟨rfl, hb1⟩; obtain ⟨hc1, hf1⟩ := bcell hb1; have hw1 : Below w.heap.size w w1 := bl_call (by repeat (first | exact Below.refl _ _ | assumption | (refine bl_alloc ?_ (Nat.le_refl _) _) | (refine bl_set ?_ (by simp <;> omega) _))) hb1; have hz1 : w.heap.size + 2 ≤ w1.heap.size := (by have hq := hb1.size; have hr := hw1.size; (try simp at hq); omega); have hza : w.heap.size < w1.heap.size := (by omega); have hzb : w.heap.size + 1 < w1.heap.size := (by omega); have hz4 := hb1.size; (try simp at hz4); (try have hz5 := Nat.lt_of_succ_le hz4)) | (go_at_call 48; (with_reducible refine (HY _).mono ?_); rintro e w1 ⟨rfl, hb1⟩; obtain ⟨hc1, hf1⟩ := bcell hb1; have hw1 : Below w.heap.size w w1 := bl_call (by repeat (first | exact Below.refl _ _ | assumption | (refine bl_alloc ?_ (Nat.le_refl _) _) | (refine bl_set ?_ (by simp <;> omega) _))) hb1; have hz1 : w.heap.size + 2 ≤ w1.heap.size := (by have hq := hb1.size; have hr := hw1.size; (try simp at hq); omega); have hza : w.heap.size < w1.heap.size := (by omega); have hzb : w.heap.size + 1 < w1.heap.size := (by omega); have hz4 := hb1.size; (try simp at hz4); (try have hz5 := Nat.lt_of_succ_le hz4)))
          refine bodyPost_ret (v := rfT s) ?_ rfl ⟨rfl, (by repeat (first | exact Below.refl _ _ | assumption | (refine bl_alloc ?_ (Nat.le_refl _) _) | (refine bl_set ?_ (by simp <;> omega) _)))⟩
          rw [HR.out]; simp (maxDischargeDepth := 9) [rfF, results, Tryd.results21, go_sem, *]
        · rw [l2T_t hx] at HX
          obtain ⟨b1, b2⟩ := l2Ok_bd hx
          have HF2 := HF b1 b2
          by_cases hd : fracText (rdV x) (rdV y) = s
          · have HR := hide (HT.out hd)
            have q3 : ((fracText (rdV x) (rdV y)).toList == s.toList) = true := ba_beq hd
            have q4 : ((fracText (rdV x) (rdV y)).toList != s.toList) = false := ba_bne hd
            clear hd
            go_wp2_with (first | (go_at_call 48; (with_reducible refine (HX _).mono ?_); rintro e w1 ⟨rfl, hb1⟩; obtain ⟨hc1, hf1⟩ := bcell hb1; have hw1 : Below w.heap.size w w1 := bl_call (by repeat (first | exact Below.refl _ _ | assumption | (refine bl_alloc ?_ (Nat.le_refl _) _) | (refine bl_set ?_ (by simp <;> omega) _))) hb1; have hz1 : w.heap.size + 2 ≤ w1.heap.size := (by have hq := hb1.size; have hr := hw1.size; (try simp at hq); omega); have hza : w.heap.size < w1.heap.size := (by omega); have hzb : w.heap.size + 1 < w1.heap.size := (by omega); have hz4 := hb1.size; (try simp at hz4); (try have hz5 := Nat.lt_of_succ_le hz4)) | (go_at_call 48; (with_reducible refine (HY _).mono ?_); rintro e w1 ⟨rfl, hb1⟩; obtain ⟨hc1, hf1⟩ := bcell hb1; have hw1 : Below w.heap.size w w1 := bl_call (by repeat (first | exact Below.refl _ _ | assumption | (refine bl_alloc ?_ (Nat.le_refl _) _) | (refine bl_set ?_ (by simp <;> omega) _))) hb1; have hz1 : w.heap.size + 2 ≤ w1.heap.size := (by have hq := hb1.size; have hr := hw1.size; (try simp at hq); omega); have hza : w.heap.size < w1.heap.size := (by omega); have hzb : w.heap.size + 1 < w1.heap.size := (by omega); have hz4 := hb1.size; (try simp at hz4); (try have hz5 := Nat.lt_of_succ_le hz4)) | (go_at_call 49; (with_reducible refine (HF2 _).mono ?_); rintro e w1 ⟨rfl, hb1⟩; obtain ⟨hc1, hf1⟩ := bcell hb1; have hw1 : Below w.heap.size w w1 := bl_call (by repeat (first | exact Below.refl _ _ | assumption | (refine bl_alloc ?_ (Nat.le_refl _) _) | (refine bl_set ?_ (by simp <;> omega) _))) hb1; have hz1 : w.heap.size + 2 ≤ w1.heap.size := (by have hq := hb1.size; have hr := hw1.size; (try simp at hq); omega); have hza : w.heap.size < w1.heap.size := (by omega); have hzb : w.heap.size + 1 < w1.heap.size := (by omega); have hz4 := hb1.size; (try simp at hz4); (try have hz5 := Nat.lt_of_succ_le hz4)))
            refine bodyPost_ret (v := rfT s) ?_ rfl ⟨rfl, (by repeat (first | exact Below.refl _ _ | assumption | (refine bl_alloc ?_ (Nat.le_refl _) _) | (refine bl_set ?_ (by simp <;> omega) _)))⟩
            rw [HR.out]; simp (maxDischargeDepth := 9) [results, Tryd.results21, go_sem, *]
          · have HR := hide (HN.out hd)
            have q3 : ((fracText (rdV x) (rdV y)).toList == s.toList) = false := ba_nbeq hd
            have q4 : ((fracText (rdV x) (rdV y)).toList != s.toList) = true := ba_nbne hd
            clear hd
            go_wp2_with (first | (go_at_call 48; (with_reducible refine (HX _).mono ?_); rintro e w1 ⟨rfl, hb1⟩; obtain ⟨hc1, hf1⟩ := bcell hb1; have hw1 : Below w.heap.size w w1 := bl_call (by repeat (first | exact Below.refl _ _ | assumption | (refine bl_alloc ?_ (Nat.le_refl _) _) | (refine bl_set ?_ (by simp <;> omega) _))) hb1; have hz1 : w.heap.size + 2 ≤ w1.heap.size := (by have hq := hb1.size; have hr := hw1.size; (try simp at hq); omega); have hza : w.heap.size < w1.heap.size := (by omega); have hzb : w.heap.size + 1 < w1.heap.size := (by omega); have hz4 := hb1.size; (try simp at hz4); (try have hz5 := Nat.lt_of_succ_le hz4)) | (go_at_call 48; (with_reducible refine (HY _).mono ?_); rintro e w1 ⟨rfl, hb1⟩; obtain ⟨hc1, hf1⟩ := bcell hb1; have hw1 : Below w.heap.size w w1 := bl_call (by repeat (first | exact Below.refl _ _ | assumption | (refine bl_alloc ?_ (Nat.le_refl _) _) | (refine bl_set ?_ (by simp <;> omega) _))) hb1; have hz1 : w.heap.size + 2 ≤ w1.heap.size := (by have hq := hb1.size; have hr := hw1.size; (try simp at hq); omega); have hza : w.heap.size < w1.heap.size := (by omega); have hzb : w.heap.size + 1 < w1.heap.size := (by omega); have hz4 := hb1.size; (try simp at hz4); (try have hz5 := Nat.lt_of_succ_le hz4)) | (go_at_call 49; (with_reducible refine (HF2 _).mono ?_); rintro e w1 ⟨rfl, hb1⟩; obtain ⟨hc1, hf1⟩ := bcell hb1; have hw1 : Below w.heap.size w w1 := bl_call (by repeat (first | exact Below.refl _ _ | assumption | (refine bl_alloc ?_ (Nat.le_refl _) _) | (refine bl_set ?_ (by simp <;> omega) _))) hb1; have hz1 : w.heap.size + 2 ≤ w1.heap.size := (by have hq := hb1.size; have hr := hw1.size; (try simp at hq); omega); have hza : w.heap.size < w1.heap.size := (by omega); have hzb : w.heap.size + 1 < w1.heap.size := (by omega); have hz4 := hb1.size; (try simp at hz4); (try have hz5 := Nat.lt_of_succ_le hz4)))
            refine bodyPost_ret (v := rfT s) ?_ rfl ⟨rfl, (by repeat (first | exact Below.refl _ _ | assumption | (refine bl_alloc ?_ (Nat.le_refl _) _) | (refine bl_set ?_ (by simp <;> omega) _)))⟩
            rw [HR.out]; simp (maxDischargeDepth := 9) [rfF, results, Tryd.results21, go_sem, *]
theorem readFrac_s (s : ByteArray) (hz : s.size ≤ 1048576) (w : World) : Calls Tryd.prog 21 #[.string s] w fun e w' => e = .returned (rfT s) ∧ Below w.heap.size w w' := by
  rcases fst_cases s 47 with h | ⟨i, h⟩
  · exact readFrac_sm s hz h w
  · exact readFrac_sh s hz i h w
end Go.Proofs.YtickgkfgmbaalaaDoor
