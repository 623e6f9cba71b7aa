/-
  CONTRACTS of FracText (packages impl and spec): the text of a fraction; no cell that was there is written. And the walk of its law. Conditions: the numbers are of 64 bits.
-/
import Derived.Test.YtickgkfgmbaalaaDoorFr
import Derived.Test.YtickgkfgmbaalaaDoorDec
namespace Go.Proofs.YtickgkfgmbaalaaDoor
open Go.RowKit Go.Sort
set_option linter.unusedVariables false
attribute [local go_sem] cell_grow frozen_grow

/-- the text of a valid fraction -/
def ftB (n d : Int) : ByteArray := if d = 1 then decB n else decB n ++ ⟨#[47]⟩ ++ decB d
def fracText (n d : Int) : ByteArray := if okFr n d then ftB n d else ⟨#[]⟩
theorem size_app (a b : ByteArray) : (a ++ b).size = a.size + b.size := by
  show (a.append b).size = _
  simp [ByteArray.size_append]

set_option maxHeartbeats 1000000 in
theorem fracText_i (n d : Int) (h0 : -9223372036854775808 ≤ n) (h1 : n ≤ 9223372036854775807) (w : World) : Calls Tryd.prog 38 #[.agg #[.int .i64 n, .int .i64 d]] w fun e w' => e = .returned (.string (fracText n d)) ∧ Below w.heap.size w w' := by
  cases hk : okFr n d
  · have HT := hide (show fracText n d = ⟨#[]⟩ by unfold fracText; rw [hk]; rfl)
    go_enter Tryd.func38, Tryd.ntmps38
    go_wp2_with (go_at_call 57; (with_reducible refine (validFrac_i n d h0 h1 _).mono ?_); rintro e w1 ⟨rfl, hb1⟩; obtain ⟨hc1, hf1⟩ := bcell hb1; have hw1 : Below w.heap.size w w1 := bl_call (by repeat (first | exact Below.refl _ _ | assumption | (refine bl_alloc ?_ (Nat.le_refl _) _) | (refine bl_set ?_ (by simp <;> omega) _))) hb1; have hz1 : w.heap.size + 1 ≤ w1.heap.size := (by have hq := hb1.size; have hr := hw1.size; (try simp at hq); omega); have hza : w.heap.size < w1.heap.size := (by omega); have hz4 := hb1.size; (try simp at hz4); (try have hz5 := Nat.lt_of_succ_le hz4))
    go_ret
    exact ⟨by rw [HT.out]; rfl, (by repeat (first | exact Below.refl _ _ | assumption | (refine bl_alloc ?_ (Nat.le_refl _) _) | (refine bl_set ?_ (by simp <;> omega) _)))⟩
  · obtain ⟨p1, p2, p3, p4, _⟩ := okFr_t hk
    by_cases hd : d = 1
    · have HT := hide (show fracText n d = decB n by unfold fracText ftB; rw [hk, if_pos hd]; rfl)
      have q1 : (d == 1) = true := by simp [hd]
      have Hd := hide hd
      clear hd
      go_enter Tryd.func38, Tryd.ntmps38
      go_wp2_with (first | (go_at_call 57; (with_reducible refine (validFrac_i n d h0 h1 _).mono ?_); rintro e w1 ⟨rfl, hb1⟩; obtain ⟨hc1, hf1⟩ := bcell hb1; have hw1 : Below w.heap.size w w1 := bl_call (by repeat (first | exact Below.refl _ _ | assumption | (refine bl_alloc ?_ (Nat.le_refl _) _) | (refine bl_set ?_ (by simp <;> omega) _))) hb1; have hz1 : w.heap.size + 1 ≤ w1.heap.size := (by have hq := hb1.size; have hr := hw1.size; (try simp at hq); omega); have hza : w.heap.size < w1.heap.size := (by omega); have hz4 := hb1.size; (try simp at hz4); (try have hz5 := Nat.lt_of_succ_le hz4)) | (go_at_call 60; (with_reducible refine (decimal_i n h0 h1 _).mono ?_); rintro e w1 ⟨rfl, hb1⟩; obtain ⟨hc1, hf1⟩ := bcell hb1; have hw1 : Below w.heap.size w w1 := bl_call (by repeat (first | exact Below.refl _ _ | assumption | (refine bl_alloc ?_ (Nat.le_refl _) _) | (refine bl_set ?_ (by simp <;> omega) _))) hb1; have hz1 : w.heap.size + 1 ≤ w1.heap.size := (by have hq := hb1.size; have hr := hw1.size; (try simp at hq); omega); have hza : w.heap.size < w1.heap.size := (by omega); have hz4 := hb1.size; (try simp at hz4); (try have hz5 := Nat.lt_of_succ_le hz4)))
      go_ret
      exact ⟨by rw [HT.out]; rfl, (by repeat (first | exact Below.refl _ _ | assumption | (refine bl_alloc ?_ (Nat.le_refl _) _) | (refine bl_set ?_ (by simp <;> omega) _)))⟩
    · have HT := hide (show fracText n d = decB n ++ ⟨#[47]⟩ ++ decB d by unfold fracText ftB; rw [hk, if_neg hd]; rfl)
      have q1 : (d == 1) = false := by simp [hd]
      have z1 := decB_size h0 h1
      have z2 := decB_size (n := d) (by omega) (by omega)
      have hc1 := fun W => run_string_add_sum (P := Tryd.prog) W (decB n) ⟨#[47]⟩ (by show _ + 1 ≤ _; omega)
      have hc2 := fun W => run_string_add_sum (P := Tryd.prog) W (decB n ++ ⟨#[47]⟩) (decB d) (by rw [size_app]; show _ + 1 + _ ≤ _; omega)
      clear hd
      go_enter Tryd.func38, Tryd.ntmps38
      go_wp2_with (go_at_call 57; (with_reducible refine (validFrac_i n d h0 h1 _).mono ?_); rintro e w1 ⟨rfl, hb1⟩; obtain ⟨hc1, hf1⟩ := bcell hb1; have hw1 : Below w.heap.size w w1 := bl_call (by repeat (first | exact Below.refl _ _ | assumption | (refine bl_alloc ?_ (Nat.le_refl _) _) | (refine bl_set ?_ (by simp <;> omega) _))) hb1; have hz1 : w.heap.size + 1 ≤ w1.heap.size := (by have hq := hb1.size; have hr := hw1.size; (try simp at hq); omega); have hza : w.heap.size < w1.heap.size := (by omega); have hz4 := hb1.size; (try simp at hz4); (try have hz5 := Nat.lt_of_succ_le hz4))
      refine wp_region_quiet_below (by kernel_rfl) (by kernel_rfl) ?_
      repeat (first | go_big_quiet_step ((first | (go_at_call 60; with_reducible exact Calls.regrown_of (decimal_i n h0 h1 _)) | (go_at_call 60; with_reducible exact Calls.regrown_of (decimal_i d (by omega) (by omega) _)))) | quiet_step ((first | (go_at_call 60; with_reducible exact Calls.regrown_of (decimal_i n h0 h1 _)) | (go_at_call 60; with_reducible exact Calls.regrown_of (decimal_i d (by omega) (by omega) _)))))
      refine wpQuiet_nil ?_
      intro w1 hw1
      obtain ⟨pq, hpq⟩ := hw1
      have hb1 := below_of hpq
      clear hpq pq
      have hz4 := hb1.size
      (try simp at hz4)
      obtain ⟨hc1, hf1⟩ := bcell hb1
      have hw1 : Below w.heap.size w w1 := bl_call (by repeat (first | exact Below.refl _ _ | assumption | (refine bl_alloc ?_ (Nat.le_refl _) _) | (refine bl_set ?_ (by simp <;> omega) _))) hb1
      have hz1 : w.heap.size + 1 ≤ w1.heap.size := (by have hq := hb1.size; have hr := hw1.size; (try simp at hq); omega)
      have hza : w.heap.size < w1.heap.size := (by omega)
      go_wp2
      go_ret
      exact ⟨by rw [HT.out]; rfl, (by repeat (first | exact Below.refl _ _ | assumption | (refine bl_alloc ?_ (Nat.le_refl _) _) | (refine bl_set ?_ (by simp <;> omega) _)))⟩
set_option maxHeartbeats 1000000 in
theorem l02Text_any (n d : Int) (hk : okFr n d = true) (w : World) : Calls Tryd.prog 70 #[.agg #[.int .i64 n, .int .i64 d]] w fun e w' => e = .returned (.string (ftB n d)) ∧ Below w.heap.size w w' := by
  obtain ⟨p1, p2, p3, p4, _⟩ := okFr_t hk
  have h0 : -9223372036854775808 ≤ n := by omega
  have h1 : n ≤ 9223372036854775807 := by omega
  by_cases hd : d = 1
  · have HT := hide (show ftB n d = decB n by unfold ftB; rw [if_pos hd])
    have q1 : (d == 1) = true := by simp [hd]
    have Hd := hide hd
    clear hd
    go_enter Tryd.func70, Tryd.ntmps70
    go_wp2_with (go_at_call 83; (with_reducible refine (decimal_s0 n h0 h1 _).mono ?_); rintro e w1 ⟨rfl, hb1⟩; obtain ⟨hc1, hf1⟩ := bcell hb1; have hw1 : Below w.heap.size w w1 := bl_call (by repeat (first | exact Below.refl _ _ | assumption | (refine bl_alloc ?_ (Nat.le_refl _) _) | (refine bl_set ?_ (by simp <;> omega) _))) hb1; have hz1 : w.heap.size + 1 ≤ w1.heap.size := (by have hq := hb1.size; have hr := hw1.size; (try simp at hq); omega); have hza : w.heap.size < w1.heap.size := (by omega); have hz4 := hb1.size; (try simp at hz4); (try have hz5 := Nat.lt_of_succ_le hz4))
    go_ret
    exact ⟨by rw [HT.out]; rfl, (by repeat (first | exact Below.refl _ _ | assumption | (refine bl_alloc ?_ (Nat.le_refl _) _) | (refine bl_set ?_ (by simp <;> omega) _)))⟩
  · have HT := hide (show ftB n d = decB n ++ ⟨#[47]⟩ ++ decB d by unfold ftB; rw [if_neg hd])
    have q1 : (d == 1) = false := by simp [hd]
    have z1 := decB_size h0 h1
    have z2 := decB_size (n := d) (by omega) (by omega)
    have hc1 := fun W => run_string_add_sum (P := Tryd.prog) W (decB n) ⟨#[47]⟩ (by show _ + 1 ≤ _; omega)
    have hc2 := fun W => run_string_add_sum (P := Tryd.prog) W (decB n ++ ⟨#[47]⟩) (decB d) (by rw [size_app]; show _ + 1 + _ ≤ _; omega)
    clear hd
    go_enter Tryd.func70, Tryd.ntmps70
    go_wp2_with fail
    refine wp_region_quiet_below (by kernel_rfl) (by kernel_rfl) ?_
    repeat (first | go_big_quiet_step ((first | (go_at_call 83; with_reducible exact Calls.regrown_of (decimal_s0 n h0 h1 _)) | (go_at_call 83; with_reducible exact Calls.regrown_of (decimal_s0 d (by omega) (by omega) _)))) | quiet_step ((first | (go_at_call 83; with_reducible exact Calls.regrown_of (decimal_s0 n h0 h1 _)) | (go_at_call 83; with_reducible exact Calls.regrown_of (decimal_s0 d (by omega) (by omega) _)))))
    refine wpQuiet_nil ?_
    intro w1 hw1
    obtain ⟨pq, hpq⟩ := hw1
    have hb1 := below_of hpq
    clear hpq pq
    have hz4 := hb1.size
    (try simp at hz4)
    obtain ⟨hc1, hf1⟩ := bcell hb1
    have hw1 : Below w.heap.size w w1 := bl_call (by repeat (first | exact Below.refl _ _ | assumption | (refine bl_alloc ?_ (Nat.le_refl _) _) | (refine bl_set ?_ (by simp <;> omega) _))) hb1
    have hz1 : w.heap.size + 1 ≤ w1.heap.size := (by have hq := hb1.size; have hr := hw1.size; (try simp at hq); omega)
    have hza : w.heap.size < w1.heap.size := (by omega)
    go_wp2
    go_ret
    exact ⟨by rw [HT.out]; rfl, (by repeat (first | exact Below.refl _ _ | assumption | (refine bl_alloc ?_ (Nat.le_refl _) _) | (refine bl_set ?_ (by simp <;> omega) _)))⟩
set_option maxHeartbeats 1000000 in
theorem fracText_s (n d : Int) (h0 : -9223372036854775808 ≤ n) (h1 : n ≤ 9223372036854775807) (w : World) : Calls Tryd.prog 49 #[.agg #[.int .i64 n, .int .i64 d]] w fun e w' => e = .returned (.string (fracText n d)) ∧ Below w.heap.size w w' := by
  cases hk : okFr n d
  · have HT := hide (show fracText n d = ⟨#[]⟩ by unfold fracText; rw [hk]; rfl)
    go_enter Tryd.func49, Tryd.ntmps49
    go_wp2_with (go_at_call 46; (with_reducible refine (l02Ok_any n d h0 h1 _).mono ?_); rintro e w1 ⟨rfl, hb1⟩; obtain ⟨hc1, hf1⟩ := bcell hb1; have hw1 : Below w.heap.size w w1 := bl_call (by repeat (first | exact Below.refl _ _ | assumption | (refine bl_alloc ?_ (Nat.le_refl _) _) | (refine bl_set ?_ (by simp <;> omega) _))) hb1; have hz1 : w.heap.size + 1 ≤ w1.heap.size := (by have hq := hb1.size; have hr := hw1.size; (try simp at hq); omega); have hza : w.heap.size < w1.heap.size := (by omega); have hz4 := hb1.size; (try simp at hz4); (try have hz5 := Nat.lt_of_succ_le hz4))
    go_ret
    exact ⟨by rw [HT.out]; rfl, (by repeat (first | exact Below.refl _ _ | assumption | (refine bl_alloc ?_ (Nat.le_refl _) _) | (refine bl_set ?_ (by simp <;> omega) _)))⟩
  · have HT := hide (show fracText n d = ftB n d by unfold fracText; rw [hk]; rfl)
    go_enter Tryd.func49, Tryd.ntmps49
    go_wp2_with (first | (go_at_call 46; (with_reducible refine (l02Ok_any n d h0 h1 _).mono ?_); rintro e w1 ⟨rfl, hb1⟩; obtain ⟨hc1, hf1⟩ := bcell hb1; have hw1 : Below w.heap.size w w1 := bl_call (by repeat (first | exact Below.refl _ _ | assumption | (refine bl_alloc ?_ (Nat.le_refl _) _) | (refine bl_set ?_ (by simp <;> omega) _))) hb1; have hz1 : w.heap.size + 1 ≤ w1.heap.size := (by have hq := hb1.size; have hr := hw1.size; (try simp at hq); omega); have hza : w.heap.size < w1.heap.size := (by omega); have hz4 := hb1.size; (try simp at hz4); (try have hz5 := Nat.lt_of_succ_le hz4)) | (go_at_call 70; (with_reducible refine (l02Text_any n d hk _).mono ?_); rintro e w1 ⟨rfl, hb1⟩; obtain ⟨hc1, hf1⟩ := bcell hb1; have hw1 : Below w.heap.size w w1 := bl_call (by repeat (first | exact Below.refl _ _ | assumption | (refine bl_alloc ?_ (Nat.le_refl _) _) | (refine bl_set ?_ (by simp <;> omega) _))) hb1; have hz1 : w.heap.size + 1 ≤ w1.heap.size := (by have hq := hb1.size; have hr := hw1.size; (try simp at hq); omega); have hza : w.heap.size < w1.heap.size := (by omega); have hz4 := hb1.size; (try simp at hz4); (try have hz5 := Nat.lt_of_succ_le hz4)))
    go_ret
    exact ⟨by rw [HT.out]; rfl, (by repeat (first | exact Below.refl _ _ | assumption | (refine bl_alloc ?_ (Nat.le_refl _) _) | (refine bl_set ?_ (by simp <;> omega) _)))⟩
end Go.Proofs.YtickgkfgmbaalaaDoor
