/-
  CONTRACTS of the rounded quotients (impl.floorDiv, impl.DivRound, spec.l03Round, spec.DivRound): what each returns; the world stays. Conditions: the numbers are of 64 bits, the divisor of the helpers is positive.
-/
import Derived.Test.YtooflknjnklglaaBase
import Derived.Test.YtooflknjnklglaaMath
namespace Go.Proofs.Ytooflknjnklglaa
open Go.RowKit
set_option linter.unusedVariables false

set_option maxHeartbeats 400000 in
theorem floorDiv_any (n d : Int) (hn0 : -9223372036854775808 ≤ n) (hn1 : n ≤ 9223372036854775807) (hd : 1 ≤ d) (hd1 : d ≤ 9223372036854775807) (w : World) : Calls Try.prog 65 #[.int .i64 n, .int .i64 d] w fun e w' => e = .returned (.int .i64 (n / d)) ∧ w = w' := by
  have hb := div_bd (n := n) (d := d) (by omega) hn0 hn1
  rcases Int.lt_or_le (n.tmod d) 0 with h | h
  · have hq := quo_lt (n := n) (d := d) (by omega) h
    have hw : wrap64 (n.tdiv d - 1) = n / d := by rw [hq]; exact IntWalk.wrap64_in _ ⟨by omega, by omega⟩
    have HW := hide hw
    clear hw hq hb
    go_enter Try.func65, Try.ntmps65
    go_wp2
    go_ret
    exact ⟨ret_int HW.out, rfl⟩
  · have HQ := hide (quo_ge (n := n) (d := d) (by omega) h)
    clear hb
    go_enter Try.func65, Try.ntmps65
    go_wp2
    go_ret
    exact ⟨ret_int HQ.out, rfl⟩
set_option maxHeartbeats 400000 in
theorem divRound_i (n d : Int) (hn0 : -9223372036854775808 ≤ n) (hn1 : n ≤ 9223372036854775807) (hd1 : d ≤ 9223372036854775807) (w : World) : Calls Try.prog 43 #[.int .i64 n, .int .i64 d] w fun e w' => e = .returned (.int .i64 (divRound n d)) ∧ w = w' := by
  by_cases hd : d ≤ 0
  · go_enter Try.func43, Try.ntmps43
    go_wp2
    go_ret
    exact ⟨ret_int (by simp [divRound, hd]), rfl⟩
  · have hd0 : 1 ≤ d := by omega
    have hm := rem_sub (n := n) (d := d) (by omega) hd1
    have h4 := Int.emod_nonneg n (b := d) (by omega)
    have h5 := Int.emod_lt_of_pos n (b := d) (by omega)
    have hb := div_bd (n := n) (d := d) (by omega) hn0 hn1
    have HR : Hid (divRound n d = rnd n d) := by unfold Hid; rw [divRound, if_neg hd]
    by_cases h : d - n % d ≤ n % d
    · have hh := half_bd (n := n) (d := d) (by omega) hn1
      have HN : Hid (rnd n d = n / d + 1) := by unfold Hid; rw [rnd, if_pos h]
      go_enter Try.func43, Try.ntmps43
      go_wp2_with (go_at_call 65; (with_reducible refine (floorDiv_any n d hn0 hn1 hd0 hd1 _).mono ?_); rintro e w1 ⟨rfl, rfl⟩)
      go_ret
      exact ⟨ret_int (by rw [HR.out, HN.out]), rfl⟩
    · have HN : Hid (rnd n d = n / d) := by unfold Hid; rw [rnd, if_neg h]
      go_enter Try.func43, Try.ntmps43
      go_wp2_with (go_at_call 65; (with_reducible refine (floorDiv_any n d hn0 hn1 hd0 hd1 _).mono ?_); rintro e w1 ⟨rfl, rfl⟩)
      go_ret
      exact ⟨ret_int (by rw [HR.out, HN.out]), rfl⟩
set_option maxHeartbeats 400000 in
theorem l03Round_any (n d : Int) (hn0 : -9223372036854775808 ≤ n) (hn1 : n ≤ 9223372036854775807) (hd : 1 ≤ d) (hd1 : d ≤ 9223372036854775807) (w : World) : Calls Try.prog 70 #[.int .i64 n, .int .i64 d] w fun e w' => e = .returned (.int .i64 (rnd n d)) ∧ w = w' := by
  have h4 := Int.emod_nonneg n (b := d) (by omega)
  have h5 := Int.emod_lt_of_pos n (b := d) (by omega)
  have hb := div_bd (n := n) (d := d) (by omega) hn0 hn1
  rcases Int.lt_or_le (n.tmod d) 0 with h | h
  · have hq := quo_lt (n := n) (d := d) (by omega) h
    have hr := rem_lt (n := n) (d := d) (by omega) h
    by_cases h6 : d - n % d ≤ n % d
    · have h7 : d - (n.tmod d + d) ≤ n.tmod d + d := by omega
      have hh := half_bd (n := n) (d := d) (by omega) hn1
      have HN : Hid (n.tdiv d - 1 + 1 = rnd n d) := by unfold Hid; rw [rnd, if_pos h6, hq]
      have b1 : -9223372036854775808 ≤ n.tdiv d - 1 := by omega
      have b2 : n.tdiv d ≤ 4611686018427387904 := by omega
      have b3 : n.tmod d + d < d := by omega
      have b4 : 0 ≤ n.tmod d + d := by omega
      clear hq hr hb h4 h5 h6 hh
      go_enter Try.func70, Try.ntmps70
      go_wp2
      go_ret
      exact ⟨ret_int (by rw [← HN.out]; try omega), rfl⟩
    · have h7 : ¬ d - (n.tmod d + d) ≤ n.tmod d + d := by omega
      have HN : Hid (n.tdiv d - 1 = rnd n d) := by unfold Hid; rw [rnd, if_neg h6, hq]
      have b1 : -9223372036854775808 ≤ n.tdiv d - 1 := by omega
      have b2 : n.tdiv d - 1 ≤ 9223372036854775807 := by omega
      have b3 : n.tmod d + d < d := by omega
      have b4 : 0 ≤ n.tmod d + d := by omega
      clear hq hr hb h4 h5 h6
      go_enter Try.func70, Try.ntmps70
      go_wp2
      go_ret
      exact ⟨ret_int (by rw [← HN.out]; try omega), rfl⟩
  · have hq := quo_ge (n := n) (d := d) (by omega) h
    have hr := rem_ge (n := n) (d := d) (by omega) h
    by_cases h6 : d - n % d ≤ n % d
    · have h7 : d - n.tmod d ≤ n.tmod d := by omega
      have hh := half_bd (n := n) (d := d) (by omega) hn1
      have HN : Hid (n.tdiv d + 1 = rnd n d) := by unfold Hid; rw [rnd, if_pos h6, hq]
      have b1 : -9223372036854775808 ≤ n.tdiv d := by omega
      have b2 : n.tdiv d ≤ 4611686018427387904 := by omega
      have b3 : n.tmod d < d := by omega
      clear hq hr hb h4 h5 h6 hh
      go_enter Try.func70, Try.ntmps70
      go_wp2
      go_ret
      exact ⟨ret_int (by rw [← HN.out]; try omega), rfl⟩
    · have h7 : ¬ d - n.tmod d ≤ n.tmod d := by omega
      have HN : Hid (n.tdiv d = rnd n d) := by unfold Hid; rw [rnd, if_neg h6, hq]
      have b3 : n.tmod d < d := by omega
      clear hq hr hb h4 h5 h6
      go_enter Try.func70, Try.ntmps70
      go_wp2
      go_ret
      exact ⟨ret_int (by rw [← HN.out]; try omega), rfl⟩
set_option maxHeartbeats 400000 in
theorem divRound_s (n d : Int) (hn0 : -9223372036854775808 ≤ n) (hn1 : n ≤ 9223372036854775807) (hd1 : d ≤ 9223372036854775807) (w : World) : Calls Try.prog 42 #[.int .i64 n, .int .i64 d] w fun e w' => e = .returned (.int .i64 (divRound n d)) ∧ w = w' := by
  by_cases hd : d ≤ 0
  · go_enter Try.func42, Try.ntmps42
    go_wp2
    go_ret
    exact ⟨ret_int (by simp [divRound, hd]), rfl⟩
  · have hd0 : 1 ≤ d := by omega
    have HR : Hid (rnd n d = divRound n d) := by unfold Hid; rw [divRound, if_neg hd]
    go_enter Try.func42, Try.ntmps42
    go_wp2_with (go_at_call 70; (with_reducible refine (l03Round_any n d hn0 hn1 hd0 hd1 _).mono ?_); rintro e w1 ⟨rfl, rfl⟩)
    go_ret
    exact ⟨ret_int HR.out, rfl⟩
set_option maxHeartbeats 400000 in
theorem fnDivRound (n d : Int) (wx : (Lit.int .i64 n).wf = true) (wy : (Lit.int .i64 d).wf = true) (w : World) : Calls Try.prog 11 #[.int .i64 n, .int .i64 d] w fun e w' => e = .returned (.bool true) ∧ Below w.heap.size w w' := by
  obtain ⟨hn0, hn1⟩ := wf64 wx
  obtain ⟨hd0, hd1⟩ := wf64 wy
  go_enter Try.func11, Try.ntmps11
  go_wp2_with (first | (go_at_call 42; (with_reducible refine (divRound_s n d hn0 hn1 hd1 _).mono ?_); rintro e w1 ⟨rfl, rfl⟩) | (go_at_call 43; (with_reducible refine (divRound_i n d hn0 hn1 hd1 _).mono ?_); rintro e w1 ⟨rfl, rfl⟩))
  go_ret
  exact ⟨rfl, (by repeat (first | exact Below.refl _ _ | assumption | (refine bl_alloc ?_ (Nat.le_refl _) _) | (refine bl_set ?_ (by simp <;> omega) _)))⟩
end Go.Proofs.Ytooflknjnklglaa
