/-
  CONTRACTS of the rounded quotients (impl.floorDiv, impl.DivRound, spec.l03Round, spec.DivRound): what each returns; the world stays. Conditions: the numbers are of 64 bits, the divisor of the helpers is positive.
-/
import Derived.Test.YthellegojnndlaaBase
import Derived.Test.YthellegojnndlaaMath
namespace Go.Proofs.Ythellegojnndlaa
open Go.RowKit
set_option linter.unusedVariables false

set_option maxHeartbeats 400000 in
theorem floorDiv_any (n d : Int) (hn0 : -9223372036854775808 ≤ n) (hn1 : n ≤ 9223372036854775807) (hd : 1 ≤ d) (hd1 : d ≤ 9223372036854775807) (w : World) : Calls Try.prog 92 #[.int .i64 n, .int .i64 d] w fun e w' => e = .returned (.int .i64 (n / d)) ∧ w = w' := by
  have hb := div_bd (n := n) (d := d) (by omega) hn0 hn1
  rcases Int.lt_or_le (n.tmod d) 0 with h | h
  · have hq := quo_lt (n := n) (d := d) (by omega) h
    have hw : wrap64 (n.tdiv d - 1) = n / d := by rw [hq]; exact IntWalk.wrap64_in _ ⟨by omega, by omega⟩
    have HW := hide hw
    clear hw hq hb
    go_enter Try.func92, Try.ntmps92
    go_wp2
    go_ret
    exact ⟨ret_int HW.out, rfl⟩
  · have HQ := hide (quo_ge (n := n) (d := d) (by omega) h)
    clear hb
    go_enter Try.func92, Try.ntmps92
    go_wp2
    go_ret
    exact ⟨ret_int HQ.out, rfl⟩
set_option maxHeartbeats 400000 in
theorem divRound_i (n d : Int) (hn0 : -9223372036854775808 ≤ n) (hn1 : n ≤ 9223372036854775807) (hd1 : d ≤ 9223372036854775807) (w : World) : Calls Try.prog 91 #[.int .i64 n, .int .i64 d] w fun e w' => e = .returned (.int .i64 (divRound n d)) ∧ w = w' := by
  by_cases hd : d ≤ 0
  · go_enter Try.func91, Try.ntmps91
    go_wp2
    go_ret
    exact ⟨ret_int (by simp [divRound, hd]), rfl⟩
  · have hd0 : 1 ≤ d := by omega
    have hm := rem_sub (n := n) (d := d) (by omega) hd1
    have h4 := Int.emod_nonneg n (b := d) (by omega)
    have h5 := Int.emod_lt_of_pos n (b := d) (by omega)
    have hb := div_bd (n := n) (d := d) (by omega) hn0 hn1
    have HR : Hid (divRound n d = rnd n d) := by unfold Hid; rw [divRound, if_neg hd]
    by_cases h : d - n % d ≤ n % d
    · have hh := half_bd (n := n) (d := d) (by omega) hn1
      have HN : Hid (rnd n d = n / d + 1) := by unfold Hid; rw [rnd, if_pos h]
      go_enter Try.func91, Try.ntmps91
      go_wp2_with (go_at_call 92; (with_reducible refine (floorDiv_any n d hn0 hn1 hd0 hd1 _).mono ?_); rintro e w1 ⟨rfl, rfl⟩)
      go_ret
      exact ⟨ret_int (by rw [HR.out, HN.out]), rfl⟩
    · have HN : Hid (rnd n d = n / d) := by unfold Hid; rw [rnd, if_neg h]
      go_enter Try.func91, Try.ntmps91
      go_wp2_with (go_at_call 92; (with_reducible refine (floorDiv_any n d hn0 hn1 hd0 hd1 _).mono ?_); rintro e w1 ⟨rfl, rfl⟩)
      go_ret
      exact ⟨ret_int (by rw [HR.out, HN.out]), rfl⟩
set_option maxHeartbeats 400000 in
theorem l03Round_any (n d : Int) (hn0 : -9223372036854775808 ≤ n) (hn1 : n ≤ 9223372036854775807) (hd : 1 ≤ d) (hd1 : d ≤ 9223372036854775807) (w : World) : Calls Try.prog 112 #[.int .i64 n, .int .i64 d] w fun e w' => e = .returned (.int .i64 (rnd n d)) ∧ w = w' := by
  have h4 := Int.emod_nonneg n (b := d) (by omega)
  have h5 := Int.emod_lt_of_pos n (b := d) (by omega)
  have hb := div_bd (n := n) (d := d) (by omega) hn0 hn1
  rcases Int.lt_or_le (n.tmod d) 0 with h | h
  · have hq := quo_lt (n := n) (d := d) (by omega) h
    have hr := rem_lt (n := n) (d := d) (by omega) h
    by_cases h6 : d - n % d ≤ n % d
    · have h7 : d - (n.tmod d + d) ≤ n.tmod d + d := by omega
      have hh := half_bd (n := n) (d := d) (by omega) hn1
      have HN : Hid (n.tdiv d - 1 + 1 = rnd n d) := by unfold Hid; rw [rnd, if_pos h6, hq]
      have b1 : -9223372036854775808 ≤ n.tdiv d - 1 := by omega
      have b2 : n.tdiv d ≤ 4611686018427387904 := by omega
      have b3 : n.tmod d + d < d := by omega
      have b4 : 0 ≤ n.tmod d + d := by omega
      clear hq hr hb h4 h5 h6 hh
      go_enter Try.func112, Try.ntmps112
      go_wp2
      go_ret
      exact ⟨ret_int (by rw [← HN.out]; try omega), rfl⟩
    · have h7 : ¬ d - (n.tmod d + d) ≤ n.tmod d + d := by omega
      have HN : Hid (n.tdiv d - 1 = rnd n d) := by unfold Hid; rw [rnd, if_neg h6, hq]
      have b1 : -9223372036854775808 ≤ n.tdiv d - 1 := by omega
      have b2 : n.tdiv d - 1 ≤ 9223372036854775807 := by omega
      have b3 : n.tmod d + d < d := by omega
      have b4 : 0 ≤ n.tmod d + d := by omega
      clear hq hr hb h4 h5 h6
      go_enter Try.func112, Try.ntmps112
      go_wp2
      go_ret
      exact ⟨ret_int (by rw [← HN.out]; try omega), rfl⟩
  · have hq := quo_ge (n := n) (d := d) (by omega) h
    have hr := rem_ge (n := n) (d := d) (by omega) h
    by_cases h6 : d - n % d ≤ n % d
    · have h7 : d - n.tmod d ≤ n.tmod d := by omega
      have hh := half_bd (n := n) (d := d) (by omega) hn1
      have HN : Hid (n.tdiv d + 1 = rnd n d) := by unfold Hid; rw [rnd, if_pos h6, hq]
      have b1 : -9223372036854775808 ≤ n.tdiv d := by omega
      have b2 : n.tdiv d ≤ 4611686018427387904 := by omega
      have b3 : n.tmod d < d := by omega
      clear hq hr hb h4 h5 h6 hh
      go_enter Try.func112, Try.ntmps112
      go_wp2
      go_ret
      exact ⟨ret_int (by rw [← HN.out]; try omega), rfl⟩
    · have h7 : ¬ d - n.tmod d ≤ n.tmod d := by omega
      have HN : Hid (n.tdiv d = rnd n d) := by unfold Hid; rw [rnd, if_neg h6, hq]
      have b3 : n.tmod d < d := by omega
      clear hq hr hb h4 h5 h6
      go_enter Try.func112, Try.ntmps112
      go_wp2
      go_ret
      exact ⟨ret_int (by rw [← HN.out]; try omega), rfl⟩
end Go.Proofs.Ythellegojnndlaa
