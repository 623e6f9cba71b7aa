/-
  CONTRACTS of the rounded quotients (impl.floorDiv, impl.DivRound, spec.l03Round, spec.DivRound): what each returns; the world stays. Conditions: the numbers are of 64 bits, the divisor of the helpers is positive.
-/
import Derived.Test.YtickgkfgmbaalaaDoorBase
import Derived.Test.YtickgkfgmbaalaaDoorMath
namespace Go.Proofs.YtickgkfgmbaalaaDoor
open Go.RowKit
set_option linter.unusedVariables false

set_option maxHeartbeats 400000 in
theorem floorDiv_any (n d : Int) (hn0 : -9223372036854775808 ≤ n) (hn1 : n ≤ 9223372036854775807) (hd : 1 ≤ d) (hd1 : d ≤ 9223372036854775807) (w : World) : Calls Tryd.prog 82 #[.int .i64 n, .int .i64 d] w fun e w' => e = .returned (.int .i64 (n / d)) ∧ w = w' := by
  have hb := div_bd (n := n) (d := d) (by omega) hn0 hn1
  rcases Int.lt_or_le (n.tmod d) 0 with h | h
  · have hq := quo_lt (n := n) (d := d) (by omega) h
    have hw : wrap64 (n.tdiv d - 1) = n / d := by rw [hq]; exact IntWalk.wrap64_in _ ⟨by omega, by omega⟩
    have HW := hide hw
    clear hw hq hb
    go_enter Tryd.func82, Tryd.ntmps82
    go_wp2
    go_ret
    exact ⟨ret_int HW.out, rfl⟩
  · have HQ := hide (quo_ge (n := n) (d := d) (by omega) h)
    clear hb
    go_enter Tryd.func82, Tryd.ntmps82
    go_wp2
    go_ret
    exact ⟨ret_int HQ.out, rfl⟩
set_option maxHeartbeats 400000 in
theorem divRound_i (n d : Int) (hn0 : -9223372036854775808 ≤ n) (hn1 : n ≤ 9223372036854775807) (hd1 : d ≤ 9223372036854775807) (w : World) : Calls Tryd.prog 66 #[.int .i64 n, .int .i64 d] w fun e w' => e = .returned (.int .i64 (divRound n d)) ∧ w = w' := by
  by_cases hd : d ≤ 0
  · go_enter Tryd.func66, Tryd.ntmps66
    go_wp2
    go_ret
    exact ⟨ret_int (by simp [divRound, hd]), rfl⟩
  · have hd0 : 1 ≤ d := by omega
    have hm := rem_sub (n := n) (d := d) (by omega) hd1
    have h4 := Int.emod_nonneg n (b := d) (by omega)
    have h5 := Int.emod_lt_of_pos n (b := d) (by omega)
    have hb := div_bd (n := n) (d := d) (by omega) hn0 hn1
    have HR : Hid (divRound n d = rnd n d) := by unfold Hid; rw [divRound, if_neg hd]
    by_cases h : d - n % d ≤ n % d
    · have hh := half_bd (n := n) (d := d) (by omega) hn1
      have HN : Hid (rnd n d = n / d + 1) := by unfold Hid; rw [rnd, if_pos h]
      go_enter Tryd.func66, Tryd.ntmps66
      go_wp2_with (go_at_call 82; (with_reducible refine (floorDiv_any n d hn0 hn1 hd0 hd1 _).mono ?_); rintro e w1 ⟨rfl, rfl⟩)
      go_ret
      exact ⟨ret_int (by rw [HR.out, HN.out]), rfl⟩
    · have HN : Hid (rnd n d = n / d) := by unfold Hid; rw [rnd, if_neg h]
      go_enter Tryd.func66, Tryd.ntmps66
      go_wp2_with (go_at_call 82; (with_reducible refine (floorDiv_any n d hn0 hn1 hd0 hd1 _).mono ?_); rintro e w1 ⟨rfl, rfl⟩)
      go_ret
      exact ⟨ret_int (by rw [HR.out, HN.out]), rfl⟩
end Go.Proofs.YtickgkfgmbaalaaDoor
