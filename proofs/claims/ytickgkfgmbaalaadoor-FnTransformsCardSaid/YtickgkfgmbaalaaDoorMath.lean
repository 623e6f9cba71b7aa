/-
  PLAIN ARITHMETIC: products in bounds, Go's quotient and remainder against the rounded-down quotient. No program in sight. Conditions: those of each lemma.
-/
import Derived.WalkKit
namespace Go.Proofs.YtickgkfgmbaalaaDoor
open Go.RowKit
set_option linter.unusedVariables false

theorem natAbs_le {x : Int} {A : Nat} (h0 : -(A : Int) ≤ x) (h1 : x ≤ A) : x.natAbs ≤ A := by omega
/-- a product of two bounded numbers is bounded -/
theorem mul_bd (x y : Int) (A B : Nat) (hx0 : -(A : Int) ≤ x) (hx1 : x ≤ A) (hy0 : -(B : Int) ≤ y) (hy1 : y ≤ B) : -((A * B : Nat) : Int) ≤ x * y ∧ x * y ≤ ((A * B : Nat) : Int) := by
  have h := Nat.mul_le_mul (natAbs_le hx0 hx1) (natAbs_le hy0 hy1)
  rw [← Int.natAbs_mul] at h
  omega
theorem sq_nn (x : Int) : 0 ≤ x * x := by
  rcases Int.le_total 0 x with h | h
  · exact Int.mul_nonneg h h
  · exact Int.mul_nonneg_of_nonpos_of_nonpos h h

/-- the quotient rounded down, out of Go's -/
theorem quo_lt {n d : Int} (hd : 0 < d) (h : n.tmod d < 0) : n.tdiv d - 1 = n / d := by
  have hn : ¬ 0 ≤ n := fun h0 => by have := Int.tmod_nonneg d h0; omega
  have hdv : ¬ d ∣ n := fun hv => by rw [Int.tmod_eq_zero_of_dvd hv] at h; omega
  rw [Int.tdiv_eq_ediv, if_neg (by simp [hn, hdv]), Int.sign_eq_one_of_pos hd]
  omega
theorem quo_ge {n d : Int} (hd : 0 < d) (h : 0 ≤ n.tmod d) : n.tdiv d = n / d := by
  rw [Int.tdiv_eq_ediv]
  by_cases hn : 0 ≤ n ∨ d ∣ n
  · rw [if_pos hn]; omega
  · exfalso
    have hn' : n < 0 := by simp at hn; omega
    have hdv : ¬ d ∣ n := fun hv => hn (.inr hv)
    have h2 : n.tmod d ≤ 0 := by
      have := Int.tmod_nonneg (a := -n) d (by omega)
      rw [Int.neg_tmod] at this; omega
    have h3 : n.tmod d = 0 := by omega
    exact hdv (Int.dvd_of_tmod_eq_zero h3)
theorem rem_lt {n d : Int} (hd : 0 < d) (h : n.tmod d < 0) : n.tmod d + d = n % d := by
  have h1 := quo_lt hd h
  have h2 := Int.mul_tdiv_add_tmod n d
  have h3 := Int.mul_ediv_add_emod n d
  have h4 : d * (n.tdiv d) = d * (n / d) + d := by rw [← h1, Int.mul_sub]; omega
  omega
theorem rem_ge {n d : Int} (hd : 0 < d) (h : 0 ≤ n.tmod d) : n.tmod d = n % d := by
  have h1 := quo_ge hd h
  have h2 := Int.mul_tdiv_add_tmod n d
  have h3 := Int.mul_ediv_add_emod n d
  rw [h1] at h2; omega
theorem div_bd {n d : Int} (hd : 0 < d) (hn0 : -9223372036854775808 ≤ n) (hn1 : n ≤ 9223372036854775807) : -9223372036854775808 ≤ n / d ∧ n / d ≤ 9223372036854775807 := by
  constructor
  · exact (Int.le_ediv_iff_mul_le hd).2 (by
      have := Int.mul_le_mul_of_nonpos_left (a := -9223372036854775808) (b := d) (c := 1) (by omega) (by omega)
      omega)
  · rcases Int.le_total 0 n with h | h
    · exact Int.le_trans (Int.ediv_le_self d h) hn1
    · have h2 : n / d ≤ 0 := by
        rcases Int.lt_or_le 0 (n / d) with h3 | h3
        · have := (Int.le_ediv_iff_mul_le hd (a := 1) (b := n)).1 h3
          omega
        · exact h3
      omega
/-- rounded to the nearest, halves up -/
def rnd (n d : Int) : Int := if d - n % d ≤ n % d then n / d + 1 else n / d
/-- Go's DivRound -/
def divRound (n d : Int) : Int := if d ≤ 0 then 0 else rnd n d
theorem rem_sub {n d : Int} (hd : 0 < d) (hd1 : d ≤ 9223372036854775807) : wrap64 (n - wrap64 (n / d * d)) = n % d := by
  have h3 := Int.mul_ediv_add_emod n d
  have h4 := Int.emod_nonneg n (b := d) (by omega)
  have h5 := Int.emod_lt_of_pos n hd
  rw [Int.mul_comm] at h3
  generalize n / d * d = q at *
  generalize n % d = r at *
  unfold wrap64
  omega
theorem half_bd {n d : Int} (hd : 2 ≤ d) (hn1 : n ≤ 9223372036854775807) : n / d ≤ 4611686018427387903 := by
  rcases Int.lt_or_le 4611686018427387903 (n / d) with h | h
  · have := (Int.le_ediv_iff_mul_le (c := d) (by omega) (a := 4611686018427387904) (b := n)).1 h
    omega
  · exact h
end Go.Proofs.YtickgkfgmbaalaaDoor
