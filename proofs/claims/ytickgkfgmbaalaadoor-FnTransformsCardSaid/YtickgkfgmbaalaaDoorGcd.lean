/-
  PLAIN LAW OF FRACTIONS AS PAIRS: when a fraction is valid, and the fraction in lowest terms that two numbers make. No program in sight. Conditions: those of each lemma.
-/
import Derived.Test.YtickgkfgmbaalaaDoorMath
namespace Go.Proofs.YtickgkfgmbaalaaDoor
open Go.RowKit
set_option linter.unusedVariables false

/-- a valid fraction -/
def okFr (n d : Int) : Bool := decide (1 ≤ d ∧ d ≤ 1000000 ∧ -1000000000 ≤ n ∧ n ≤ 1000000000 ∧ Nat.gcd n.natAbs d.natAbs = 1)
theorem okFr_t {n d : Int} (h : okFr n d = true) : 1 ≤ d ∧ d ≤ 1000000 ∧ -1000000000 ≤ n ∧ n ≤ 1000000000 ∧ Nat.gcd n.natAbs d.natAbs = 1 := of_decide_eq_true h
theorem okFr_mk {n d : Int} (h : 1 ≤ d ∧ d ≤ 1000000 ∧ -1000000000 ≤ n ∧ n ≤ 1000000000 ∧ Nat.gcd n.natAbs d.natAbs = 1) : okFr n d = true := decide_eq_true h

/-- the greatest common divisor of two numbers -/
def mkG (num den : Int) : Nat := Nat.gcd num.natAbs den.natAbs
def mkA (num den : Int) : Nat := num.natAbs / mkG num den
def mkB (num den : Int) : Nat := den.natAbs / mkG num den
/-- does the fraction in lowest terms fit? -/
def mkFits (num den : Int) : Bool := decide (mkA num den ≤ 1000000000 ∧ mkB num den ≤ 1000000)
/-- numerator, denominator and code of the fraction that two numbers make -/
def mkN (num den : Int) : Int := if den = 0 then 0 else if mkFits num den then (if decide (num < 0) = decide (den < 0) then (mkA num den : Int) else -(mkA num den : Int)) else 0
def mkD (num den : Int) : Int := if den = 0 then 0 else if mkFits num den then (mkB num den : Int) else 0
def mkC (num den : Int) : Int := if den = 0 then 1 else if mkFits num den then 0 else 2

theorem mkG_pos {num den : Int} (h : den ≠ 0) : 0 < mkG num den := Nat.gcd_pos_of_pos_right _ (by omega)
theorem mk_ok {num den : Int} (h : mkC num den = 0) : okFr (mkN num den) (mkD num den) = true := by
  unfold mkC at h
  by_cases h0 : den = 0
  · rw [if_pos h0] at h; omega
  · rw [if_neg h0] at h
    cases hf : mkFits num den
    · rw [hf] at h; simp at h
    · have hf' := of_decide_eq_true hf
      have hg := mkG_pos (num := num) h0
      have hco : Nat.gcd (mkA num den) (mkB num den) = 1 := by
        unfold mkA mkB; exact Nat.coprime_div_gcd_div_gcd hg
      have hb : 1 ≤ mkB num den := by
        unfold mkB
        exact Nat.div_pos (Nat.le_of_dvd (by omega) (Nat.gcd_dvd_right _ _)) hg
      apply okFr_mk
      unfold mkN mkD
      rw [if_neg h0, if_neg h0, hf]
      simp only [if_true]
      split
      · exact ⟨by omega, by omega, by omega, by omega, by simpa using hco⟩
      · exact ⟨by omega, by omega, by omega, by omega, by simpa using hco⟩
theorem mkC_cases (num den : Int) : mkC num den = 0 ∨ mkC num den = 1 ∨ mkC num den = 2 := by
  unfold mkC; split
  · omega
  · split <;> omega
theorem mk_bad {num den : Int} (h : mkC num den ≠ 0) : mkN num den = 0 ∧ mkD num den = 0 := by
  unfold mkC at h; unfold mkN mkD
  by_cases h0 : den = 0
  · simp [h0]
  · rw [if_neg h0] at h
    cases hf : mkFits num den
    · simp
    · rw [hf] at h; simp at h
end Go.Proofs.YtickgkfgmbaalaaDoor
