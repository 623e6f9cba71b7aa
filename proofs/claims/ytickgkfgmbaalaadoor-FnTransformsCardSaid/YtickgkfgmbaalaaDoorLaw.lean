/-
  PLAIN LAW OF FRACTIONS AS RATIONAL NUMBERS: the fraction in lowest terms that two numbers make has their quotient as its value, and is the only valid one with that value. No program in sight. Conditions: those of each lemma.
-/
import Derived.Test.YtickgkfgmbaalaaDoorGcd
namespace Go.Proofs.YtickgkfgmbaalaaDoor
open Go.RowKit
set_option linter.unusedVariables false

/-- the value of a fraction -/
def qv (n d : Int) : Rat := (n : Rat) / (d : Rat)
theorem cast_ne {d : Int} (h : d ≠ 0) : (d : Rat) ≠ 0 := by
  intro h2
  exact h (by exact_mod_cast h2)
theorem qv_eq {a b c d : Int} (hb : b ≠ 0) (hd : d ≠ 0) : qv a b = qv c d ↔ a * d = c * b := by
  have h1 := cast_ne hb
  have h2 := cast_ne hd
  unfold qv
  constructor
  · intro h
    have h3 : (a : Rat) * d = c * b := by grind
    exact_mod_cast h3
  · intro h
    have h3 : (a : Rat) * d = c * b := by exact_mod_cast h
    grind
theorem qv_add {a b c d : Int} (hb : b ≠ 0) (hd : d ≠ 0) : qv (a * d + c * b) (b * d) = qv a b + qv c d := by
  have h1 := cast_ne hb
  have h2 := cast_ne hd
  unfold qv
  have e1 : ((a * d + c * b : Int) : Rat) = a * d + c * b := by push_cast; rfl
  have e2 : ((b * d : Int) : Rat) = b * d := by push_cast; rfl
  rw [e1, e2]
  grind
theorem qv_sub {a b c d : Int} (hb : b ≠ 0) (hd : d ≠ 0) : qv (a * d - c * b) (b * d) = qv a b - qv c d := by
  have h1 := cast_ne hb
  have h2 := cast_ne hd
  unfold qv
  have e1 : ((a * d - c * b : Int) : Rat) = a * d - c * b := by push_cast; rfl
  have e2 : ((b * d : Int) : Rat) = b * d := by push_cast; rfl
  rw [e1, e2]
  grind
theorem qv_mul {a b c d : Int} (hb : b ≠ 0) (hd : d ≠ 0) : qv (a * c) (b * d) = qv a b * qv c d := by
  have h1 := cast_ne hb
  have h2 := cast_ne hd
  unfold qv
  have e1 : ((a * c : Int) : Rat) = a * c := by push_cast; rfl
  have e2 : ((b * d : Int) : Rat) = b * d := by push_cast; rfl
  rw [e1, e2]
  grind
theorem qv_div {a b c d : Int} (hb : b ≠ 0) (hd : d ≠ 0) (hc : c ≠ 0) : qv (a * d) (b * c) = qv a b / qv c d := by
  have h1 := cast_ne hb
  have h2 := cast_ne hd
  have h3 := cast_ne hc
  unfold qv
  have e1 : ((a * d : Int) : Rat) = a * d := by push_cast; rfl
  have e2 : ((b * c : Int) : Rat) = b * c := by push_cast; rfl
  rw [e1, e2]
  grind
theorem qv_neg {a b : Int} : qv (-a) b = -qv a b := by
  unfold qv
  have e1 : ((-a : Int) : Rat) = -a := by push_cast; rfl
  rw [e1]
  grind
theorem qv_zero {a b : Int} (hb : b ≠ 0) : qv a b = 0 ↔ a = 0 := by
  have h1 := cast_ne hb
  unfold qv
  constructor
  · intro h
    have h3 : (a : Rat) = 0 := by grind
    exact_mod_cast h3
  · intro h
    subst h
    have e1 : ((0 : Int) : Rat) = 0 := by push_cast; rfl
    rw [e1]
    grind
theorem qv_int (a : Int) : qv a 1 = (a : Rat) := by
  unfold qv
  have e1 : ((1 : Int) : Rat) = 1 := by push_cast; rfl
  rw [e1]
  grind

theorem mk_parts {N D : Int} : mkA N D * mkG N D = N.natAbs ∧ mkB N D * mkG N D = D.natAbs :=
  ⟨Nat.div_mul_cancel (Nat.gcd_dvd_left _ _), Nat.div_mul_cancel (Nat.gcd_dvd_right _ _)⟩
theorem mk_fits {N D : Int} (h : mkC N D = 0) : D ≠ 0 ∧ mkFits N D = true := by
  unfold mkC at h
  by_cases h0 : D = 0
  · rw [if_pos h0] at h; omega
  · rw [if_neg h0] at h
    cases hf : mkFits N D
    · rw [hf] at h; simp at h
    · exact ⟨h0, rfl⟩
theorem mk_cross {N D : Int} (h : mkC N D = 0) : mkN N D * D = N * mkD N D := by
  obtain ⟨h0, hf⟩ := mk_fits h
  obtain ⟨p1, p2⟩ := mk_parts (N := N) (D := D)
  unfold mkN mkD
  rw [if_neg h0, if_neg h0, hf]
  simp only [if_true]
  have q1 : (N.natAbs : Int) = (mkA N D : Int) * (mkG N D : Int) := by rw [← p1]; simp
  have q2 : (D.natAbs : Int) = (mkB N D : Int) * (mkG N D : Int) := by rw [← p2]; simp
  generalize (mkA N D : Int) = A at *
  generalize (mkB N D : Int) = B at *
  generalize (mkG N D : Int) = G at *
  by_cases s1 : N < 0 <;> by_cases s2 : D < 0
  · have e1 : N = -(A * G) := by omega
    have e2 : D = -(B * G) := by omega
    simp only [s1, s2, decide_true, if_true]
    rw [e1, e2]; grind
  · have e1 : N = -(A * G) := by omega
    have e2 : D = B * G := by omega
    simp only [s1, s2, decide_true, decide_false]
    rw [e1, e2]; grind
  · have e1 : N = A * G := by omega
    have e2 : D = -(B * G) := by omega
    simp only [s1, s2, decide_true, decide_false]
    rw [e1, e2]; grind
  · have e1 : N = A * G := by omega
    have e2 : D = B * G := by omega
    simp only [s1, s2, decide_false, if_true]
    rw [e1, e2]; grind
theorem okFr_d {n d : Int} (h : okFr n d = true) : d ≠ 0 := by
  have := (okFr_t h).1
  omega
theorem mk_qv {N D : Int} (h : mkC N D = 0) : qv (mkN N D) (mkD N D) = qv N D :=
  (qv_eq (okFr_d (mk_ok h)) (mk_fits h).1).mpr (mk_cross h)
theorem low_eq {a b c d : Nat} (h1 : Nat.gcd a b = 1) (h2 : Nat.gcd c d = 1) (hb : 0 < b) (hd : 0 < d) (h : a * d = c * b) : a = c ∧ b = d := by
  have k1 : b ∣ d := by
    have : b ∣ a * d := ⟨c, by rw [h, Nat.mul_comm]⟩
    exact Nat.Coprime.dvd_of_dvd_mul_left (Nat.Coprime.symm h1) this
  have k2 : d ∣ b := by
    have : d ∣ c * b := ⟨a, by rw [← h, Nat.mul_comm]⟩
    exact Nat.Coprime.dvd_of_dvd_mul_left (Nat.Coprime.symm h2) this
  have k3 : b = d := Nat.dvd_antisymm k1 k2
  subst k3
  exact ⟨Nat.eq_of_mul_eq_mul_right hb h, rfl⟩
/-- whatever two numbers have the value of a valid fraction, make that fraction -/
theorem mk_of {n d N D : Int} (hk : okFr n d = true) (hD : D ≠ 0) (h : qv N D = qv n d) : mkC N D = 0 ∧ mkN N D = n ∧ mkD N D = d := by
  obtain ⟨d0, d1, n0, n1, hg⟩ := okFr_t hk
  have hx : N * d = n * D := (qv_eq hD (okFr_d hk)).mp h
  obtain ⟨p1, p2⟩ := mk_parts (N := N) (D := D)
  have hG := mkG_pos (num := N) hD
  have hco : Nat.gcd (mkA N D) (mkB N D) = 1 := by
    unfold mkA mkB; exact Nat.coprime_div_gcd_div_gcd hG
  have hB : 0 < mkB N D := by
    unfold mkB
    exact Nat.div_pos (Nat.le_of_dvd (by omega) (Nat.gcd_dvd_right _ _)) hG
  have hx2 : N.natAbs * d.natAbs = n.natAbs * D.natAbs := by rw [← Int.natAbs_mul, hx, Int.natAbs_mul]
  have hx3 : mkA N D * d.natAbs = n.natAbs * mkB N D := by
    rw [← p1, ← p2] at hx2
    have : (mkA N D * d.natAbs) * mkG N D = (n.natAbs * mkB N D) * mkG N D := by grind
    exact Nat.eq_of_mul_eq_mul_right hG this
  obtain ⟨e1, e2⟩ := low_eq hco hg hB (by omega) hx3
  have hf : mkFits N D = true := decide_eq_true ⟨by omega, by omega⟩
  have hc : mkC N D = 0 := by unfold mkC; rw [if_neg hD, hf]; rfl
  have hd : mkD N D = d := by unfold mkD; rw [if_neg hD, hf]; simp only [if_true]; omega
  refine ⟨hc, ?_, hd⟩
  have hy := mk_cross hc
  rw [hd] at hy
  have : mkN N D * D = n * D := by rw [hy, hx]
  exact Int.eq_of_mul_eq_mul_right hD this
theorem qv_inj {a b c d : Int} (h1 : okFr a b = true) (h2 : okFr c d = true) (h : qv a b = qv c d) : a = c ∧ b = d := by
  obtain ⟨x1, x2, x3⟩ := mk_of h2 (okFr_d h1) h
  obtain ⟨y1, y2, y3⟩ := mk_of h1 (okFr_d h1) rfl
  exact ⟨y2.symm.trans x2, y3.symm.trans x3⟩
/-- a code behind a denominator that is not 0 -/
theorem mkC_02 {N D : Int} (hD : D ≠ 0) : mkC N D = 0 ∨ mkC N D = 2 := by
  unfold mkC; rw [if_neg hD]; split <;> simp
theorem okFr_neg {n d : Int} (h : okFr n d = true) : okFr (-n) d = true := by
  obtain ⟨d0, d1, n0, n1, hg⟩ := okFr_t h
  exact okFr_mk ⟨d0, d1, by omega, by omega, by rw [Int.natAbs_neg]; exact hg⟩
theorem okFr_int {n : Int} (h0 : -1000000000 ≤ n) (h1 : n ≤ 1000000000) : okFr n 1 = true :=
  okFr_mk ⟨by omega, by omega, h0, h1, by simp⟩
end Go.Proofs.YtickgkfgmbaalaaDoor
