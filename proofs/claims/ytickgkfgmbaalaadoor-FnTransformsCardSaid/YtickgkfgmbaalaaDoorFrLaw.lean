/-
  PLAIN LAW OF FRACTIONS (what FnFractions asks): sums and products are undone; comparing tells the sign of the difference; rounding is nearest; mixing leads from one fraction to the other. No program in sight. Conditions: the fractions are valid.
-/
import Derived.Test.YtickgkfgmbaalaaDoorLaw
import Derived.Test.YtickgkfgmbaalaaDoorMix
import Derived.Test.YtickgkfgmbaalaaDoorCmp
namespace Go.Proofs.YtickgkfgmbaalaaDoor
open Go.RowKit
set_option linter.unusedVariables false

theorem r_of {ok : Bool} {n d N D : Int} (hk : ok = true) (ho : okFr n d = true) (hD : D ≠ 0) (h : qv N D = qv n d) : rC ok N D = 0 ∧ rN ok N D = n ∧ rD ok N D = d := by
  subst hk; exact mk_of ho hD h
theorem r_ok {ok : Bool} {N D : Int} (h : rC ok N D = 0) : ok = true := by
  cases ok
  · unfold rC at h; simp at h
  · rfl
theorem r_qv {ok : Bool} {N D : Int} (h : rC ok N D = 0) : qv (rN ok N D) (rD ok N D) = qv N D := by
  have := r_ok h
  subst this
  exact mk_qv h
theorem ok2 {a b c d : Int} (h1 : okFr a b = true) (h2 : okFr c d = true) : (okFr a b && okFr c d) = true := by rw [h1, h2]; rfl
theorem ne2 {b d : Int} (h1 : b ≠ 0) (h2 : d ≠ 0) : b * d ≠ 0 := Int.mul_ne_zero h1 h2

theorem addV {a b c d : Int} (h1 : okFr a b = true) (h2 : okFr c d = true) (h : addC a b c d = 0) : okFr (addN a b c d) (addD a b c d) = true ∧ qv (addN a b c d) (addD a b c d) = qv a b + qv c d :=
  ⟨rC_ok h, (r_qv h).trans (qv_add (okFr_d h1) (okFr_d h2))⟩
theorem subV {a b c d : Int} (h1 : okFr a b = true) (h2 : okFr c d = true) (h : subC a b c d = 0) : okFr (subN a b c d) (subD a b c d) = true ∧ qv (subN a b c d) (subD a b c d) = qv a b - qv c d :=
  ⟨rC_ok h, (r_qv h).trans (qv_sub (okFr_d h1) (okFr_d h2))⟩
theorem mulV {a b c d : Int} (h1 : okFr a b = true) (h2 : okFr c d = true) (h : mulC a b c d = 0) : okFr (mulN a b c d) (mulD a b c d) = true ∧ qv (mulN a b c d) (mulD a b c d) = qv a b * qv c d :=
  ⟨rC_ok h, (r_qv h).trans (qv_mul (okFr_d h1) (okFr_d h2))⟩
theorem add_of {a b c d n m : Int} (h1 : okFr a b = true) (h2 : okFr c d = true) (h3 : okFr n m = true) (h : qv n m = qv a b + qv c d) : addC a b c d = 0 ∧ addN a b c d = n ∧ addD a b c d = m :=
  r_of (ok2 h1 h2) h3 (ne2 (okFr_d h1) (okFr_d h2)) (by rw [qv_add (okFr_d h1) (okFr_d h2), h])
theorem sub_of {a b c d n m : Int} (h1 : okFr a b = true) (h2 : okFr c d = true) (h3 : okFr n m = true) (h : qv n m = qv a b - qv c d) : subC a b c d = 0 ∧ subN a b c d = n ∧ subD a b c d = m :=
  r_of (ok2 h1 h2) h3 (ne2 (okFr_d h1) (okFr_d h2)) (by rw [qv_sub (okFr_d h1) (okFr_d h2), h])
theorem mul_of {a b c d n m : Int} (h1 : okFr a b = true) (h2 : okFr c d = true) (h3 : okFr n m = true) (h : qv n m = qv a b * qv c d) : mulC a b c d = 0 ∧ mulN a b c d = n ∧ mulD a b c d = m :=
  r_of (ok2 h1 h2) h3 (ne2 (okFr_d h1) (okFr_d h2)) (by rw [qv_mul (okFr_d h1) (okFr_d h2), h])
theorem div_of {a b c d n m : Int} (h1 : okFr a b = true) (h2 : okFr c d = true) (hc : c ≠ 0) (h3 : okFr n m = true) (h : qv n m = qv a b / qv c d) : divC a b c d = 0 ∧ divN a b c d = n ∧ divD a b c d = m := by
  have hz : (c == 0) = false := by simpa using hc
  obtain ⟨x1, x2, x3⟩ := mk_of h3 (ne2 (okFr_d h1) hc) (by rw [qv_div (okFr_d h1) (okFr_d h2) hc, h])
  unfold divC divN divD
  rw [h1, h2, hz]
  exact ⟨x1, x2, x3⟩
theorem divV {a b c d : Int} (h1 : okFr a b = true) (h2 : okFr c d = true) (h : divC a b c d = 0) : c ≠ 0 ∧ okFr (divN a b c d) (divD a b c d) = true ∧ qv (divN a b c d) (divD a b c d) = qv a b / qv c d := by
  have hz : (c == 0) = false := by
    cases hz : (c == 0)
    · rfl
    · unfold divC at h; rw [h1, h2, hz] at h; simp at h
  have hc : c ≠ 0 := by simpa using hz
  unfold divC at h
  unfold divN divD
  rw [h1, h2, hz] at h ⊢
  exact ⟨hc, mk_ok h, (mk_qv h).trans (qv_div (okFr_d h1) (okFr_d h2) hc)⟩

theorem add_sub_back {a b c d : Int} (h1 : okFr a b = true) (h2 : okFr c d = true) (h : addC a b c d = 0) :
    subC (addN a b c d) (addD a b c d) c d = 0 ∧ subN (addN a b c d) (addD a b c d) c d = a ∧ subD (addN a b c d) (addD a b c d) c d = b := by
  obtain ⟨x1, x2⟩ := addV h1 h2 h
  exact sub_of x1 h2 h1 (by rw [x2]; grind)
theorem mul_div_back {a b c d : Int} (h1 : okFr a b = true) (h2 : okFr c d = true) (hc : c ≠ 0) (h : mulC a b c d = 0) :
    divC (mulN a b c d) (mulD a b c d) c d = 0 ∧ divN (mulN a b c d) (mulD a b c d) c d = a ∧ divD (mulN a b c d) (mulD a b c d) c d = b := by
  obtain ⟨x1, x2⟩ := mulV h1 h2 h
  have hz : qv c d ≠ 0 := fun e => hc ((qv_zero (okFr_d h2)).mp e)
  exact div_of x1 h2 hc h1 (by rw [x2]; grind)
theorem sign_of {x P M Q : Int} (hP : 0 < P) (hQ : 0 < Q) (h : x * P = M * Q) : 0 < x ↔ 0 < M := by
  constructor
  · intro hx
    have h1 := Int.mul_pos hx hP
    rcases Int.lt_or_le 0 M with h2 | h2
    · exact h2
    · have := Int.mul_nonpos_of_nonpos_of_nonneg h2 (Int.le_of_lt hQ)
      omega
  · intro hx
    have h1 := Int.mul_pos hx hQ
    rcases Int.lt_or_le 0 x with h2 | h2
    · exact h2
    · have := Int.mul_nonpos_of_nonpos_of_nonneg h2 (Int.le_of_lt hP)
      omega
theorem sgn_pos (n : Int) : 0 < sgn n ↔ 0 < n := by unfold sgn; split <;> (try split) <;> omega
theorem sgn_zero (n : Int) : sgn n = 0 ↔ n = 0 := by unfold sgn; split <;> (try split) <;> omega
theorem cmp_sub {a b c d : Int} (h1 : okFr a b = true) (h2 : okFr c d = true) (h : subC a b c d = 0) : decide (0 < cmpR a b c d) = decide (0 < subN a b c d) := by
  have hv := (subV h1 h2 h).1
  obtain ⟨d0, d1, n0, n1, hg⟩ := okFr_t hv
  obtain ⟨b0, b1, _⟩ := okFr_t h1
  obtain ⟨e0, e1, _⟩ := okFr_t h2
  have hD : b * d ≠ 0 := ne2 (okFr_d h1) (okFr_d h2)
  have hx := (qv_eq (okFr_d hv) hD).mp (r_qv h)
  have hs := sign_of (Int.mul_pos (by omega) (by omega)) (show 0 < subD a b c d by omega) hx
  unfold cmpR
  rw [h1, h2]
  simp only [Bool.and_self, if_true]
  rw [decide_eq_decide, sgn_pos]
  exact hs.symm
theorem cmp_eq {a b c d : Int} (h1 : okFr a b = true) (h2 : okFr c d = true) : decide (cmpR a b c d = 0) = decide (a = c ∧ b = d) := by
  unfold cmpR
  rw [h1, h2]
  simp only [Bool.and_self, if_true]
  rw [decide_eq_decide, sgn_zero]
  constructor
  · intro h
    exact qv_inj h1 h2 ((qv_eq (okFr_d h1) (okFr_d h2)).mpr (by omega))
  · rintro ⟨rfl, rfl⟩
    omega
theorem round_near {a b : Int} (h : okFr a b = true) : 2 * (roundR a b * b - a) ≤ b ∧ -b < 2 * (roundR a b * b - a) ∧ floorR a b ≤ roundR a b ∧ roundR a b ≤ floorR a b + 1 := by
  obtain ⟨d0, d1, n0, n1, hg⟩ := okFr_t h
  have e := Int.mul_ediv_add_emod a b
  have e2 := Int.emod_nonneg a (b := b) (by omega)
  have e3 := Int.emod_lt_of_pos a (b := b) (by omega)
  have e4 : a / b * b = b * (a / b) := Int.mul_comm _ _
  have e5 : (a / b + 1) * b = b * (a / b) + b := by grind
  unfold roundR floorR rnd
  rw [h]
  simp only [if_true]
  split
  · rw [e5]; omega
  · rw [e4]; omega
theorem mixV {a b c d e f : Int} (h1 : okFr a b = true) (h2 : okFr c d = true) (h3 : okFr e f = true) (hs : subC c d a b = 0) (hm : m2C a b c d e f = 0) :
    mixN a b c d e f = addN a b (m2N a b c d e f) (m2D a b c d e f) ∧ mixD a b c d e f = addD a b (m2N a b c d e f) (m2D a b c d e f) ∧ mixC a b c d e f = addC a b (m2N a b c d e f) (m2D a b c d e f) := by
  unfold mixN mixD mixC mixP
  rw [h1, h2, h3]
  simp [hs, hm]
theorem ok_zero : okFr 0 1 = true := by decide
theorem ok_one : okFr 1 1 = true := by decide
theorem qv_01 : qv 0 1 = 0 := (qv_zero (by decide)).mpr rfl
theorem qv_11 : qv 1 1 = 1 := by rw [qv_int]; rfl
theorem sub_swap {a b c d : Int} (h1 : okFr a b = true) (h2 : okFr c d = true) (h : subC a b c d = 0) : subC c d a b = 0 := by
  obtain ⟨x1, x2⟩ := subV h1 h2 h
  exact (sub_of h2 h1 (okFr_neg x1) (by rw [qv_neg, x2]; grind)).1
theorem mix_zero {a b c d : Int} (h1 : okFr a b = true) (h2 : okFr c d = true) (h : subC a b c d = 0) : mixC a b c d 0 1 = 0 ∧ mixN a b c d 0 1 = a ∧ mixD a b c d 0 1 = b := by
  have hs := sub_swap h1 h2 h
  obtain ⟨x1, x2⟩ := subV h2 h1 hs
  obtain ⟨m1, m2, m3⟩ := mul_of ok_zero x1 ok_zero (by rw [qv_01]; grind)
  obtain ⟨y1, y2, y3⟩ := mixV h1 h2 ok_zero hs m1
  obtain ⟨z1, z2, z3⟩ := add_of h1 ok_zero h1 (by rw [qv_01]; grind)
  have e2 : m2N a b c d 0 1 = 0 := m2
  have e3 : m2D a b c d 0 1 = 1 := m3
  rw [e2, e3] at y1 y2 y3
  exact ⟨y3.trans z1, y1.trans z2, y2.trans z3⟩
theorem mix_one {a b c d : Int} (h1 : okFr a b = true) (h2 : okFr c d = true) (h : subC a b c d = 0) : mixC a b c d 1 1 = 0 ∧ mixN a b c d 1 1 = c ∧ mixD a b c d 1 1 = d := by
  have hs := sub_swap h1 h2 h
  obtain ⟨x1, x2⟩ := subV h2 h1 hs
  obtain ⟨m1, m2, m3⟩ := mul_of ok_one x1 x1 (by rw [qv_11]; grind)
  obtain ⟨y1, y2, y3⟩ := mixV h1 h2 ok_one hs m1
  obtain ⟨z1, z2, z3⟩ := add_of h1 x1 h2 (by rw [x2]; grind)
  have e2 : m2N a b c d 1 1 = subN c d a b := m2
  have e3 : m2D a b c d 1 1 = subD c d a b := m3
  rw [e2, e3] at y1 y2 y3
  exact ⟨y3.trans z1, y1.trans z2, y2.trans z3⟩
theorem scale_unit {a b : Int} (h : okFr a b = true) : scaleC a 1 1 = 0 ∧ scaleR a 1 1 = a := by
  obtain ⟨d0, d1, n0, n1, hg⟩ := okFr_t h
  have hi : inB a (-1073741824) 1073741824 = true := decide_eq_true ⟨by omega, by omega⟩
  unfold scaleC scaleR rnd
  rw [ok_one, hi]
  simp
end Go.Proofs.YtickgkfgmbaalaaDoor
