/-
  PLAIN LAW OF TRANSFORMS: what the walk needs of maps, turns and determinants. Conditions: as each says.
-/
import Derived.Test.YtickgkfgmbaalaaDoorMapLaw
import Derived.Test.YtickgkfgmbaalaaDoorMapT
import Derived.Test.YtickgkfgmbaalaaDoorMapJ
import Derived.Test.YtickgkfgmbaalaaDoorMapA
namespace Go.Proofs.YtickgkfgmbaalaaDoor
open Go.RowKit Go.Sort
set_option linter.unusedVariables false
theorem i64_0 : I64 0 := by unfold I64; decide
theorem zeroA_in : AfIn zeroA := ⟨i64_0, i64_0, i64_0, i64_0, i64_0, i64_0⟩
theorem okAf_in {m : Af} (h : okAf m = true) : AfIn m := by
  obtain ⟨v0, v1, v2, v3, v4, v5⟩ := okAf_t h
  exact ⟨okF_I v0, okF_I v1, okF_I v2, okF_I v3, okF_I v4, okF_I v5⟩
theorem invA_in {m : Af} : AfIn (invA m) := by
  unfold invA
  split
  · rename_i h
    rw [Bool.and_eq_true] at h
    obtain ⟨h1, h2⟩ := h
    have h3 : okAf m = true ∧ invG m = true := by
      rw [← g6_inv, h2]
      unfold invO at h1
      simp only [Bool.and_eq_true] at h1 ⊢
      exact ⟨h1.1.1, ⟨h1.1.2, h1.2⟩, trivial⟩
    exact okAf_in (inv_ok h3.1 h3.2)
  · exact zeroA_in
theorem bI_z {b : Bool} (h : bI b = 0) : b = true := by cases b <;> first | rfl | cases h
theorem inv_z {m : Af} (h : invC m = 0) : okAf m = true ∧ invG m = true ∧ invA m = invF m := by
  unfold invC at h
  by_cases h1 : okAf m = true
  · rw [if_pos h1] at h
    by_cases h2 : detG m = true
    · rw [if_pos h2] at h
      by_cases h3 : (detF m).1 = 0
      · rw [if_pos h3] at h; cases h
      · rw [if_neg h3] at h
        have h4 := bI_z h
        have h5 : invG m = true := by rw [← g6_inv, h2, h4, decide_eq_false h3]; rfl
        refine ⟨h1, h5, ?_⟩
        unfold invA invO
        rw [h1, h2, h4, decide_eq_false h3]; rfl
    · rw [if_neg h2] at h; cases h
  · rw [if_neg h1] at h; cases h
theorem th_z {a b : Af} (h : thC a b = 0) : okAf a = true ∧ okAf b = true ∧ thenG a b = true ∧ thA a b = thenF a b := by
  unfold thC at h
  by_cases h1 : thO a b = true
  · rw [if_pos h1] at h
    have h2 := bI_z h
    have h3 : okAf a = true ∧ okAf b = true := by
      unfold thO at h1
      simpa using h1
    refine ⟨h3.1, h3.2, by rw [← tA6_G]; exact h2, ?_⟩
    unfold thA
    rw [h1, h2]; rfl
  · rw [if_neg h1] at h; cases h
theorem thA_in {a b : Af} : AfIn (thA a b) := by
  unfold thA
  split
  · rename_i h
    rw [Bool.and_eq_true] at h
    obtain ⟨h1, h2⟩ := h
    have h3 : okAf a = true ∧ okAf b = true := by
      unfold thO at h1
      simpa using h1
    rw [tA6_G] at h2
    exact okAf_in (then_ok h3.1 h3.2 h2)
  · exact zeroA_in
/-- the map and its inverse, one after the other -/
theorem one_id {m : Af} (h : invC m = 0) (ht : thC m (invA m) = 0) : thA m (invA m) = ⟨(1, 1), (0, 1), (0, 1), (1, 1), (0, 1), (0, 1)⟩ := by
  obtain ⟨h1, h2, h3⟩ := inv_z h
  obtain ⟨t1, t2, t3, t4⟩ := th_z ht
  rw [t4]
  rw [h3] at t3 ⊢
  exact then_inv h1 h2 t3
theorem q_unit (k : Int) : (quarterC k = -1 ∨ quarterC k = 0 ∨ quarterC k = 1) ∧ (quarterS k = -1 ∨ quarterS k = 0 ∨ quarterS k = 1) := by
  unfold quarterC quarterS
  split <;> split <;> (try split) <;> (try split) <;> omega
theorem okF_unit {c : Int} (h : c = -1 ∨ c = 0 ∨ c = 1) : okF (c, 1) = true := by rcases h with rfl | rfl | rfl <;> decide +kernel
theorem quarter_ok (k : Int) : okAf (quarter k) = true := by
  obtain ⟨hc, hs⟩ := q_unit k
  exact okAf_mk (okF_unit hc) (okF_unit (by omega)) (okF_unit hs) (okF_unit hc) ok_01 ok_01
theorem qV_af (k : Int) : qV k = afV (quarter k) := rfl
theorem turn_sum (j k : Int) : afV (thA (quarter j) (quarter k)) = qV (j + k) ∧ thC (quarter j) (quarter k) = 0 := by
  obtain ⟨h1, h2⟩ := then_quarter j k
  have h3 : thO (quarter j) (quarter k) = true := by unfold thO; rw [quarter_ok, quarter_ok]; rfl
  have h4 : tA6 (quarter j) (quarter k) = true := by rw [tA6_G]; exact h1
  refine ⟨?_, ?_⟩
  · unfold thA
    rw [h3, h4]
    show afV (thenF (quarter j) (quarter k)) = _
    rw [h2, qV_af]
  · unfold thC
    rw [h3, h4]; rfl
theorem round_int {n : Int} (h0 : -1000000000 ≤ n) (h1 : n ≤ 1000000000) : roundR n 1 = n := by
  unfold roundR
  rw [if_pos (okFr_int h0 h1)]
  unfold rnd
  rw [if_neg (by omega)]
  omega
theorem row_unit {c s x y : Int} (hc : c = -1 ∨ c = 0 ∨ c = 1) (hs : s = -1 ∨ s = 0 ∨ s = 1) (hp : okPt x y = true) : rowG (c, 1) (s, 1) (0, 1) x y = true ∧ rowR (c, 1) (s, 1) (0, 1) x y = c * x + s * y := by
  obtain ⟨x0, x1, y0, y1⟩ := okPt_t hp
  obtain ⟨u0, u1⟩ := unit_bd hc x0 x1
  obtain ⟨v0, v1⟩ := unit_bd hs y0 y1
  obtain ⟨h1, h2⟩ := row_int hc hs x0 x1 y0 y1
  refine ⟨h1, ?_⟩
  unfold rowR rowG rowF
  rw [h1, h2]
  show roundR (c * x + s * y) 1 = _
  exact round_int (by omega) (by omega)
theorem app_q (k : Int) {x y : Int} (hp : okPt x y = true) (h2 : okPt (quarterC k * x + -(quarterS k) * y) (quarterS k * x + quarterC k * y) = true) : appV (quarter k) x y = (quarterC k * x + -(quarterS k) * y, quarterS k * x + quarterC k * y) ∧ appC (quarter k) x y = 0 := by
  obtain ⟨hc, hs⟩ := q_unit k
  obtain ⟨a1, a2⟩ := row_unit (c := quarterC k) (s := -(quarterS k)) hc (by omega) hp
  obtain ⟨b1, b2⟩ := row_unit (c := quarterS k) (s := quarterC k) hs hc hp
  have e1 : appX (quarter k) x y = quarterC k * x + -(quarterS k) * y := a2
  have e2 : appY (quarter k) x y = quarterS k * x + quarterC k * y := b2
  have g : appG (quarter k) x y = true := by
    unfold appG
    rw [e1, e2, h2]
    show (rowG (quarterC k, 1) (-(quarterS k), 1) (0, 1) x y && rowG (quarterS k, 1) (quarterC k, 1) (0, 1) x y && true) = true
    rw [a1, b1]; rfl
  have o : appO (quarter k) x y = true := by unfold appO; rw [quarter_ok, hp]; rfl
  refine ⟨?_, ?_⟩
  · rw [appV_yes o g, e1, e2]
  · unfold appC
    rw [o, g]; rfl
theorem q_cases (k : Int) : (quarterC k = 1 ∧ quarterS k = 0 ∧ quarterC (-k) = 1 ∧ quarterS (-k) = 0) ∨ (quarterC k = 0 ∧ quarterS k = 1 ∧ quarterC (-k) = 0 ∧ quarterS (-k) = -1) ∨ (quarterC k = -1 ∧ quarterS k = 0 ∧ quarterC (-k) = -1 ∧ quarterS (-k) = 0) ∨ (quarterC k = 0 ∧ quarterS k = -1 ∧ quarterC (-k) = 0 ∧ quarterS (-k) = 1) := by
  have hk : k % 4 = 0 ∨ k % 4 = 1 ∨ k % 4 = 2 ∨ k % 4 = 3 := by omega
  rcases hk with h | h | h | h
  · obtain ⟨a, b⟩ := qc_0 h
    obtain ⟨c, d⟩ := qc_0 (k := -k) (by omega)
    exact .inl ⟨a, b, c, d⟩
  · obtain ⟨a, b⟩ := qc_1 h
    obtain ⟨c, d⟩ := qc_3 (k := -k) (by omega)
    exact .inr (.inl ⟨a, b, c, d⟩)
  · obtain ⟨a, b⟩ := qc_2 h
    obtain ⟨c, d⟩ := qc_2 (k := -k) (by omega)
    exact .inr (.inr (.inl ⟨a, b, c, d⟩))
  · obtain ⟨a, b⟩ := qc_3 h
    obtain ⟨c, d⟩ := qc_1 (k := -k) (by omega)
    exact .inr (.inr (.inr ⟨a, b, c, d⟩))
theorem okPt_mk {x y : Int} (h : -262144 ≤ x ∧ x ≤ 262144 ∧ -262144 ≤ y ∧ y ≤ 262144) : okPt x y = true := decide_eq_true h
/-- a turn of a point, and back -/
theorem turn_pt (k : Int) {x y : Int} (hp : okPt x y = true) : appC (quarter k) x y = 0 ∧ okPt (appV (quarter k) x y).1 (appV (quarter k) x y).2 = true ∧ appC (quarter (-k)) (appV (quarter k) x y).1 (appV (quarter k) x y).2 = 0 ∧ appV (quarter (-k)) (appV (quarter k) x y).1 (appV (quarter k) x y).2 = (x, y) := by
  obtain ⟨x0, x1, y0, y1⟩ := okPt_t hp
  have h1 : okPt (quarterC k * x + -(quarterS k) * y) (quarterS k * x + quarterC k * y) = true := by
    apply okPt_mk
    rcases q_cases k with ⟨a, b, c, d⟩ | ⟨a, b, c, d⟩ | ⟨a, b, c, d⟩ | ⟨a, b, c, d⟩ <;> rw [a, b] <;> omega
  obtain ⟨e1, e2⟩ := app_q k hp h1
  rw [e1]
  have h3 : quarterC (-k) * (quarterC k * x + -(quarterS k) * y) + -(quarterS (-k)) * (quarterS k * x + quarterC k * y) = x ∧ quarterS (-k) * (quarterC k * x + -(quarterS k) * y) + quarterC (-k) * (quarterS k * x + quarterC k * y) = y := by
    rcases q_cases k with ⟨a, b, c, d⟩ | ⟨a, b, c, d⟩ | ⟨a, b, c, d⟩ | ⟨a, b, c, d⟩ <;> rw [a, b, c, d] <;> omega
  obtain ⟨e3, e4⟩ := app_q (-k) h1 (by rw [h3.1, h3.2]; exact hp)
  refine ⟨e2, h1, e4, ?_⟩
  show appV (quarter (-k)) (quarterC k * x + -(quarterS k) * y) (quarterS k * x + quarterC k * y) = (x, y)
  rw [e3, h3.1, h3.2]
theorem det_z {m : Af} (h : detC m = 0) : okAf m = true ∧ detG m = true ∧ detV m = detF m := by
  unfold detC at h
  by_cases h1 : okAf m = true
  · rw [if_pos h1] at h
    have h2 := bI_z h
    refine ⟨h1, h2, ?_⟩
    unfold detV
    rw [if_pos h1, h2]; rfl
  · rw [if_neg h1] at h; cases h
theorem detV_in (m : Af) : I64 (detV m).1 := by
  unfold detV
  by_cases h1 : okAf m = true
  · rw [if_pos h1]
    by_cases h2 : detG m = true
    · obtain ⟨v0, v1, v2, v3, v4, v5⟩ := okAf_t h1
      rw [h2]
      exact okF_I (dotF_v v0 v3 (negF_v v1).1 v2 h2).1
    · have h3 : detG m = false := by simpa using h2
      rw [h3]; exact i64_0
  · rw [if_neg h1]; exact i64_0
/-- the determinants of two maps, one after the other -/
theorem det_both {m n : Af} (h : thC m n = 0) (i : detC m = 0) (l : detC n = 0) (u : detC (thA m n) = 0) (v : mulC (detV m).1 (detV m).2 (detV n).1 (detV n).2 = 0) :
    (detV (thA m n)).1 = mulN (detV m).1 (detV m).2 (detV n).1 (detV n).2 ∧ (detV (thA m n)).2 = mulD (detV m).1 (detV m).2 (detV n).1 (detV n).2 := by
  obtain ⟨h1, h2, h3, h4⟩ := th_z h
  obtain ⟨_, i2, i3⟩ := det_z i
  obtain ⟨_, l2, l3⟩ := det_z l
  obtain ⟨_, u2, u3⟩ := det_z u
  rw [i3, l3] at v ⊢
  rw [u3]
  rw [h4] at u2 ⊢
  have e := det_then h1 h2 h3 i2 l2 u2 v
  rw [e]
  exact ⟨rfl, rfl⟩
end Go.Proofs.YtickgkfgmbaalaaDoor
