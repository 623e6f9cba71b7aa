/-
  PLAIN LAW OF MAPS OF THE PLANE: what composing, the determinant, the inverse and applying compute, in fractions as pairs; and what FnTransforms asks of them. No program in sight. Conditions: the maps are valid.
-/
import Derived.Test.YtickgkfgmbaalaaDoorFrLaw
import Derived.Test.YtickgkfgmbaalaaDoorMaps
namespace Go.Proofs.YtickgkfgmbaalaaDoor
open Go.RowKit
set_option linter.unusedVariables false

theorem okF_ext {p q : F2} (h1 : okF p = true) (h2 : okF q = true) (h : qF p = qF q) : p = q := by
  obtain ⟨e1, e2⟩ := qv_inj h1 h2 h
  exact Prod.ext e1 e2
theorem addF_v {p q : F2} (h1 : okF p = true) (h2 : okF q = true) (h : addK p q = 0) : okF (addF p q) = true ∧ qF (addF p q) = qF p + qF q := addV h1 h2 h
theorem mulF_v {p q : F2} (h1 : okF p = true) (h2 : okF q = true) (h : mulK p q = 0) : okF (mulF p q) = true ∧ qF (mulF p q) = qF p * qF q := mulV h1 h2 h
theorem divF_v {p q : F2} (h1 : okF p = true) (h2 : okF q = true) (h : divK p q = 0) : q.1 ≠ 0 ∧ okF (divF p q) = true ∧ qF (divF p q) = qF p / qF q := divV h1 h2 h
theorem negF_v {p : F2} (h1 : okF p = true) : okF (negF p) = true ∧ qF (negF p) = -qF p := ⟨okFr_neg h1, qv_neg⟩
theorem qF_zero {p : F2} (h1 : okF p = true) : qF p = 0 ↔ p.1 = 0 := qv_zero (okFr_d h1)
theorem addF_of {p q r : F2} (h1 : okF p = true) (h2 : okF q = true) (h3 : okF r = true) (h : qF r = qF p + qF q) : addK p q = 0 ∧ addF p q = r := by
  obtain ⟨x, y, z⟩ := add_of h1 h2 h3 h
  exact ⟨x, Prod.ext y z⟩
theorem mulF_of {p q r : F2} (h1 : okF p = true) (h2 : okF q = true) (h3 : okF r = true) (h : qF r = qF p * qF q) : mulK p q = 0 ∧ mulF p q = r := by
  obtain ⟨x, y, z⟩ := mul_of h1 h2 h3 h
  exact ⟨x, Prod.ext y z⟩
theorem dotG_t {a b c d : F2} (h : dotG a b c d = true) : mulK a b = 0 ∧ mulK c d = 0 ∧ addK (mulF a b) (mulF c d) = 0 := by
  unfold dotG at h
  simpa [Bool.and_eq_true, and_assoc] using h
theorem dotG_mk {a b c d : F2} (h1 : mulK a b = 0) (h2 : mulK c d = 0) (h3 : addK (mulF a b) (mulF c d) = 0) : dotG a b c d = true := by
  unfold dotG; simp [h1, h2, h3]
theorem dotF_v {a b c d : F2} (ha : okF a = true) (hb : okF b = true) (hc : okF c = true) (hd : okF d = true) (h : dotG a b c d = true) : okF (dotF a b c d) = true ∧ qF (dotF a b c d) = qF a * qF b + qF c * qF d := by
  obtain ⟨h1, h2, h3⟩ := dotG_t h
  obtain ⟨x1, x2⟩ := mulF_v ha hb h1
  obtain ⟨y1, y2⟩ := mulF_v hc hd h2
  obtain ⟨z1, z2⟩ := addF_v x1 y1 h3
  exact ⟨z1, by unfold dotF; rw [z2, x2, y2]⟩
theorem okAf_t {m : Af} (h : okAf m = true) : okF m.xx = true ∧ okF m.xy = true ∧ okF m.yx = true ∧ okF m.yy = true ∧ okF m.dx = true ∧ okF m.dy = true := by
  unfold okAf at h
  simpa [Bool.and_eq_true, and_assoc] using h
theorem okAf_mk {m : Af} (h1 : okF m.xx = true) (h2 : okF m.xy = true) (h3 : okF m.yx = true) (h4 : okF m.yy = true) (h5 : okF m.dx = true) (h6 : okF m.dy = true) : okAf m = true := by
  unfold okAf; simp [h1, h2, h3, h4, h5, h6]

theorem movG_t {a b c d e : F2} (h : movG a b c d e = true) : dotG a b c d = true ∧ addK (dotF a b c d) e = 0 := by
  unfold movG at h
  simpa [Bool.and_eq_true] using h
theorem movF_v {a b c d e : F2} (ha : okF a = true) (hb : okF b = true) (hc : okF c = true) (hd : okF d = true) (he : okF e = true) (h : movG a b c d e = true) : okF (movF a b c d e) = true ∧ qF (movF a b c d e) = qF a * qF b + qF c * qF d + qF e := by
  obtain ⟨h1, h2⟩ := movG_t h
  obtain ⟨x1, x2⟩ := dotF_v ha hb hc hd h1
  obtain ⟨z1, z2⟩ := addF_v x1 he h2
  exact ⟨z1, by unfold movF; rw [z2, x2]⟩
theorem thenG_t {a b : Af} (h : thenG a b = true) : dotG b.xx a.xx b.xy a.yx = true ∧ dotG b.xx a.xy b.xy a.yy = true ∧ dotG b.yx a.xx b.yy a.yx = true ∧ dotG b.yx a.xy b.yy a.yy = true ∧ movG b.xx a.dx b.xy a.dy b.dx = true ∧ movG b.yx a.dx b.yy a.dy b.dy = true := by
  unfold thenG at h
  simpa [Bool.and_eq_true, and_assoc] using h
theorem then_ok {a b : Af} (ha : okAf a = true) (hb : okAf b = true) (h : thenG a b = true) : okAf (thenF a b) = true := by
  obtain ⟨h1, h2, h3, h4, h5, h6⟩ := thenG_t h
  obtain ⟨a1, a2, a3, a4, a5, a6⟩ := okAf_t ha
  obtain ⟨b1, b2, b3, b4, b5, b6⟩ := okAf_t hb
  exact okAf_mk (dotF_v b1 a1 b2 a3 h1).1 (dotF_v b1 a2 b2 a4 h2).1 (dotF_v b3 a1 b4 a3 h3).1 (dotF_v b3 a2 b4 a4 h4).1 (movF_v b1 a5 b2 a6 b5 h5).1 (movF_v b3 a5 b4 a6 b6 h6).1
/-- the determinant of a product is the product of the determinants -/
theorem det_then {a b : Af} (ha : okAf a = true) (hb : okAf b = true) (h : thenG a b = true) (d1 : detG a = true) (d2 : detG b = true) (d3 : detG (thenF a b) = true) (d4 : mulK (detF a) (detF b) = 0) :
    detF (thenF a b) = mulF (detF a) (detF b) := by
  have hc := then_ok ha hb h
  obtain ⟨h1, h2, h3, h4, h5, h6⟩ := thenG_t h
  obtain ⟨a1, a2, a3, a4, a5, a6⟩ := okAf_t ha
  obtain ⟨b1, b2, b3, b4, b5, b6⟩ := okAf_t hb
  obtain ⟨c1, c2, c3, c4, c5, c6⟩ := okAf_t hc
  obtain ⟨x1, y1⟩ := dotF_v a1 a4 (negF_v a2).1 a3 d1
  obtain ⟨x2, y2⟩ := dotF_v b1 b4 (negF_v b2).1 b3 d2
  obtain ⟨x3, y3⟩ := dotF_v c1 c4 (negF_v c2).1 c3 d3
  obtain ⟨x4, y4⟩ := mulF_v x1 x2 d4
  refine okF_ext x3 x4 ?_
  have e1 := (dotF_v b1 a1 b2 a3 h1).2
  have e2 := (dotF_v b1 a2 b2 a4 h2).2
  have e3 := (dotF_v b3 a1 b4 a3 h3).2
  have e4 := (dotF_v b3 a2 b4 a4 h4).2
  have f1 : qF (thenF a b).xx = qF b.xx * qF a.xx + qF b.xy * qF a.yx := e1
  have f2 : qF (thenF a b).xy = qF b.xx * qF a.xy + qF b.xy * qF a.yy := e2
  have f3 : qF (thenF a b).yx = qF b.yx * qF a.xx + qF b.yy * qF a.yx := e3
  have f4 : qF (thenF a b).yy = qF b.yx * qF a.xy + qF b.yy * qF a.yy := e4
  rw [(negF_v a2).2] at y1
  rw [(negF_v b2).2] at y2
  rw [(negF_v c2).2, f1, f2, f3, f4] at y3
  have y1' : qF (detF a) = qF a.xx * qF a.yy + -qF a.xy * qF a.yx := y1
  have y2' : qF (detF b) = qF b.xx * qF b.yy + -qF b.xy * qF b.yx := y2
  have y3' : qF (detF (thenF a b)) = (qF b.xx * qF a.xx + qF b.xy * qF a.yx) * (qF b.yx * qF a.xy + qF b.yy * qF a.yy) + -(qF b.xx * qF a.xy + qF b.xy * qF a.yy) * (qF b.yx * qF a.xx + qF b.yy * qF a.yx) := y3
  have y4' : qF (mulF (detF a) (detF b)) = qF (detF a) * qF (detF b) := y4
  rw [y4', y1', y2', y3']
  grind
theorem ok_01 : okF (0, 1) = true := ok_zero
theorem ok_11 : okF (1, 1) = true := ok_one
theorem q_01 : qF (0, 1) = 0 := qv_01
theorem q_11 : qF (1, 1) = 1 := qv_11
theorem invG_t {m : Af} (h : invG m = true) : detG m = true ∧ ¬ (detF m).1 = 0 ∧ divK m.yy (detF m) = 0 ∧ divK (negF m.xy) (detF m) = 0 ∧ divK (negF m.yx) (detF m) = 0 ∧ divK m.xx (detF m) = 0 ∧
    dotG (divF m.yy (detF m)) m.dx (divF (negF m.xy) (detF m)) m.dy = true ∧ dotG (divF (negF m.yx) (detF m)) m.dx (divF m.xx (detF m)) m.dy = true := by
  unfold invG at h
  simpa [Bool.and_eq_true, and_assoc] using h
theorem inv_ok {m : Af} (hm : okAf m = true) (h : invG m = true) : okAf (invF m) = true := by
  obtain ⟨h1, h2, h3, h4, h5, h6, h7, h8⟩ := invG_t h
  obtain ⟨m1, m2, m3, m4, m5, m6⟩ := okAf_t hm
  have dx := (dotF_v m1 m4 (negF_v m2).1 m3 h1).1
  have x1 := (divF_v m4 dx h3).2.1
  have x2 := (divF_v (negF_v m2).1 dx h4).2.1
  have x3 := (divF_v (negF_v m3).1 dx h5).2.1
  have x4 := (divF_v m1 dx h6).2.1
  exact okAf_mk x1 x2 x3 x4 (negF_v (dotF_v x1 m5 x2 m6 h7).1).1 (negF_v (dotF_v x3 m5 x4 m6 h8).1).1
/-- a map and its inverse make the identity -/
theorem then_inv {m : Af} (hm : okAf m = true) (h : invG m = true) (ht : thenG m (invF m) = true) : thenF m (invF m) = ⟨(1, 1), (0, 1), (0, 1), (1, 1), (0, 1), (0, 1)⟩ := by
  have hi := inv_ok hm h
  obtain ⟨h1, h2, h3, h4, h5, h6, h7, h8⟩ := invG_t h
  obtain ⟨m1, m2, m3, m4, m5, m6⟩ := okAf_t hm
  obtain ⟨i1, i2, i3, i4, i5, i6⟩ := okAf_t hi
  obtain ⟨t1, t2, t3, t4, t5, t6⟩ := thenG_t ht
  obtain ⟨dk, dv⟩ := dotF_v m1 m4 (negF_v m2).1 m3 h1
  have dk' : okF (detF m) = true := dk
  have dv' : qF (detF m) = qF m.xx * qF m.yy + -qF m.xy * qF m.yx := by rw [← (negF_v m2).2]; exact dv
  have hz : qF (detF m) ≠ 0 := fun e => h2 ((qF_zero dk').mp e)
  obtain ⟨_, x1, y1⟩ := divF_v m4 dk' h3
  obtain ⟨_, x2, y2⟩ := divF_v (negF_v m2).1 dk' h4
  obtain ⟨_, x3, y3⟩ := divF_v (negF_v m3).1 dk' h5
  obtain ⟨_, x4, y4⟩ := divF_v m1 dk' h6
  rw [(negF_v m2).2] at y2
  rw [(negF_v m3).2] at y3
  obtain ⟨x5, y5⟩ := dotF_v x1 m5 x2 m6 h7
  obtain ⟨x6, y6⟩ := dotF_v x3 m5 x4 m6 h8
  have z5 := (negF_v x5).2
  have z6 := (negF_v x6).2
  have v1 : qF (invF m).xx = qF m.yy / qF (detF m) := y1
  have v2 : qF (invF m).xy = -qF m.xy / qF (detF m) := y2
  have v3 : qF (invF m).yx = -qF m.yx / qF (detF m) := y3
  have v4 : qF (invF m).yy = qF m.xx / qF (detF m) := y4
  have v5 : qF (invF m).dx = -(qF m.yy / qF (detF m) * qF m.dx + -qF m.xy / qF (detF m) * qF m.dy) := by rw [← y1, ← y2, ← y5]; exact z5
  have v6 : qF (invF m).dy = -(-qF m.yx / qF (detF m) * qF m.dx + qF m.xx / qF (detF m) * qF m.dy) := by rw [← y3, ← y4, ← y6]; exact z6
  obtain ⟨k1, l1⟩ := dotF_v i1 m1 i2 m3 t1
  obtain ⟨k2, l2⟩ := dotF_v i1 m2 i2 m4 t2
  obtain ⟨k3, l3⟩ := dotF_v i3 m1 i4 m3 t3
  obtain ⟨k4, l4⟩ := dotF_v i3 m2 i4 m4 t4
  obtain ⟨k5, l5⟩ := movF_v i1 m5 i2 m6 i5 t5
  obtain ⟨k6, l6⟩ := movF_v i3 m5 i4 m6 i6 t6
  rw [v1, v2] at l1 l2
  rw [v3, v4] at l3 l4
  rw [v1, v2, v5] at l5
  rw [v3, v4, v6] at l6
  generalize qF (detF m) = D at *
  have e1 : dotF (invF m).xx m.xx (invF m).xy m.yx = (1, 1) := okF_ext k1 ok_11 (by rw [l1, q_11]; grind)
  have e2 : dotF (invF m).xx m.xy (invF m).xy m.yy = (0, 1) := okF_ext k2 ok_01 (by rw [l2, q_01]; grind)
  have e3 : dotF (invF m).yx m.xx (invF m).yy m.yx = (0, 1) := okF_ext k3 ok_01 (by rw [l3, q_01]; grind)
  have e4 : dotF (invF m).yx m.xy (invF m).yy m.yy = (1, 1) := okF_ext k4 ok_11 (by rw [l4, q_11]; grind)
  have e5 : movF (invF m).xx m.dx (invF m).xy m.dy (invF m).dx = (0, 1) := okF_ext k5 ok_01 (by rw [l5, q_01]; grind)
  have e6 : movF (invF m).yx m.dx (invF m).yy m.dy (invF m).dy = (0, 1) := okF_ext k6 ok_01 (by rw [l6, q_01]; grind)
  unfold thenF
  rw [e1, e2, e3, e4, e5, e6]

/-- quarter turns -/
theorem then_quarter (j k : Int) : thenG (quarter j) (quarter k) = true ∧ thenF (quarter j) (quarter k) = quarter (j + k) := by
  have hj : j % 4 = 0 ∨ j % 4 = 1 ∨ j % 4 = 2 ∨ j % 4 = 3 := by omega
  have hk : k % 4 = 0 ∨ k % 4 = 1 ∨ k % 4 = 2 ∨ k % 4 = 3 := by omega
  have hs : (j + k) % 4 = (j % 4 + k % 4) % 4 := by omega
  unfold quarter quarterC quarterS
  rw [hs]
  rcases hj with e | e | e | e <;> rcases hk with f | f | f | f <;> rw [e, f] <;> exact ⟨by decide +kernel, by decide +kernel⟩
theorem mul_int {a b : Int} (ha : -1000000000 ≤ a) (ha' : a ≤ 1000000000) (hb : -1000000000 ≤ b) (hb' : b ≤ 1000000000) (h : -1000000000 ≤ a * b) (h' : a * b ≤ 1000000000) : mulK (a, 1) (b, 1) = 0 ∧ mulF (a, 1) (b, 1) = (a * b, 1) :=
  mulF_of (okFr_int ha ha') (okFr_int hb hb') (okFr_int h h') (by show qv (a * b) 1 = qv a 1 * qv b 1; rw [qv_int, qv_int, qv_int]; push_cast; rfl)
theorem add_int {a b : Int} (ha : -1000000000 ≤ a) (ha' : a ≤ 1000000000) (hb : -1000000000 ≤ b) (hb' : b ≤ 1000000000) (h : -1000000000 ≤ a + b) (h' : a + b ≤ 1000000000) : addK (a, 1) (b, 1) = 0 ∧ addF (a, 1) (b, 1) = (a + b, 1) :=
  addF_of (okFr_int ha ha') (okFr_int hb hb') (okFr_int h h') (by show qv (a + b) 1 = qv a 1 + qv b 1; rw [qv_int, qv_int, qv_int]; push_cast; rfl)
theorem unit_bd {c x : Int} (hc : c = -1 ∨ c = 0 ∨ c = 1) (h0 : -262144 ≤ x) (h1 : x ≤ 262144) : -262144 ≤ c * x ∧ c * x ≤ 262144 := by
  rcases hc with rfl | rfl | rfl <;> omega
theorem row_int {c s x y : Int} (hc : c = -1 ∨ c = 0 ∨ c = 1) (hs : s = -1 ∨ s = 0 ∨ s = 1) (x0 : -262144 ≤ x) (x1 : x ≤ 262144) (y0 : -262144 ≤ y) (y1 : y ≤ 262144) :
    movG (c, 1) (x, 1) (s, 1) (y, 1) (0, 1) = true ∧ movF (c, 1) (x, 1) (s, 1) (y, 1) (0, 1) = (c * x + s * y, 1) := by
  obtain ⟨u0, u1⟩ := unit_bd hc x0 x1
  obtain ⟨v0, v1⟩ := unit_bd hs y0 y1
  obtain ⟨a1, a2⟩ := mul_int (a := c) (b := x) (by omega) (by omega) (by omega) (by omega) (by omega) (by omega)
  obtain ⟨b1, b2⟩ := mul_int (a := s) (b := y) (by omega) (by omega) (by omega) (by omega) (by omega) (by omega)
  obtain ⟨c1, c2⟩ := add_int (a := c * x) (b := s * y) (by omega) (by omega) (by omega) (by omega) (by omega) (by omega)
  obtain ⟨d1, d2⟩ := add_int (a := c * x + s * y) (b := 0) (by omega) (by omega) (by omega) (by omega) (by omega) (by omega)
  have e : dotF (c, 1) (x, 1) (s, 1) (y, 1) = (c * x + s * y, 1) := by unfold dotF; rw [a2, b2, c2]
  have g : dotG (c, 1) (x, 1) (s, 1) (y, 1) = true := dotG_mk a1 b1 (by rw [a2, b2]; exact c1)
  refine ⟨?_, ?_⟩
  · unfold movG; rw [e, g, d1]; rfl
  · unfold movF; rw [e, d2]; simp
end Go.Proofs.YtickgkfgmbaalaaDoor
