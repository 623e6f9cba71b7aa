/-
  PLAIN LAW of meeting segments: the program's way (signs of areas; the order of points on a line) and the reference's way (the ends that lie on both) find the same kind. No program in sight. Conditions: the coordinates are those of valid points.
-/
import Derived.Test.YthellegojnndlaaOn
import Derived.Test.YthellegojnndlaaArd
namespace Go.Proofs.Ythellegojnndlaa
open Go.RowKit
set_option linter.unusedVariables false

theorem onB_t {a b c d e f : Int} (h : onB a b c d e f = true) : tn a b c d e f = 0 ∧ min a c ≤ e ∧ e ≤ max a c ∧ min b d ≤ f ∧ f ≤ max b d := by
  unfold onB boxB at h
  simp only [Bool.and_eq_true, decide_eq_true_eq] at h
  exact h
theorem onB_f {a b c d e f : Int} (h : onB a b c d e f = false) : ¬ (tn a b c d e f = 0 ∧ min a c ≤ e ∧ e ≤ max a c ∧ min b d ≤ f ∧ f ≤ max b d) := by
  intro h1
  have : onB a b c d e f = true := by
    unfold onB boxB
    simp only [Bool.and_eq_true, decide_eq_true_eq]
    exact h1
  rw [this] at h; cases h
theorem onB_1 (a b c d : Int) : onB a b c d a b = true := by
  unfold onB boxB tn
  simp only [Bool.and_eq_true, decide_eq_true_eq]
  refine ⟨by grind, ?_⟩
  omega
theorem onB_2 (a b c d : Int) : onB a b c d c d = true := by
  unfold onB boxB tn
  simp only [Bool.and_eq_true, decide_eq_true_eq]
  refine ⟨by grind, ?_⟩
  omega

/-- two different points on two segments: all is on one line (one of the four areas; the others by symmetry) -/
theorem flat_one {a b c d e f g h px py qx qy : Int} (p1 : onB a b c d px py = true) (p2 : onB e f g h px py = true) (q1 : onB a b c d qx qy = true) (q2 : onB e f g h qx qy = true) (hne : ¬ (px = qx ∧ py = qy)) :
    tn a b c d e f = 0 ∧ tn a b c d g h = 0 := by
  obtain ⟨s1, s2, s3, s4, s5⟩ := onB_t p1
  obtain ⟨t1, t2, t3, t4, t5⟩ := onB_t p2
  obtain ⟨u1, u2, u3, u4, u5⟩ := onB_t q1
  obtain ⟨v1, v2, v3, v4, v5⟩ := onB_t q2
  have n1 : (c - a) ≠ 0 ∨ (d - b) ≠ 0 := by omega
  have n2 : (g - e) ≠ 0 ∨ (h - f) ≠ 0 := by omega
  have n3 : (qx - px) ≠ 0 ∨ (qy - py) ≠ 0 := by omega
  unfold tn at *
  -- along the first line
  have k1 : (c - a) * (py - b) = (d - b) * (px - a) := by omega
  have k2 : (c - a) * (qy - py) = (d - b) * (qx - px) := by grind
  have k3 := cross_trans k1 k2 n1
  -- along the second line
  have m1 : (g - e) * (py - f) = (h - f) * (px - e) := by omega
  have m2 : (g - e) * (qy - py) = (h - f) * (qx - px) := by grind
  have m3 := cross_trans m1 m2 n2
  -- all along the difference
  have r1 : (qx - px) * (d - b) = (qy - py) * (c - a) := by grind
  have r2 : (qx - px) * (f - b) = (qy - py) * (e - a) := by grind
  have r3 : (qx - px) * (h - b) = (qy - py) * (g - a) := by grind
  have w1 := cross_trans r1 r2 n3
  have w2 := cross_trans r1 r3 n3
  exact ⟨by grind, by grind⟩
theorem flat_all {a b c d e f g h px py qx qy : Int} (p1 : onB a b c d px py = true) (p2 : onB e f g h px py = true) (q1 : onB a b c d qx qy = true) (q2 : onB e f g h qx qy = true) (hne : ¬ (px = qx ∧ py = qy)) :
    tn a b c d e f = 0 ∧ tn a b c d g h = 0 ∧ tn e f g h a b = 0 ∧ tn e f g h c d = 0 := by
  obtain ⟨h1, h2⟩ := flat_one p1 p2 q1 q2 hne
  obtain ⟨h3, h4⟩ := flat_one p2 p1 q2 q1 hne
  exact ⟨h1, h2, h3, h4⟩

/-- the place of a point in the order by x, then y -/
def kk (x y : Int) : Int := x * 1048576 + y
theorem kk_inj {a b c d : Int} (h1 : okPt a b = true) (h2 : okPt c d = true) : kk a b = kk c d ↔ a = c ∧ b = d := by
  obtain ⟨a0, a1, b0, b1⟩ := okPt_t h1
  obtain ⟨c0, c1, d0, d1⟩ := okPt_t h2
  unfold kk; omega
theorem between_x {a b c d e f : Int} (hac : a < c) (hs : (c - a) * (f - b) = (d - b) * (e - a)) (h1 : a ≤ e) (h2 : e ≤ c) : min b d ≤ f ∧ f ≤ max b d ∧ (e = a → f = b) ∧ (e = c → f = d) := by
  have h0 : 0 < c - a := by omega
  have z1 : e = a → f = b := by
    intro h
    subst h
    have : (c - e) * (f - b) = (c - e) * 0 := by rw [hs]; simp
    have := Int.eq_of_mul_eq_mul_left (by omega) this
    omega
  have z2 : e = c → f = d := by
    intro h
    subst h
    have : (e - a) * (f - b) = (e - a) * (d - b) := by rw [hs, Int.mul_comm]
    have := Int.eq_of_mul_eq_mul_left (by omega) this
    omega
  rcases Int.le_total b d with h | h
  · have g1 : 0 ≤ (d - b) * (e - a) := Int.mul_nonneg (by omega) (by omega)
    have g2 : (d - b) * (e - a) ≤ (d - b) * (c - a) := Int.mul_le_mul_of_nonneg_left (by omega) (by omega)
    have g3 : (c - a) * 0 ≤ (c - a) * (f - b) := by rw [hs]; simpa using g1
    have g4 : (c - a) * (f - b) ≤ (c - a) * (d - b) := by rw [hs, Int.mul_comm (c - a)]; exact g2
    have g5 := Int.le_of_mul_le_mul_left g3 h0
    have g6 := Int.le_of_mul_le_mul_left g4 h0
    exact ⟨by omega, by omega, z1, z2⟩
  · have g1 : 0 ≤ (b - d) * (e - a) := Int.mul_nonneg (by omega) (by omega)
    have g2 : (b - d) * (e - a) ≤ (b - d) * (c - a) := Int.mul_le_mul_of_nonneg_left (by omega) (by omega)
    have hs' : (c - a) * (b - f) = (b - d) * (e - a) := by grind
    have g3 : (c - a) * 0 ≤ (c - a) * (b - f) := by rw [hs']; simpa using g1
    have g4 : (c - a) * (b - f) ≤ (c - a) * (b - d) := by rw [hs', Int.mul_comm (c - a)]; exact g2
    have g5 := Int.le_of_mul_le_mul_left g3 h0
    have g6 := Int.le_of_mul_le_mul_left g4 h0
    exact ⟨by omega, by omega, z1, z2⟩
/-- on a line: in the box is between in the order -/
theorem on_line {a b c d e f : Int} (h1 : okPt a b = true) (h2 : okPt c d = true) (h3 : okPt e f = true) (ht : tn a b c d e f = 0) :
    onB a b c d e f = decide (min (kk a b) (kk c d) ≤ kk e f ∧ kk e f ≤ max (kk a b) (kk c d)) := by
  obtain ⟨a0, a1, b0, b1⟩ := okPt_t h1
  obtain ⟨c0, c1, d0, d1⟩ := okPt_t h2
  obtain ⟨e0, e1, f0, f1⟩ := okPt_t h3
  have hs : (c - a) * (f - b) = (d - b) * (e - a) := by unfold tn at ht; omega
  rw [Bool.eq_iff_iff]
  unfold onB boxB
  simp only [Bool.and_eq_true, decide_eq_true_eq, ht, true_and]
  unfold kk
  rcases Int.lt_trichotomy a c with h | h | h
  · by_cases hx : a ≤ e ∧ e ≤ c
    · obtain ⟨k1, k2, k3, k4⟩ := between_x h hs hx.1 hx.2
      constructor
      · intro hh
        by_cases ea : e = a
        · have := k3 ea; omega
        · by_cases ec : e = c
          · have := k4 ec; omega
          · omega
      · intro hh; omega
    · constructor
      · intro hh; omega
      · intro hh; omega
  · subst h
    have hz : (d - b) * (e - a) = 0 := by rw [← hs]; simp
    rcases Int.mul_eq_zero.mp hz with hz | hz
    · omega
    · omega
  · have hs' : (a - c) * (f - d) = (b - d) * (e - c) := by grind
    by_cases hx : c ≤ e ∧ e ≤ a
    · obtain ⟨k1, k2, k3, k4⟩ := between_x h hs' hx.1 hx.2
      constructor
      · intro hh
        by_cases ea : e = c
        · have := k3 ea; omega
        · by_cases ec : e = a
          · have := k4 ec; omega
          · omega
      · intro hh; omega
    · constructor
      · intro hh; omega
      · intro hh; omega

/-! ### the ends -/
abbrev P2 := Int × Int
/-- one more end -/
def push (good : P2 → Bool) (out : List P2) (p : P2) : List P2 := if out.contains p then out else if good p then out ++ [p] else out
def goodP (a b c d : P2) (p : P2) : Bool := onB a.1 a.2 b.1 b.2 p.1 p.2 && onB c.1 c.2 d.1 d.2 p.1 p.2
def ends (a b c d : P2) : List P2 := [a, b, c, d].foldl (push (goodP a b c d)) []
theorem push_mem (good : P2 → Bool) (out : List P2) (p q : P2) : q ∈ push good out p ↔ q ∈ out ∨ (q = p ∧ good p = true) := by
  unfold push
  by_cases h : out.contains p = true
  · rw [if_pos h]
    have hm : p ∈ out := by simpa using h
    constructor
    · intro hq; exact Or.inl hq
    · rintro (hq | ⟨rfl, _⟩)
      · exact hq
      · exact hm
  · rw [if_neg h]
    by_cases hg : good p = true
    · rw [if_pos hg]; simp [hg]
    · rw [if_neg hg]; simp [hg]
theorem fold_mem (good : P2 → Bool) (l : List P2) : ∀ (out : List P2) (q : P2), q ∈ l.foldl (push good) out ↔ q ∈ out ∨ (q ∈ l ∧ good q = true) := by
  induction l with
  | nil => intro out q; simp
  | cons p l ih =>
    intro out q
    rw [List.foldl_cons, ih, push_mem]
    constructor
    · rintro ((h | ⟨rfl, h⟩) | ⟨h, h2⟩)
      · exact Or.inl h
      · exact Or.inr ⟨by simp, h⟩
      · exact Or.inr ⟨by simp [h], h2⟩
    · rintro (h | ⟨h, h2⟩)
      · exact Or.inl (Or.inl h)
      · rcases List.mem_cons.mp h with rfl | h
        · exact Or.inl (Or.inr ⟨rfl, h2⟩)
        · exact Or.inr ⟨h, h2⟩
theorem fold_nodup (good : P2 → Bool) (l : List P2) : ∀ out : List P2, out.Nodup → (l.foldl (push good) out).Nodup := by
  induction l with
  | nil => intro out h; exact h
  | cons p l ih =>
    intro out h
    rw [List.foldl_cons]
    apply ih
    unfold push
    split
    · exact h
    · rename_i hc
      split
      · rw [List.nodup_append]
        refine ⟨h, by simp, ?_⟩
        intro x hx y hy
        have : y = p := by simpa using hy
        subst this
        intro e
        subst e
        exact hc (by simpa using hx)
      · exact h
theorem ends_mem (a b c d q : P2) : q ∈ ends a b c d ↔ q ∈ [a, b, c, d] ∧ goodP a b c d q = true := by
  unfold ends; rw [fold_mem]; simp
/-- no end is common -/
theorem ends_none {a b c d : P2} (h : ∀ q ∈ [a, b, c, d], goodP a b c d q = false) : ends a b c d = [] := by
  cases he : ends a b c d with
  | nil => rfl
  | cons x l =>
    have hm : x ∈ ends a b c d := by rw [he]; simp
    obtain ⟨h1, h2⟩ := (ends_mem a b c d x).mp hm
    rw [h x h1] at h2; cases h2
/-- one end is common -/
theorem ends_one {a b c d p : P2} (hp : p ∈ [a, b, c, d]) (hg : goodP a b c d p = true) (h : ∀ q ∈ [a, b, c, d], goodP a b c d q = true → q = p) : ends a b c d = [p] := by
  have hn : (ends a b c d).Nodup := fold_nodup _ _ _ (by simp)
  have hm : p ∈ ends a b c d := (ends_mem a b c d p).mpr ⟨hp, hg⟩
  cases he : ends a b c d with
  | nil => rw [he] at hm; simp at hm
  | cons x l =>
    have hx : x = p := by
      have hm : x ∈ ends a b c d := by rw [he]; simp
      obtain ⟨h1, h2⟩ := (ends_mem a b c d x).mp hm
      exact h x h1 h2
    subst hx
    cases l with
    | nil => rfl
    | cons y l =>
      exfalso
      have hm : y ∈ ends a b c d := by rw [he]; simp
      obtain ⟨h1, h2⟩ := (ends_mem a b c d y).mp hm
      have hy := h y h1 h2
      rw [he] at hn
      simp [hy] at hn
/-- two ends are common -/
theorem ends_two {a b c d p q : P2} (hp : p ∈ [a, b, c, d]) (hg : goodP a b c d p = true) (hq : q ∈ [a, b, c, d]) (hg2 : goodP a b c d q = true) (hne : p ≠ q) : 2 ≤ (ends a b c d).length := by
  have hm : p ∈ ends a b c d := (ends_mem a b c d p).mpr ⟨hp, hg⟩
  have hm2 : q ∈ ends a b c d := (ends_mem a b c d q).mpr ⟨hq, hg2⟩
  cases he : ends a b c d with
  | nil => rw [he] at hm; simp at hm
  | cons x l =>
    cases l with
    | nil =>
      rw [he] at hm hm2
      simp at hm hm2
      exact absurd (hm.trans hm2.symm) hne
    | cons y l => simp

/-! ### the two ways to the kind -/
def kp (p : P2) : Int := kk p.1 p.2
def okP (p : P2) : Bool := okPt p.1 p.2
def tnP (a b c : P2) : Int := tn a.1 a.2 b.1 b.2 c.1 c.2
def onP (a b c : P2) : Bool := onB a.1 a.2 b.1 b.2 c.1 c.2
def lsP (p q : P2) : P2 := if kp p ≤ kp q then p else q
def gtP (p q : P2) : P2 := if kp q ≤ kp p then p else q
def crossT (a b c d : P2) : Prop := sg (tnP a b c) * sg (tnP a b d) < 0 ∧ sg (tnP c d a) * sg (tnP c d b) < 0
instance (a b c d : P2) : Decidable (crossT a b c d) := by unfold crossT; exact inferInstance
def flatT (a b c d : P2) : Prop := tnP a b c = 0 ∧ tnP a b d = 0 ∧ tnP c d a = 0 ∧ tnP c d b = 0
instance (a b c d : P2) : Decidable (flatT a b c d) := by unfold flatT; exact inferInstance
def lowP (a b c d : P2) : P2 := gtP (lsP a b) (lsP c d)
def highP (a b c d : P2) : P2 := lsP (gtP a b) (gtP c d)
/-- the program's way -/
def meetK (a b c d : P2) : Int × P2 :=
  if flatT a b c d then
    if kp (lowP a b c d) = kp (highP a b c d) then (1, lowP a b c d) else if kp (lowP a b c d) < kp (highP a b c d) then (3, lowP a b c d) else (0, (0, 0))
  else if crossT a b c d then (2, (0, 0))
  else if onP a b c then (1, c) else if onP a b d then (1, d) else if onP c d a then (1, a) else if onP c d b then (1, b) else (0, (0, 0))
/-- the reference's way -/
def specK (a b c d : P2) : Int :=
  if (ends a b c d).length = 0 then (if crossT a b c d then 2 else 0) else if (ends a b c d).length = 1 then 1 else 3
theorem kp_inj {p q : P2} (h1 : okP p = true) (h2 : okP q = true) (h : kp p = kp q) : p = q := by
  have := (kk_inj h1 h2).mp h
  exact Prod.ext this.1 this.2
theorem sg_zero {x : Int} (h : x = 0) : sg x = 0 := by subst h; rfl
theorem goodP_eq (a b c d p : P2) : goodP a b c d p = (onP a b p && onP c d p) := rfl
theorem good_flat {a b c d p : P2} (ha : okP a = true) (hb : okP b = true) (hc : okP c = true) (hd : okP d = true) (hf : flatT a b c d) (hp : p ∈ [a, b, c, d]) :
    goodP a b c d p = true ↔ kp (lowP a b c d) ≤ kp p ∧ kp p ≤ kp (highP a b c d) := by
  obtain ⟨f1, f2, f3, f4⟩ := hf
  have hk : okP p = true ∧ tnP a b p = 0 ∧ tnP c d p = 0 := by
    simp only [List.mem_cons, List.not_mem_nil, or_false] at hp
    rcases hp with rfl | rfl | rfl | rfl
    · exact ⟨ha, by unfold tnP tn; grind, f3⟩
    · exact ⟨hb, by unfold tnP tn; grind, f4⟩
    · exact ⟨hc, f1, by unfold tnP tn; grind⟩
    · exact ⟨hd, f2, by unfold tnP tn; grind⟩
  obtain ⟨k1, k2, k3⟩ := hk
  unfold goodP
  rw [on_line ha hb k1 k2, on_line hc hd k1 k3]
  simp only [Bool.and_eq_true, decide_eq_true_eq]
  have e1 : kp (lowP a b c d) = max (min (kp a) (kp b)) (min (kp c) (kp d)) := by
    unfold lowP gtP lsP; (repeat' split) <;> omega
  have e2 : kp (highP a b c d) = min (max (kp a) (kp b)) (max (kp c) (kp d)) := by
    unfold highP gtP lsP; (repeat' split) <;> omega
  rw [e1, e2]
  show (min (kp a) (kp b) ≤ kp p ∧ kp p ≤ max (kp a) (kp b)) ∧ (min (kp c) (kp d) ≤ kp p ∧ kp p ≤ max (kp c) (kp d)) ↔ _
  omega
theorem low_mem (a b c d : P2) : lowP a b c d ∈ [a, b, c, d] := by
  unfold lowP gtP lsP; (repeat' split) <;> simp
theorem high_mem (a b c d : P2) : highP a b c d ∈ [a, b, c, d] := by
  unfold highP gtP lsP; (repeat' split) <;> simp
theorem ok_mem {a b c d p : P2} (ha : okP a = true) (hb : okP b = true) (hc : okP c = true) (hd : okP d = true) (hp : p ∈ [a, b, c, d]) : okP p = true := by
  simp only [List.mem_cons, List.not_mem_nil, or_false] at hp
  rcases hp with rfl | rfl | rfl | rfl <;> assumption
theorem one_good {a b c d p : P2} (hf : ¬ flatT a b c d) (hp : p ∈ [a, b, c, d]) (hg : goodP a b c d p = true) : ends a b c d = [p] := by
  refine ends_one hp hg fun q hq hg2 => ?_
  refine Decidable.byContradiction fun hne => hf ?_
  rw [goodP_eq, Bool.and_eq_true] at hg hg2
  have hn : ¬ (p.1 = q.1 ∧ p.2 = q.2) := fun h => hne (Prod.ext h.1 h.2).symm
  exact flat_all hg.1 hg.2 hg2.1 hg2.2 hn
theorem on_flat {a b p : P2} (h : onP a b p = true) : tnP a b p = 0 := (onB_t h).1
theorem meet_law {a b c d : P2} (ha : okP a = true) (hb : okP b = true) (hc : okP c = true) (hd : okP d = true) :
    (meetK a b c d).1 = specK a b c d ∧ ((meetK a b c d).1 = 1 → ends a b c d = [(meetK a b c d).2]) ∧ ((meetK a b c d).1 = 2 → ends a b c d = [] ∧ crossT a b c d) := by
  by_cases hf : flatT a b c d
  · have hcr : ¬ crossT a b c d := by
      intro h
      have := h.1
      rw [sg_zero hf.1] at this
      omega
    have hlo := low_mem a b c d
    have hhi := high_mem a b c d
    unfold meetK specK
    rw [if_pos hf]
    by_cases h1 : kp (lowP a b c d) = kp (highP a b c d)
    · rw [if_pos h1]
      have he : ends a b c d = [lowP a b c d] := by
        refine ends_one hlo ((good_flat ha hb hc hd hf hlo).mpr (by omega)) fun q hq hg => ?_
        have := (good_flat ha hb hc hd hf hq).mp hg
        exact kp_inj (ok_mem ha hb hc hd hq) (ok_mem ha hb hc hd hlo) (by omega)
      rw [he]
      simp
    · rw [if_neg h1]
      by_cases h2 : kp (lowP a b c d) < kp (highP a b c d)
      · rw [if_pos h2]
        have he := ends_two hlo ((good_flat ha hb hc hd hf hlo).mpr (by omega)) hhi ((good_flat ha hb hc hd hf hhi).mpr (by omega)) (fun h => h1 (by rw [h]))
        rw [if_neg (by omega), if_neg (by omega)]
        simp
      · rw [if_neg h2]
        have he : ends a b c d = [] := by
          refine ends_none fun q hq => ?_
          cases hg : goodP a b c d q with
          | false => rfl
          | true => have := (good_flat ha hb hc hd hf hq).mp hg; omega
        rw [he]
        simp [hcr]
  · unfold meetK specK
    rw [if_neg hf]
    by_cases hcr : crossT a b c d
    · rw [if_pos hcr]
      have he : ends a b c d = [] := by
        refine ends_none fun q hq => ?_
        cases hg : goodP a b c d q with
        | false => rfl
        | true =>
          exfalso
          rw [goodP_eq, Bool.and_eq_true] at hg
          obtain ⟨x1, x2⟩ := hcr
          simp only [List.mem_cons, List.not_mem_nil, or_false] at hq
          rcases hq with rfl | rfl | rfl | rfl
          · rw [sg_zero (on_flat hg.2)] at x2; omega
          · rw [sg_zero (on_flat hg.2)] at x2; omega
          · rw [sg_zero (on_flat hg.1)] at x1; omega
          · rw [sg_zero (on_flat hg.1)] at x1; omega
      rw [he]
      simp [hcr]
    · rw [if_neg hcr]
      by_cases g1 : onP a b c = true
      · rw [if_pos g1]
        have he := one_good (p := c) hf (by simp) (by rw [goodP_eq, g1]; exact onB_1 _ _ _ _)
        rw [he]; simp
      · rw [if_neg g1]
        by_cases g2 : onP a b d = true
        · rw [if_pos g2]
          have he := one_good (p := d) hf (by simp) (by rw [goodP_eq, g2]; exact onB_2 _ _ _ _)
          rw [he]; simp
        · rw [if_neg g2]
          by_cases g3 : onP c d a = true
          · rw [if_pos g3]
            have he := one_good (p := a) hf (by simp) (by rw [goodP_eq, g3, Bool.and_true]; exact onB_1 _ _ _ _)
            rw [he]; simp
          · rw [if_neg g3]
            by_cases g4 : onP c d b = true
            · rw [if_pos g4]
              have he := one_good (p := b) hf (by simp) (by rw [goodP_eq, g4, Bool.and_true]; exact onB_2 _ _ _ _)
              rw [he]; simp
            · rw [if_neg g4]
              have he : ends a b c d = [] := by
                refine ends_none fun q hq => ?_
                cases hg : goodP a b c d q with
                | false => rfl
                | true =>
                  exfalso
                  rw [goodP_eq, Bool.and_eq_true] at hg
                  simp only [List.mem_cons, List.not_mem_nil, or_false] at hq
                  rcases hq with rfl | rfl | rfl | rfl
                  · exact g3 hg.2
                  · exact g4 hg.2
                  · exact g1 hg.1
                  · exact g2 hg.1
              rw [he]
              simp [hcr]
end Go.Proofs.Ythellegojnndlaa
