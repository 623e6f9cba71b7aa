/-
  The law FnFractions. Conditions: what the slice holds.
-/
import Derived.Test.YthellegojnndlaaDraw
import Derived.Test.YthellegojnndlaaFrLaw
import Derived.Test.YthellegojnndlaaRfs
import Derived.BigRegion
import Derived.Deep.DeepCutAuto
namespace Go.Proofs.Ythellegojnndlaa
open Go.RowKit Go.Sort
set_option linter.unusedVariables false
attribute [local go_sem] cell_grow frozen_grow
theorem r_bound {R q p : Int} (h1 : 1 ≤ q) (h2 : q ≤ 1000000) (hp : -1000000000 ≤ p) (hp2 : p ≤ 1000000000) (h3 : 2 * (R * q - p) ≤ q) (h4 : -q < 2 * (R * q - p)) : -2000000000 ≤ R ∧ R ≤ 2000000000 := by
  have e : R * (q - 1) = R * q - R := by rw [Int.mul_sub, Int.mul_one]
  constructor
  · rcases Int.le_total 0 R with h | h
    · omega
    · have := Int.mul_nonneg (Int.neg_nonneg_of_nonpos h) (show 0 ≤ q - 1 by omega)
      rw [Int.neg_mul] at this
      omega
  · rcases Int.le_total 0 R with h | h
    · have := Int.mul_nonneg h (show 0 ≤ q - 1 by omega)
      omega
    · omega
theorem frT_app (a b : ByteArray) : (a ++ b).size = a.size + b.size := by
  obtain ⟨⟨l⟩⟩ := a
  obtain ⟨⟨m⟩⟩ := b
  simp [ByteArray.size]
theorem frT_size (n d : Int) (h : okFr n d = true) : (fracText n d).size ≤ 1048576 := by
  obtain ⟨a, b, c, e, _⟩ := okFr_t h
  have h1 := decB_size (n := n) (by omega) (by omega)
  have h2 := decB_size (n := d) (by omega) (by omega)
  have : (⟨#[47]⟩ : ByteArray).size = 1 := rfl
  unfold fracText
  rw [h]
  show (ftB n d).size ≤ 1048576
  unfold ftB
  split
  · omega
  · rw [frT_app, frT_app]
    omega
set_option maxRecDepth 100000 in
theorem a2Long_any (A : Option Addr) (n c : Nat) (hn : n ≤ maxLen) (w : World) : Calls Try.prog 38 #[.slice A n c, .slice none 0 0] w fun e w' => e = .returned (.bool (decide (3000 < n))) ∧ w = w' := by
  simp only [maxLen] at hn
  by_cases h : 3000 < n
  · have d1 : decide ((3000 : Int) < (n : Int)) = true := by simp; omega
    go_enter Try.func38, Try.ntmps38
    go_wp2
    go_ret
    exact ⟨by simp [h], rfl⟩
  · have d1 : decide ((3000 : Int) < (n : Int)) = false := by simp; omega
    go_enter Try.func38, Try.ntmps38
    go_wp2
    go_ret
    exact ⟨by simp [h], rfl⟩
set_option maxRecDepth 100000 in
set_option maxHeartbeats 64000000 in
theorem fnFractions (A : Option Addr) (n c : Nat) (w : World) (hC : CodeAt w w.heap.size A n) : Calls Try.prog 11 #[.slice A n c] w fun e w' => e = .returned (.bool true) ∧ Below w.heap.size w w' := by
  have HL := a2Long_any A n c hC.1
  have HC := hide (fun W (hW : Below w.heap.size w W) => a2Fracs_any A n c W (hC.up hW.size (fun g hg => hW.block g hg)))
  clear hC
  by_cases h3 : 3000 < n
  · rw [decide_eq_true h3] at HL
    go_enter Try.func11, Try.ntmps11
    go_wp2_with (first | (go_at_call 38; (with_reducible refine (HL _).mono ?_); rintro e w1 ⟨rfl, rfl⟩))
    go_ret
    exact ⟨rfl, Below.refl _ _⟩
  rw [decide_eq_false h3] at HL
  go_enter Try.func11, Try.ntmps11
  go_wp2_with (first | (go_at_call 38; (with_reducible refine (HL _).mono ?_); rintro e w1 ⟨rfl, rfl⟩))
  (with_reducible refine (HC.out _ (Below.refl _ _)).mono ?_)
  rintro e v0 ⟨p, q, r, s, rfl, h1, h2, B0⟩
  clear HL HC h3
  obtain ⟨q1, q2, p1, p2, _⟩ := okFr_t h1
  obtain ⟨s1, s2, r1, r2, _⟩ := okFr_t h2
  have HA := addFrac_i p q r s (by omega) (by omega) (by omega) (by omega)
  have HM := mulFrac_i p q r s (by omega) (by omega) (by omega) (by omega)
  have HS := subFrac_i p q r s (by omega) (by omega) (by omega) (by omega)
  have HK := compareFrac_i p q r s (by omega) (by omega) (by omega) (by omega)
  have HR := roundFrac_i p q (by omega) (by omega)
  have HF := floorFrac_i p q (by omega) (by omega)
  have HX0 := mixFrac_i p q r s 0 1 (by omega) (by omega) (by omega) (by omega) (by decide) (by decide)
  have HX1 := mixFrac_i p q r s 1 1 (by omega) (by omega) (by omega) (by omega) (by decide) (by decide)
  have HSC := scaleFrac_i p 1 1 (by decide) (by decide)
  obtain ⟨sc1, sc2⟩ := scale_unit h1
  rw [sc1, sc2] at HSC
  have HT := fracText_i p q (by omega) (by omega)
  obtain ⟨t1, t2, t3⟩ := rf_back h1
  have HRF := readFrac_i (fracText p q) (frT_size p q h1)
  rw [show rfT (fracText p q) = .tuple #[.agg #[.int .i64 p, .int .i64 q], .bool true] by unfold rfT; rw [t1, t2, t3]; rfl] at HRF
  generalize fracText p q = tx at *
  clear sc1 sc2 t1 t2 t3
  go_wp2_with fail
  (with_reducible refine (HA _).mono ?_)
  rintro e v1 ⟨rfl, hb1⟩
  have z1 : v0.heap.size + 2 ≤ v1.heap.size := by have h := hb1.size; simpa using h
  have a1 : v1.heap[v0.heap.size]? = some (.cells #[.int .i64 p, .int .i64 q] 43 (0, 0)) := (hb1.block _ (by first | omega | (simp <;> omega))).trans ((ug_old _ _ (by first | omega | (simp <;> omega))).trans (ug_new _ _ rfl))
  have b1 : v1.heap[v0.heap.size + 1]? = some (.cells #[.int .i64 r, .int .i64 s] 43 (0, 0)) := (hb1.block _ (by first | omega | (simp <;> omega))).trans (ug_new _ _ (by simp))
  have B1 : Below w.heap.size w v1 := bl_call (by repeat (first | (with_reducible refine bl_set ?_ (by simp <;> omega) _) | (with_reducible refine bl_alloc ?_ (Nat.le_refl _) _) | (with_reducible refine Below.drew ?_) | (with_reducible assumption) | (with_reducible exact Below.refl _ _))) hb1
  clear hb1  B0
  have ka1 := ug_cell a1
  have qa1 : v0.heap.size < v1.heap.size := (Array.getElem?_eq_some_iff.1 a1).1
  have ra1 : v0.heap.size < v1.heap.size + 1 := by omega
  have kb1 := ug_cell b1
  have qb1 : v0.heap.size + 1 < v1.heap.size := (Array.getElem?_eq_some_iff.1 b1).1
  have rb1 : v0.heap.size + 1 < v1.heap.size + 1 := by omega
  have zw1 : w.heap.size ≤ v1.heap.size := B1.size
  go_upto_if 39 with fail
  go_cut [7, 8] (fun s7 s8 wx => Below w.heap.size w wx ∧ v1.heap.size + 1 ≤ wx.heap.size ∧ wx.heap[v0.heap.size]? = some (.cells #[.int .i64 p, .int .i64 q] 43 (0, 0)) ∧ wx.heap[v0.heap.size + 1]? = some (.cells #[.int .i64 r, .int .i64 s] 43 (0, 0)) ∧ wx.heap[v1.heap.size]? = some (.cells #[.int .i64 (addN p q r s), .int .i64 (addD p q r s)] 43 (0, 0)))
  case first => as_aux_lemma =>
    by_cases hA : addC p q r s = 0
    · have e1 : (addC p q r s == 0) = true := by simp [hA]
      obtain ⟨b1, b2, b3⟩ := add_sub_back h1 h2 hA
      obtain ⟨okx, _⟩ := addV h1 h2 hA
      obtain ⟨_, _, y1, y2, _⟩ := okFr_t okx
      have HS2 := subFrac_i (addN p q r s) (addD p q r s) r s (by omega) (by omega) (by omega) (by omega)
      have HV := validFrac_s (addN p q r s) (addD p q r s) (by omega) (by omega)
      rw [b1, b2, b3] at HS2
      rw [okx] at HV
      clear b1 b2 b3 okx hA HA HM HS HK HR HF HX0 HX1 HSC HT HRF
      go_wp2_with fail
      (with_reducible refine (HS2 _).mono ?_)
      rintro e v2 ⟨rfl, hb2⟩
      have z2 : v1.heap.size + 1 ≤ v2.heap.size := by have h := hb2.size; simpa using h
      have a2 : v2.heap[v0.heap.size]? = some (.cells #[.int .i64 p, .int .i64 q] 43 (0, 0)) := (hb2.block _ (by first | omega | (simp <;> omega))).trans ((ug_old _ _ (by first | omega | (simp <;> omega))).trans (a1))
      have b2 : v2.heap[v0.heap.size + 1]? = some (.cells #[.int .i64 r, .int .i64 s] 43 (0, 0)) := (hb2.block _ (by first | omega | (simp <;> omega))).trans ((ug_old _ _ (by first | omega | (simp <;> omega))).trans (b1))
      have x2 : v2.heap[v1.heap.size]? = some (.cells #[.int .i64 (addN p q r s), .int .i64 (addD p q r s)] 43 (0, 0)) := (hb2.block _ (by first | omega | (simp <;> omega))).trans (ug_new _ _ rfl)
      have B2 : Below w.heap.size w v2 := bl_call (by repeat (first | (with_reducible refine bl_set ?_ (by simp <;> omega) _) | (with_reducible refine bl_alloc ?_ (Nat.le_refl _) _) | (with_reducible refine Below.drew ?_) | (with_reducible assumption) | (with_reducible exact Below.refl _ _))) hb2
      clear hb2 ka1 qa1 ra1 a1 kb1 qb1 rb1 b1 B1
      have ka2 := ug_cell a2
      have qa2 : v0.heap.size < v2.heap.size := (Array.getElem?_eq_some_iff.1 a2).1
      have ra2 : v0.heap.size < v2.heap.size + 1 := by omega
      have kb2 := ug_cell b2
      have qb2 : v0.heap.size + 1 < v2.heap.size := (Array.getElem?_eq_some_iff.1 b2).1
      have rb2 : v0.heap.size + 1 < v2.heap.size + 1 := by omega
      have kx2 := ug_cell x2
      have qx2 : v1.heap.size < v2.heap.size := (Array.getElem?_eq_some_iff.1 x2).1
      have rx2 : v1.heap.size < v2.heap.size + 1 := by omega
      have fx2 := ug_frozen x2
      go_wp2_with fail
      (with_reducible refine (HV _).mono ?_)
      rintro e v3 ⟨rfl, hb3⟩
      have z3 : v2.heap.size + 1 ≤ v3.heap.size := by have h := hb3.size; simpa using h
      have a3 : v3.heap[v0.heap.size]? = some (.cells #[.int .i64 p, .int .i64 q] 43 (0, 0)) := (hb3.block _ (by first | omega | (simp <;> omega))).trans ((ug_old _ _ (by first | omega | (simp <;> omega))).trans (a2))
      have b3 : v3.heap[v0.heap.size + 1]? = some (.cells #[.int .i64 r, .int .i64 s] 43 (0, 0)) := (hb3.block _ (by first | omega | (simp <;> omega))).trans ((ug_old _ _ (by first | omega | (simp <;> omega))).trans (b2))
      have x3 : v3.heap[v1.heap.size]? = some (.cells #[.int .i64 (addN p q r s), .int .i64 (addD p q r s)] 43 (0, 0)) := (hb3.block _ (by first | omega | (simp <;> omega))).trans ((ug_old _ _ (by first | omega | (simp <;> omega))).trans (x2))
      have y3 : v3.heap[v2.heap.size]? = some (.cells #[.int .i64 p, .int .i64 q] 43 (0, 0)) := (hb3.block _ (by first | omega | (simp <;> omega))).trans (ug_new _ _ rfl)
      have B3 : Below w.heap.size w v3 := bl_call (by repeat (first | (with_reducible refine bl_set ?_ (by simp <;> omega) _) | (with_reducible refine bl_alloc ?_ (Nat.le_refl _) _) | (with_reducible refine Below.drew ?_) | (with_reducible assumption) | (with_reducible exact Below.refl _ _))) hb3
      clear hb3 ka2 qa2 ra2 a2 kb2 qb2 rb2 b2 kx2 qx2 rx2 x2 fx2 B2
      have ka3 := ug_cell a3
      have qa3 : v0.heap.size < v3.heap.size := (Array.getElem?_eq_some_iff.1 a3).1
      have ra3 : v0.heap.size < v3.heap.size + 1 := by omega
      have kb3 := ug_cell b3
      have qb3 : v0.heap.size + 1 < v3.heap.size := (Array.getElem?_eq_some_iff.1 b3).1
      have rb3 : v0.heap.size + 1 < v3.heap.size + 1 := by omega
      have kx3 := ug_cell x3
      have qx3 : v1.heap.size < v3.heap.size := (Array.getElem?_eq_some_iff.1 x3).1
      have rx3 : v1.heap.size < v3.heap.size + 1 := by omega
      have fx3 := ug_frozen x3
      have ky3 := ug_cell y3
      have qy3 : v2.heap.size < v3.heap.size := (Array.getElem?_eq_some_iff.1 y3).1
      have ry3 : v2.heap.size < v3.heap.size + 1 := by omega
      go_wp2
      go_meet
      case rel => exact ⟨B3, by omega, a3, b3, x3⟩
    · have e1 : (addC p q r s == 0) = false := by simpa using hA
      clear hA HA HM HS HK HR HF HX0 HX1 HSC HT HRF
      go_wp2
      go_meet
      case rel => exact ⟨(by repeat (first | (with_reducible refine bl_set ?_ (by simp <;> omega) _) | (with_reducible refine bl_alloc ?_ (Nat.le_refl _) _) | (with_reducible refine Below.drew ?_) | (with_reducible assumption) | (with_reducible exact Below.refl _ _))), by simp, (ug_old _ _ (by first | omega | (simp <;> omega))).trans (a1), (ug_old _ _ (by first | omega | (simp <;> omega))).trans (b1), ug_new _ _ rfl⟩
  case rest => as_aux_lemma =>
  obtain ⟨hB, hz, oa, ob, ox⟩ := hcut
  obtain ⟨vB, rfl⟩ : ∃ vB, vB = wc := ⟨_, rfl⟩
  clear ka1 qa1 ra1 a1 kb1 qb1 rb1 b1 B1
  have a20 := oa
  have b20 := ob
  have x20 := ox
  have ka20 := ug_cell a20
  have qa20 : v0.heap.size < vB.heap.size := (Array.getElem?_eq_some_iff.1 a20).1
  have ra20 : v0.heap.size < vB.heap.size + 1 := by omega
  have kb20 := ug_cell b20
  have qb20 : v0.heap.size + 1 < vB.heap.size := (Array.getElem?_eq_some_iff.1 b20).1
  have rb20 : v0.heap.size + 1 < vB.heap.size + 1 := by omega
  have kx20 := ug_cell x20
  have qx20 : v1.heap.size < vB.heap.size := (Array.getElem?_eq_some_iff.1 x20).1
  have rx20 : v1.heap.size < vB.heap.size + 1 := by omega
  have fx20 := ug_frozen x20
  clear oa ob ox
  go_wp2_with fail
  (with_reducible refine (HM _).mono ?_)
  rintro e v21 ⟨rfl, hb21⟩
  have z21 : vB.heap.size + 0 ≤ v21.heap.size := by have h := hb21.size; simpa using h
  have a21 : v21.heap[v0.heap.size]? = some (.cells #[.int .i64 p, .int .i64 q] 43 (0, 0)) := (hb21.block _ (by first | omega | (simp <;> omega))).trans (a20)
  have b21 : v21.heap[v0.heap.size + 1]? = some (.cells #[.int .i64 r, .int .i64 s] 43 (0, 0)) := (hb21.block _ (by first | omega | (simp <;> omega))).trans (b20)
  have x21 : v21.heap[v1.heap.size]? = some (.cells #[.int .i64 (addN p q r s), .int .i64 (addD p q r s)] 43 (0, 0)) := (hb21.block _ (by first | omega | (simp <;> omega))).trans (x20)
  have B21 : Below w.heap.size w v21 := bl_call (by repeat (first | (with_reducible refine bl_set ?_ (by simp <;> omega) _) | (with_reducible refine bl_alloc ?_ (Nat.le_refl _) _) | (with_reducible refine Below.drew ?_) | (with_reducible assumption) | (with_reducible exact Below.refl _ _))) hb21
  clear hb21 ka20 qa20 ra20 a20 kb20 qb20 rb20 b20 kx20 qx20 rx20 x20 fx20
  have ka21 := ug_cell a21
  have qa21 : v0.heap.size < v21.heap.size := (Array.getElem?_eq_some_iff.1 a21).1
  have ra21 : v0.heap.size < v21.heap.size + 1 := by omega
  have kb21 := ug_cell b21
  have qb21 : v0.heap.size + 1 < v21.heap.size := (Array.getElem?_eq_some_iff.1 b21).1
  have rb21 : v0.heap.size + 1 < v21.heap.size + 1 := by omega
  have kx21 := ug_cell x21
  have qx21 : v1.heap.size < v21.heap.size := (Array.getElem?_eq_some_iff.1 x21).1
  have rx21 : v1.heap.size < v21.heap.size + 1 := by omega
  have fx21 := ug_frozen x21
  go_upto_region 10 with fail
  go_cut [70] (fun s70 wx => s70 = .bool (decide (mulC p q r s = 0 ∧ r ≠ 0)) ∧ ((v21.setCell ⟨v1.heap.size, 0, none⟩ (.int .i64 (mulN p q r s))).setCell ⟨v1.heap.size, 1, none⟩ (.int .i64 (mulD p q r s))) = wx)
  case first => as_aux_lemma =>
    clear HA HM HS HK HR HF HX0 HX1 HSC HT HRF
    by_cases hM : mulC p q r s = 0
    · have e1 : (mulC p q r s == 0) = true := by simp [hM]
      by_cases hr : r = 0
      · have e2 : (r != 0) = false := by simp [hr]
        have e3 := hide (show decide (mulC p q r s = 0 ∧ r ≠ 0) = false by simp [hr])
        clear hM hr
        go_wp2
        go_meet
        case rel => exact ⟨by rw [e3.out], rfl⟩
      · have e2 : (r != 0) = true := by simpa using hr
        have e3 := hide (show decide (mulC p q r s = 0 ∧ r ≠ 0) = true by simp [hM, hr])
        clear hM hr
        go_wp2
        go_meet
        case rel => exact ⟨by rw [e3.out], rfl⟩
    · have e1 : (mulC p q r s == 0) = false := by simpa using hM
      have e3 := hide (show decide (mulC p q r s = 0 ∧ r ≠ 0) = false by simp [hM])
      clear hM
      go_wp2
      go_meet
      case rel => exact ⟨by rw [e3.out], rfl⟩
  case rest => as_aux_lemma =>
  obtain ⟨rfl, rfl⟩ := hcut
  go_upto_if 70 with fail
  go_cut [9, 10] (fun s9 s10 wx => Below w.heap.size w wx ∧ v1.heap.size + 1 ≤ wx.heap.size ∧ wx.heap[v0.heap.size]? = some (.cells #[.int .i64 p, .int .i64 q] 43 (0, 0)) ∧ wx.heap[v0.heap.size + 1]? = some (.cells #[.int .i64 r, .int .i64 s] 43 (0, 0)))
  case first => as_aux_lemma =>
    by_cases hM : mulC p q r s = 0 ∧ r ≠ 0
    · rw [decide_eq_true hM]
      obtain ⟨b1, b2, b3⟩ := mul_div_back h1 h2 hM.2 hM.1
      obtain ⟨okx, _⟩ := mulV h1 h2 hM.1
      obtain ⟨_, _, y1, y2, _⟩ := okFr_t okx
      have HD := divFrac_i (mulN p q r s) (mulD p q r s) r s (by omega) (by omega) (by omega) (by omega)
      rw [b1, b2, b3] at HD
      clear b1 b2 b3 okx hM HA HM HS HK HR HF HX0 HX1 HSC HT HRF
      go_wp2_with fail
      (with_reducible refine (HD _).mono ?_)
      rintro e v22 ⟨rfl, hb22⟩
      have z22 : v21.heap.size + 0 ≤ v22.heap.size := by have h := hb22.size; simpa [World.setCell] using h
      have a22 : v22.heap[v0.heap.size]? = some (.cells #[.int .i64 p, .int .i64 q] 43 (0, 0)) := (hb22.block _ (by first | omega | (simp [World.setCell] <;> omega))).trans ((Below.heap_setCell _ _ _ _ (by show v0.heap.size ≠ v1.heap.size; omega)).trans ((Below.heap_setCell _ _ _ _ (by show v0.heap.size ≠ v1.heap.size; omega)).trans (a21)))
      have b22 : v22.heap[v0.heap.size + 1]? = some (.cells #[.int .i64 r, .int .i64 s] 43 (0, 0)) := (hb22.block _ (by first | omega | (simp [World.setCell] <;> omega))).trans ((Below.heap_setCell _ _ _ _ (by show v0.heap.size + 1 ≠ v1.heap.size; omega)).trans ((Below.heap_setCell _ _ _ _ (by show v0.heap.size + 1 ≠ v1.heap.size; omega)).trans (b21)))
      have B22 : Below w.heap.size w v22 := bl_call (by repeat (first | (with_reducible refine bl_set ?_ (by simp <;> omega) _) | (with_reducible refine bl_alloc ?_ (Nat.le_refl _) _) | (with_reducible refine Below.drew ?_) | (with_reducible assumption) | (with_reducible exact Below.refl _ _))) hb22
      clear hb22 ka21 qa21 ra21 a21 kb21 qb21 rb21 b21 kx21 qx21 rx21 x21 fx21 B21
      have ka22 := ug_cell a22
      have qa22 : v0.heap.size < v22.heap.size := (Array.getElem?_eq_some_iff.1 a22).1
      have ra22 : v0.heap.size < v22.heap.size + 1 := by omega
      have kb22 := ug_cell b22
      have qb22 : v0.heap.size + 1 < v22.heap.size := (Array.getElem?_eq_some_iff.1 b22).1
      have rb22 : v0.heap.size + 1 < v22.heap.size + 1 := by omega
      go_wp2
      go_meet
      case rel => exact ⟨(by repeat (first | (with_reducible refine bl_set ?_ (by simp <;> omega) _) | (with_reducible refine bl_alloc ?_ (Nat.le_refl _) _) | (with_reducible refine Below.drew ?_) | (with_reducible assumption) | (with_reducible exact Below.refl _ _))), by simp; omega, (ug_old _ _ (by first | omega | (simp <;> omega))).trans (a22), (ug_old _ _ (by first | omega | (simp <;> omega))).trans (b22)⟩
    · rw [decide_eq_false hM]
      clear hM HA HM HS HK HR HF HX0 HX1 HSC HT HRF
      go_wp2
      go_meet
      case rel => exact ⟨(by repeat (first | (with_reducible refine bl_set ?_ (by simp <;> omega) _) | (with_reducible refine bl_alloc ?_ (Nat.le_refl _) _) | (with_reducible refine Below.drew ?_) | (with_reducible assumption) | (with_reducible exact Below.refl _ _))), by simp [World.setCell]; omega, (Below.heap_setCell _ _ _ _ (by show v0.heap.size ≠ v1.heap.size; omega)).trans ((Below.heap_setCell _ _ _ _ (by show v0.heap.size ≠ v1.heap.size; omega)).trans (a21)), (Below.heap_setCell _ _ _ _ (by show v0.heap.size + 1 ≠ v1.heap.size; omega)).trans ((Below.heap_setCell _ _ _ _ (by show v0.heap.size + 1 ≠ v1.heap.size; omega)).trans (b21))⟩
  case rest => as_aux_lemma =>
  obtain ⟨hB, hz2, oa, ob⟩ := hcut
  obtain ⟨vC, rfl⟩ : ∃ vC, vC = wc := ⟨_, rfl⟩
  clear ka21 qa21 ra21 a21 kb21 qb21 rb21 b21 kx21 qx21 rx21 x21 fx21 B21 HA HM
  have a40 := oa
  have b40 := ob
  have ka40 := ug_cell a40
  have qa40 : v0.heap.size < vC.heap.size := (Array.getElem?_eq_some_iff.1 a40).1
  have ra40 : v0.heap.size < vC.heap.size + 1 := by omega
  have kb40 := ug_cell b40
  have qb40 : v0.heap.size + 1 < vC.heap.size := (Array.getElem?_eq_some_iff.1 b40).1
  have rb40 : v0.heap.size + 1 < vC.heap.size + 1 := by omega
  clear oa ob
  go_wp2_with fail
  (with_reducible refine (HS _).mono ?_)
  rintro e v41 ⟨rfl, hb41⟩
  have z41 : vC.heap.size + 0 ≤ v41.heap.size := by have h := hb41.size; simpa using h
  have a41 : v41.heap[v0.heap.size]? = some (.cells #[.int .i64 p, .int .i64 q] 43 (0, 0)) := (hb41.block _ (by first | omega | (simp <;> omega))).trans (a40)
  have b41 : v41.heap[v0.heap.size + 1]? = some (.cells #[.int .i64 r, .int .i64 s] 43 (0, 0)) := (hb41.block _ (by first | omega | (simp <;> omega))).trans (b40)
  have B41 : Below w.heap.size w v41 := bl_call (by repeat (first | (with_reducible refine bl_set ?_ (by simp <;> omega) _) | (with_reducible refine bl_alloc ?_ (Nat.le_refl _) _) | (with_reducible refine Below.drew ?_) | (with_reducible assumption) | (with_reducible exact Below.refl _ _))) hb41
  clear hb41 ka40 qa40 ra40 a40 kb40 qb40 rb40 b40
  have ka41 := ug_cell a41
  have qa41 : v0.heap.size < v41.heap.size := (Array.getElem?_eq_some_iff.1 a41).1
  have ra41 : v0.heap.size < v41.heap.size + 1 := by omega
  have kb41 := ug_cell b41
  have qb41 : v0.heap.size + 1 < v41.heap.size := (Array.getElem?_eq_some_iff.1 b41).1
  have rb41 : v0.heap.size + 1 < v41.heap.size + 1 := by omega
  go_wp2_with fail
  (with_reducible refine (HK _).mono ?_)
  rintro e v42 ⟨rfl, hb42⟩
  have z42 : v41.heap.size + 1 ≤ v42.heap.size := by have h := hb42.size; simpa using h
  have a42 : v42.heap[v0.heap.size]? = some (.cells #[.int .i64 p, .int .i64 q] 43 (0, 0)) := (hb42.block _ (by first | omega | (simp <;> omega))).trans ((ug_old _ _ (by first | omega | (simp <;> omega))).trans (a41))
  have b42 : v42.heap[v0.heap.size + 1]? = some (.cells #[.int .i64 r, .int .i64 s] 43 (0, 0)) := (hb42.block _ (by first | omega | (simp <;> omega))).trans ((ug_old _ _ (by first | omega | (simp <;> omega))).trans (b41))
  have d42 : v42.heap[v41.heap.size]? = some (.cells #[.int .i64 (subN p q r s), .int .i64 (subD p q r s)] 43 (0, 0)) := (hb42.block _ (by first | omega | (simp <;> omega))).trans (ug_new _ _ rfl)
  have B42 : Below w.heap.size w v42 := bl_call (by repeat (first | (with_reducible refine bl_set ?_ (by simp <;> omega) _) | (with_reducible refine bl_alloc ?_ (Nat.le_refl _) _) | (with_reducible refine Below.drew ?_) | (with_reducible assumption) | (with_reducible exact Below.refl _ _))) hb42
  clear hb42 ka41 qa41 ra41 a41 kb41 qb41 rb41 b41 B41
  have ka42 := ug_cell a42
  have qa42 : v0.heap.size < v42.heap.size := (Array.getElem?_eq_some_iff.1 a42).1
  have ra42 : v0.heap.size < v42.heap.size + 1 := by omega
  have kb42 := ug_cell b42
  have qb42 : v0.heap.size + 1 < v42.heap.size := (Array.getElem?_eq_some_iff.1 b42).1
  have rb42 : v0.heap.size + 1 < v42.heap.size + 1 := by omega
  have kd42 := ug_cell d42
  have qd42 : v41.heap.size < v42.heap.size := (Array.getElem?_eq_some_iff.1 d42).1
  have rd42 : v41.heap.size < v42.heap.size + 1 := by omega
  go_upto_region 16 with fail
  go_cut [110] (fun s110 wx => s110 = .bool false ∧ v42 = wx)
  case first => as_aux_lemma =>
    have f0 := fun h => cmp_sub h1 h2 h
    have f2 := cmp_eq h1 h2
    by_cases hS : subC p q r s = 0
    · have e1 : (subC p q r s == 0) = true := by simp [hS]
      have f1 := f0 hS
      clear f0 hS HS HK HR HF HX0 HX1 HSC HT HRF
      generalize cmpR p q r s = c at *
      generalize subN p q r s = d at *
      by_cases hp : p = r
      · subst hp
        by_cases hq : q = s
        · subst hq
          have e2 : c = 0 := by simpa using f2
          subst e2
          have e3 : decide (0 < d) = false := by rw [← f1]; rfl
          clear f1 f2
          go_wp2
          go_meet
          case rel => exact ⟨rfl, rfl⟩
        · have e2 : (c == 0) = false := by
            have : ¬ c = 0 := fun h => by rw [decide_eq_true h] at f2; exact hq (of_decide_eq_true f2.symm).2
            simpa using this
          have e4 : (q == s) = false := by simpa using hq
          cases e3 : decide (0 < d)
          · rw [e3] at f1
            clear f2
            go_wp2
            go_meet
            case rel => exact ⟨rfl, rfl⟩
          · rw [e3] at f1
            clear f2
            go_wp2
            go_meet
            case rel => exact ⟨rfl, rfl⟩
      · have e2 : (c == 0) = false := by
          have : ¬ c = 0 := fun h => by rw [decide_eq_true h] at f2; exact hp (of_decide_eq_true f2.symm).1
          simpa using this
        have e4 : (p == r) = false := by simpa using hp
        cases e3 : decide (0 < d)
        · rw [e3] at f1
          clear f2
          go_wp2
          go_meet
          case rel => exact ⟨rfl, rfl⟩
        · rw [e3] at f1
          clear f2
          go_wp2
          go_meet
          case rel => exact ⟨rfl, rfl⟩
    · have e1 : (subC p q r s == 0) = false := by simpa using hS
      clear hS f0 HS HK HR HF HX0 HX1 HSC HT HRF
      generalize cmpR p q r s = c at *
      by_cases hp : p = r
      · subst hp
        by_cases hq : q = s
        · subst hq
          have e2 : c = 0 := by simpa using f2
          subst e2
          clear f2
          go_wp2
          go_meet
          case rel => exact ⟨rfl, rfl⟩
        · have e2 : (c == 0) = false := by
            have : ¬ c = 0 := fun h => by rw [decide_eq_true h] at f2; exact hq (of_decide_eq_true f2.symm).2
            simpa using this
          have e4 : (q == s) = false := by simpa using hq
          clear f2
          go_wp2
          go_meet
          case rel => exact ⟨rfl, rfl⟩
      · have e2 : (c == 0) = false := by
          have : ¬ c = 0 := fun h => by rw [decide_eq_true h] at f2; exact hp (of_decide_eq_true f2.symm).1
          simpa using this
        have e4 : (p == r) = false := by simpa using hp
        clear f2
        go_wp2
        go_meet
        case rel => exact ⟨rfl, rfl⟩
  case rest => as_aux_lemma =>
  obtain ⟨rfl, rfl⟩ := hcut

  obtain ⟨n1, n2, n3, n4⟩ := round_near h1
  obtain ⟨b1, b2⟩ := r_bound q1 q2 p1 p2 n1 n2
  have X0 := fun h => mix_zero h1 h2 h
  have X1 := fun h => mix_one h1 h2 h
  generalize roundR p q = R at *
  generalize floorR p q = F at *
  have m1 : -9223372036854775808 ≤ R * q := by omega
  have m2 : R * q ≤ 9223372036854775807 := by omega
  have g1 : decide (q < 2 * (R * q - p)) = false := by simp; omega
  have g2 : decide (2 * (R * q - p) ≤ -q) = false := by simp; omega
  have g3 : decide (R < F) = false := by simp; omega
  have g4 : decide (F + 1 < R) = false := by simp; omega
  clear HS HK
  go_wp2_with fail
  (with_reducible refine (HR _).mono ?_)
  rintro e v43 ⟨rfl, hb43⟩
  have z43 : v42.heap.size + 0 ≤ v43.heap.size := by have h := hb43.size; simpa using h
  have a43 : v43.heap[v0.heap.size]? = some (.cells #[.int .i64 p, .int .i64 q] 43 (0, 0)) := (hb43.block _ (by first | omega | (simp <;> omega))).trans (a42)
  have b43 : v43.heap[v0.heap.size + 1]? = some (.cells #[.int .i64 r, .int .i64 s] 43 (0, 0)) := (hb43.block _ (by first | omega | (simp <;> omega))).trans (b42)
  have B43 : Below w.heap.size w v43 := bl_call (by repeat (first | (with_reducible refine bl_set ?_ (by simp <;> omega) _) | (with_reducible refine bl_alloc ?_ (Nat.le_refl _) _) | (with_reducible refine Below.drew ?_) | (with_reducible assumption) | (with_reducible exact Below.refl _ _))) hb43
  clear hb43 ka42 qa42 ra42 a42 kb42 qb42 rb42 b42 kd42 qd42 rd42 d42 B42
  have ka43 := ug_cell a43
  have qa43 : v0.heap.size < v43.heap.size := (Array.getElem?_eq_some_iff.1 a43).1
  have ra43 : v0.heap.size < v43.heap.size + 1 := by omega
  have kb43 := ug_cell b43
  have qb43 : v0.heap.size + 1 < v43.heap.size := (Array.getElem?_eq_some_iff.1 b43).1
  have rb43 : v0.heap.size + 1 < v43.heap.size + 1 := by omega
  go_wp2_with fail
  (with_reducible refine (HF _).mono ?_)
  rintro e v44 ⟨rfl, hb44⟩
  have z44 : v43.heap.size + 0 ≤ v44.heap.size := by have h := hb44.size; simpa using h
  have a44 : v44.heap[v0.heap.size]? = some (.cells #[.int .i64 p, .int .i64 q] 43 (0, 0)) := (hb44.block _ (by first | omega | (simp <;> omega))).trans (a43)
  have b44 : v44.heap[v0.heap.size + 1]? = some (.cells #[.int .i64 r, .int .i64 s] 43 (0, 0)) := (hb44.block _ (by first | omega | (simp <;> omega))).trans (b43)
  have B44 : Below w.heap.size w v44 := bl_call (by repeat (first | (with_reducible refine bl_set ?_ (by simp <;> omega) _) | (with_reducible refine bl_alloc ?_ (Nat.le_refl _) _) | (with_reducible refine Below.drew ?_) | (with_reducible assumption) | (with_reducible exact Below.refl _ _))) hb44
  clear hb44 ka43 qa43 ra43 a43 kb43 qb43 rb43 b43 B43
  have ka44 := ug_cell a44
  have qa44 : v0.heap.size < v44.heap.size := (Array.getElem?_eq_some_iff.1 a44).1
  have ra44 : v0.heap.size < v44.heap.size + 1 := by omega
  have kb44 := ug_cell b44
  have qb44 : v0.heap.size + 1 < v44.heap.size := (Array.getElem?_eq_some_iff.1 b44).1
  have rb44 : v0.heap.size + 1 < v44.heap.size + 1 := by omega
  go_wp2_with fail
  (with_reducible refine (HF _).mono ?_)
  rintro e v45 ⟨rfl, hb45⟩
  have z45 : v44.heap.size + 0 ≤ v45.heap.size := by have h := hb45.size; simpa using h
  have a45 : v45.heap[v0.heap.size]? = some (.cells #[.int .i64 p, .int .i64 q] 43 (0, 0)) := (hb45.block _ (by first | omega | (simp <;> omega))).trans (a44)
  have b45 : v45.heap[v0.heap.size + 1]? = some (.cells #[.int .i64 r, .int .i64 s] 43 (0, 0)) := (hb45.block _ (by first | omega | (simp <;> omega))).trans (b44)
  have B45 : Below w.heap.size w v45 := bl_call (by repeat (first | (with_reducible refine bl_set ?_ (by simp <;> omega) _) | (with_reducible refine bl_alloc ?_ (Nat.le_refl _) _) | (with_reducible refine Below.drew ?_) | (with_reducible assumption) | (with_reducible exact Below.refl _ _))) hb45
  clear hb45 ka44 qa44 ra44 a44 kb44 qb44 rb44 b44 B44
  have ka45 := ug_cell a45
  have qa45 : v0.heap.size < v45.heap.size := (Array.getElem?_eq_some_iff.1 a45).1
  have ra45 : v0.heap.size < v45.heap.size + 1 := by omega
  have kb45 := ug_cell b45
  have qb45 : v0.heap.size + 1 < v45.heap.size := (Array.getElem?_eq_some_iff.1 b45).1
  have rb45 : v0.heap.size + 1 < v45.heap.size + 1 := by omega
  clear HR HF
  by_cases hS : subC p q r s = 0
  · as_aux_lemma =>
    obtain ⟨k1, k2, k3⟩ := X0 hS
    obtain ⟨l1, l2, l3⟩ := X1 hS
    rw [k1, k2, k3] at HX0
    rw [l1, l2, l3] at HX1
    have e1 : (subC p q r s != 0) = false := by simp [hS]
    clear k1 k2 k3 l1 l2 l3 X0 X1 hS
    go_wp2_with fail
    (with_reducible refine (HX0 _).mono ?_)
    rintro e v46 ⟨rfl, hb46⟩
    have z46 : v45.heap.size + 2 ≤ v46.heap.size := by have h := hb46.size; simpa using h
    have a46 : v46.heap[v0.heap.size]? = some (.cells #[.int .i64 p, .int .i64 q] 43 (0, 0)) := (hb46.block _ (by first | omega | (simp <;> omega))).trans ((ug_old _ _ (by first | omega | (simp <;> omega))).trans ((ug_old _ _ (by first | omega | (simp <;> omega))).trans (a45)))
    have b46 : v46.heap[v0.heap.size + 1]? = some (.cells #[.int .i64 r, .int .i64 s] 43 (0, 0)) := (hb46.block _ (by first | omega | (simp <;> omega))).trans ((ug_old _ _ (by first | omega | (simp <;> omega))).trans ((ug_old _ _ (by first | omega | (simp <;> omega))).trans (b45)))
    have z46 : v46.heap[v45.heap.size]? = some (.cells #[.int .i64 0, .int .i64 1] 43 (0, 0)) := (hb46.block _ (by first | omega | (simp <;> omega))).trans ((ug_old _ _ (by first | omega | (simp <;> omega))).trans (ug_new _ _ rfl))
    have u46 : v46.heap[v45.heap.size + 1]? = some (.cells #[.int .i64 1, .int .i64 1] 43 (0, 0)) := (hb46.block _ (by first | omega | (simp <;> omega))).trans (ug_new _ _ (by simp))
    have B46 : Below w.heap.size w v46 := bl_call (by repeat (first | (with_reducible refine bl_set ?_ (by simp <;> omega) _) | (with_reducible refine bl_alloc ?_ (Nat.le_refl _) _) | (with_reducible refine Below.drew ?_) | (with_reducible assumption) | (with_reducible exact Below.refl _ _))) hb46
    clear hb46 ka45 qa45 ra45 a45 kb45 qb45 rb45 b45 B45
    have ka46 := ug_cell a46
    have qa46 : v0.heap.size < v46.heap.size := (Array.getElem?_eq_some_iff.1 a46).1
    have ra46 : v0.heap.size < v46.heap.size + 1 := by omega
    have kb46 := ug_cell b46
    have qb46 : v0.heap.size + 1 < v46.heap.size := (Array.getElem?_eq_some_iff.1 b46).1
    have rb46 : v0.heap.size + 1 < v46.heap.size + 1 := by omega
    have kz46 := ug_cell z46
    have qz46 : v45.heap.size < v46.heap.size := (Array.getElem?_eq_some_iff.1 z46).1
    have rz46 : v45.heap.size < v46.heap.size + 1 := by omega
    have ku46 := ug_cell u46
    have qu46 : v45.heap.size + 1 < v46.heap.size := (Array.getElem?_eq_some_iff.1 u46).1
    have ru46 : v45.heap.size + 1 < v46.heap.size + 1 := by omega
    clear g1 g2 g3 g4 m1 m2 n1 n2 n3 n4 b1 b2
    go_wp2_with fail
    (with_reducible refine (HX1 _).mono ?_)
    rintro e v47 ⟨rfl, hb47⟩
    have z47 : v46.heap.size + 1 ≤ v47.heap.size := by have h := hb47.size; simpa using h
    have a47 : v47.heap[v0.heap.size]? = some (.cells #[.int .i64 p, .int .i64 q] 43 (0, 0)) := (hb47.block _ (by first | omega | (simp <;> omega))).trans ((ug_old _ _ (by first | omega | (simp <;> omega))).trans (a46))
    have b47 : v47.heap[v0.heap.size + 1]? = some (.cells #[.int .i64 r, .int .i64 s] 43 (0, 0)) := (hb47.block _ (by first | omega | (simp <;> omega))).trans ((ug_old _ _ (by first | omega | (simp <;> omega))).trans (b46))
    have u47 : v47.heap[v45.heap.size + 1]? = some (.cells #[.int .i64 1, .int .i64 1] 43 (0, 0)) := (hb47.block _ (by first | omega | (simp <;> omega))).trans ((ug_old _ _ (by first | omega | (simp <;> omega))).trans (u46))
    have P47 : v47.heap[v46.heap.size]? = some (.cells #[.int .i64 p, .int .i64 q] 43 (0, 0)) := (hb47.block _ (by first | omega | (simp <;> omega))).trans (ug_new _ _ rfl)
    have B47 : Below w.heap.size w v47 := bl_call (by repeat (first | (with_reducible refine bl_set ?_ (by simp <;> omega) _) | (with_reducible refine bl_alloc ?_ (Nat.le_refl _) _) | (with_reducible refine Below.drew ?_) | (with_reducible assumption) | (with_reducible exact Below.refl _ _))) hb47
    clear hb47 ka46 qa46 ra46 a46 kb46 qb46 rb46 b46 kz46 qz46 rz46 z46 ku46 qu46 ru46 u46 B46
    have ka47 := ug_cell a47
    have qa47 : v0.heap.size < v47.heap.size := (Array.getElem?_eq_some_iff.1 a47).1
    have ra47 : v0.heap.size < v47.heap.size + 1 := by omega
    have kb47 := ug_cell b47
    have qb47 : v0.heap.size + 1 < v47.heap.size := (Array.getElem?_eq_some_iff.1 b47).1
    have rb47 : v0.heap.size + 1 < v47.heap.size + 1 := by omega
    have ku47 := ug_cell u47
    have qu47 : v45.heap.size + 1 < v47.heap.size := (Array.getElem?_eq_some_iff.1 u47).1
    have ru47 : v45.heap.size + 1 < v47.heap.size + 1 := by omega
    have kP47 := ug_cell P47
    have qP47 : v46.heap.size < v47.heap.size := (Array.getElem?_eq_some_iff.1 P47).1
    have rP47 : v46.heap.size < v47.heap.size + 1 := by omega
    go_wp2_with fail
    (with_reducible refine (HSC _).mono ?_)
    rintro e v48 ⟨rfl, hb48⟩
    have z48 : v47.heap.size + 1 ≤ v48.heap.size := by have h := hb48.size; simpa using h
    have a48 : v48.heap[v0.heap.size]? = some (.cells #[.int .i64 p, .int .i64 q] 43 (0, 0)) := (hb48.block _ (by first | omega | (simp <;> omega))).trans ((ug_old _ _ (by first | omega | (simp <;> omega))).trans (a47))
    have b48 : v48.heap[v0.heap.size + 1]? = some (.cells #[.int .i64 r, .int .i64 s] 43 (0, 0)) := (hb48.block _ (by first | omega | (simp <;> omega))).trans ((ug_old _ _ (by first | omega | (simp <;> omega))).trans (b47))
    have u48 : v48.heap[v45.heap.size + 1]? = some (.cells #[.int .i64 1, .int .i64 1] 43 (0, 0)) := (hb48.block _ (by first | omega | (simp <;> omega))).trans ((ug_old _ _ (by first | omega | (simp <;> omega))).trans (u47))
    have P48 : v48.heap[v46.heap.size]? = some (.cells #[.int .i64 p, .int .i64 q] 43 (0, 0)) := (hb48.block _ (by first | omega | (simp <;> omega))).trans ((ug_old _ _ (by first | omega | (simp <;> omega))).trans (P47))
    have Q48 : v48.heap[v47.heap.size]? = some (.cells #[.int .i64 r, .int .i64 s] 43 (0, 0)) := (hb48.block _ (by first | omega | (simp <;> omega))).trans (ug_new _ _ rfl)
    have B48 : Below w.heap.size w v48 := bl_call (by repeat (first | (with_reducible refine bl_set ?_ (by simp <;> omega) _) | (with_reducible refine bl_alloc ?_ (Nat.le_refl _) _) | (with_reducible refine Below.drew ?_) | (with_reducible assumption) | (with_reducible exact Below.refl _ _))) hb48
    clear hb48 ka47 qa47 ra47 a47 kb47 qb47 rb47 b47 ku47 qu47 ru47 u47 kP47 qP47 rP47 P47 B47
    have ka48 := ug_cell a48
    have qa48 : v0.heap.size < v48.heap.size := (Array.getElem?_eq_some_iff.1 a48).1
    have ra48 : v0.heap.size < v48.heap.size + 1 := by omega
    have kb48 := ug_cell b48
    have qb48 : v0.heap.size + 1 < v48.heap.size := (Array.getElem?_eq_some_iff.1 b48).1
    have rb48 : v0.heap.size + 1 < v48.heap.size + 1 := by omega
    have ku48 := ug_cell u48
    have qu48 : v45.heap.size + 1 < v48.heap.size := (Array.getElem?_eq_some_iff.1 u48).1
    have ru48 : v45.heap.size + 1 < v48.heap.size + 1 := by omega
    have kP48 := ug_cell P48
    have qP48 : v46.heap.size < v48.heap.size := (Array.getElem?_eq_some_iff.1 P48).1
    have rP48 : v46.heap.size < v48.heap.size + 1 := by omega
    have kQ48 := ug_cell Q48
    have qQ48 : v47.heap.size < v48.heap.size := (Array.getElem?_eq_some_iff.1 Q48).1
    have rQ48 : v47.heap.size < v48.heap.size + 1 := by omega
    go_wp2_with fail
    (with_reducible refine (HT _).mono ?_)
    rintro e v49 ⟨rfl, hb49⟩
    have z49 : v48.heap.size + 0 ≤ v49.heap.size := by have h := hb49.size; simpa using h
    have a49 : v49.heap[v0.heap.size]? = some (.cells #[.int .i64 p, .int .i64 q] 43 (0, 0)) := (hb49.block _ (by first | omega | (simp <;> omega))).trans (a48)
    have b49 : v49.heap[v0.heap.size + 1]? = some (.cells #[.int .i64 r, .int .i64 s] 43 (0, 0)) := (hb49.block _ (by first | omega | (simp <;> omega))).trans (b48)
    have P49 : v49.heap[v46.heap.size]? = some (.cells #[.int .i64 p, .int .i64 q] 43 (0, 0)) := (hb49.block _ (by first | omega | (simp <;> omega))).trans (P48)
    have Q49 : v49.heap[v47.heap.size]? = some (.cells #[.int .i64 r, .int .i64 s] 43 (0, 0)) := (hb49.block _ (by first | omega | (simp <;> omega))).trans (Q48)
    have B49 : Below w.heap.size w v49 := bl_call (by repeat (first | (with_reducible refine bl_set ?_ (by simp <;> omega) _) | (with_reducible refine bl_alloc ?_ (Nat.le_refl _) _) | (with_reducible refine Below.drew ?_) | (with_reducible assumption) | (with_reducible exact Below.refl _ _))) hb49
    clear hb49 ka48 qa48 ra48 a48 kb48 qb48 rb48 b48 ku48 qu48 ru48 u48 kP48 qP48 rP48 P48 kQ48 qQ48 rQ48 Q48 B48
    have ka49 := ug_cell a49
    have qa49 : v0.heap.size < v49.heap.size := (Array.getElem?_eq_some_iff.1 a49).1
    have ra49 : v0.heap.size < v49.heap.size + 1 := by omega
    have kb49 := ug_cell b49
    have qb49 : v0.heap.size + 1 < v49.heap.size := (Array.getElem?_eq_some_iff.1 b49).1
    have rb49 : v0.heap.size + 1 < v49.heap.size + 1 := by omega
    have kP49 := ug_cell P49
    have qP49 : v46.heap.size < v49.heap.size := (Array.getElem?_eq_some_iff.1 P49).1
    have rP49 : v46.heap.size < v49.heap.size + 1 := by omega
    have kQ49 := ug_cell Q49
    have qQ49 : v47.heap.size < v49.heap.size := (Array.getElem?_eq_some_iff.1 Q49).1
    have rQ49 : v47.heap.size < v49.heap.size + 1 := by omega
    go_wp2_with fail
    (with_reducible refine (HRF _).mono ?_)
    rintro e v50 ⟨rfl, hb50⟩
    have z50 : v49.heap.size + 0 ≤ v50.heap.size := by have h := hb50.size; simpa using h
    have a50 : v50.heap[v0.heap.size]? = some (.cells #[.int .i64 p, .int .i64 q] 43 (0, 0)) := (hb50.block _ (by first | omega | (simp <;> omega))).trans (a49)
    have b50 : v50.heap[v0.heap.size + 1]? = some (.cells #[.int .i64 r, .int .i64 s] 43 (0, 0)) := (hb50.block _ (by first | omega | (simp <;> omega))).trans (b49)
    have P50 : v50.heap[v46.heap.size]? = some (.cells #[.int .i64 p, .int .i64 q] 43 (0, 0)) := (hb50.block _ (by first | omega | (simp <;> omega))).trans (P49)
    have Q50 : v50.heap[v47.heap.size]? = some (.cells #[.int .i64 r, .int .i64 s] 43 (0, 0)) := (hb50.block _ (by first | omega | (simp <;> omega))).trans (Q49)
    have B50 : Below w.heap.size w v50 := bl_call (by repeat (first | (with_reducible refine bl_set ?_ (by simp <;> omega) _) | (with_reducible refine bl_alloc ?_ (Nat.le_refl _) _) | (with_reducible refine Below.drew ?_) | (with_reducible assumption) | (with_reducible exact Below.refl _ _))) hb50
    clear hb50 ka49 qa49 ra49 a49 kb49 qb49 rb49 b49 kP49 qP49 rP49 P49 kQ49 qQ49 rQ49 Q49 B49
    have ka50 := ug_cell a50
    have qa50 : v0.heap.size < v50.heap.size := (Array.getElem?_eq_some_iff.1 a50).1
    have ra50 : v0.heap.size < v50.heap.size + 1 := by omega
    have kb50 := ug_cell b50
    have qb50 : v0.heap.size + 1 < v50.heap.size := (Array.getElem?_eq_some_iff.1 b50).1
    have rb50 : v0.heap.size + 1 < v50.heap.size + 1 := by omega
    have kP50 := ug_cell P50
    have qP50 : v46.heap.size < v50.heap.size := (Array.getElem?_eq_some_iff.1 P50).1
    have rP50 : v46.heap.size < v50.heap.size + 1 := by omega
    have kQ50 := ug_cell Q50
    have qQ50 : v47.heap.size < v50.heap.size := (Array.getElem?_eq_some_iff.1 Q50).1
    have rQ50 : v47.heap.size < v50.heap.size + 1 := by omega
    go_wp2
    go_ret
    exact ⟨rfl, (by repeat (first | (with_reducible refine bl_set ?_ (by simp <;> omega) _) | (with_reducible refine bl_alloc ?_ (Nat.le_refl _) _) | (with_reducible refine Below.drew ?_) | (with_reducible assumption) | (with_reducible exact Below.refl _ _)))⟩
  · as_aux_lemma =>
    have e1 : (subC p q r s != 0) = true := by simpa using hS
    clear X0 X1 hS
    generalize mixN p q r s 0 1 = y1 at *
    generalize mixD p q r s 0 1 = y2 at *
    generalize mixC p q r s 0 1 = y3 at *
    generalize mixN p q r s 1 1 = y4 at *
    generalize mixD p q r s 1 1 = y5 at *
    generalize mixC p q r s 1 1 = y6 at *
    go_wp2_with fail
    (with_reducible refine (HX0 _).mono ?_)
    rintro e v46 ⟨rfl, hb46⟩
    have z46 : v45.heap.size + 2 ≤ v46.heap.size := by have h := hb46.size; simpa using h
    have a46 : v46.heap[v0.heap.size]? = some (.cells #[.int .i64 p, .int .i64 q] 43 (0, 0)) := (hb46.block _ (by first | omega | (simp <;> omega))).trans ((ug_old _ _ (by first | omega | (simp <;> omega))).trans ((ug_old _ _ (by first | omega | (simp <;> omega))).trans (a45)))
    have b46 : v46.heap[v0.heap.size + 1]? = some (.cells #[.int .i64 r, .int .i64 s] 43 (0, 0)) := (hb46.block _ (by first | omega | (simp <;> omega))).trans ((ug_old _ _ (by first | omega | (simp <;> omega))).trans ((ug_old _ _ (by first | omega | (simp <;> omega))).trans (b45)))
    have z46 : v46.heap[v45.heap.size]? = some (.cells #[.int .i64 0, .int .i64 1] 43 (0, 0)) := (hb46.block _ (by first | omega | (simp <;> omega))).trans ((ug_old _ _ (by first | omega | (simp <;> omega))).trans (ug_new _ _ rfl))
    have u46 : v46.heap[v45.heap.size + 1]? = some (.cells #[.int .i64 1, .int .i64 1] 43 (0, 0)) := (hb46.block _ (by first | omega | (simp <;> omega))).trans (ug_new _ _ (by simp))
    have B46 : Below w.heap.size w v46 := bl_call (by repeat (first | (with_reducible refine bl_set ?_ (by simp <;> omega) _) | (with_reducible refine bl_alloc ?_ (Nat.le_refl _) _) | (with_reducible refine Below.drew ?_) | (with_reducible assumption) | (with_reducible exact Below.refl _ _))) hb46
    clear hb46 ka45 qa45 ra45 a45 kb45 qb45 rb45 b45 B45
    have ka46 := ug_cell a46
    have qa46 : v0.heap.size < v46.heap.size := (Array.getElem?_eq_some_iff.1 a46).1
    have ra46 : v0.heap.size < v46.heap.size + 1 := by omega
    have kb46 := ug_cell b46
    have qb46 : v0.heap.size + 1 < v46.heap.size := (Array.getElem?_eq_some_iff.1 b46).1
    have rb46 : v0.heap.size + 1 < v46.heap.size + 1 := by omega
    have kz46 := ug_cell z46
    have qz46 : v45.heap.size < v46.heap.size := (Array.getElem?_eq_some_iff.1 z46).1
    have rz46 : v45.heap.size < v46.heap.size + 1 := by omega
    have ku46 := ug_cell u46
    have qu46 : v45.heap.size + 1 < v46.heap.size := (Array.getElem?_eq_some_iff.1 u46).1
    have ru46 : v45.heap.size + 1 < v46.heap.size + 1 := by omega
    clear g1 g2 g3 g4 m1 m2 n1 n2 n3 n4 b1 b2
    go_wp2_with fail
    (with_reducible refine (HX1 _).mono ?_)
    rintro e v47 ⟨rfl, hb47⟩
    have z47 : v46.heap.size + 1 ≤ v47.heap.size := by have h := hb47.size; simpa using h
    have a47 : v47.heap[v0.heap.size]? = some (.cells #[.int .i64 p, .int .i64 q] 43 (0, 0)) := (hb47.block _ (by first | omega | (simp <;> omega))).trans ((ug_old _ _ (by first | omega | (simp <;> omega))).trans (a46))
    have b47 : v47.heap[v0.heap.size + 1]? = some (.cells #[.int .i64 r, .int .i64 s] 43 (0, 0)) := (hb47.block _ (by first | omega | (simp <;> omega))).trans ((ug_old _ _ (by first | omega | (simp <;> omega))).trans (b46))
    have u47 : v47.heap[v45.heap.size + 1]? = some (.cells #[.int .i64 1, .int .i64 1] 43 (0, 0)) := (hb47.block _ (by first | omega | (simp <;> omega))).trans ((ug_old _ _ (by first | omega | (simp <;> omega))).trans (u46))
    have P47 : v47.heap[v46.heap.size]? = some (.cells #[.int .i64 y1, .int .i64 y2] 43 (0, 0)) := (hb47.block _ (by first | omega | (simp <;> omega))).trans (ug_new _ _ rfl)
    have B47 : Below w.heap.size w v47 := bl_call (by repeat (first | (with_reducible refine bl_set ?_ (by simp <;> omega) _) | (with_reducible refine bl_alloc ?_ (Nat.le_refl _) _) | (with_reducible refine Below.drew ?_) | (with_reducible assumption) | (with_reducible exact Below.refl _ _))) hb47
    clear hb47 ka46 qa46 ra46 a46 kb46 qb46 rb46 b46 kz46 qz46 rz46 z46 ku46 qu46 ru46 u46 B46
    have ka47 := ug_cell a47
    have qa47 : v0.heap.size < v47.heap.size := (Array.getElem?_eq_some_iff.1 a47).1
    have ra47 : v0.heap.size < v47.heap.size + 1 := by omega
    have kb47 := ug_cell b47
    have qb47 : v0.heap.size + 1 < v47.heap.size := (Array.getElem?_eq_some_iff.1 b47).1
    have rb47 : v0.heap.size + 1 < v47.heap.size + 1 := by omega
    have ku47 := ug_cell u47
    have qu47 : v45.heap.size + 1 < v47.heap.size := (Array.getElem?_eq_some_iff.1 u47).1
    have ru47 : v45.heap.size + 1 < v47.heap.size + 1 := by omega
    have kP47 := ug_cell P47
    have qP47 : v46.heap.size < v47.heap.size := (Array.getElem?_eq_some_iff.1 P47).1
    have rP47 : v46.heap.size < v47.heap.size + 1 := by omega
    go_wp2_with fail
    (with_reducible refine (HSC _).mono ?_)
    rintro e v48 ⟨rfl, hb48⟩
    have z48 : v47.heap.size + 1 ≤ v48.heap.size := by have h := hb48.size; simpa using h
    have a48 : v48.heap[v0.heap.size]? = some (.cells #[.int .i64 p, .int .i64 q] 43 (0, 0)) := (hb48.block _ (by first | omega | (simp <;> omega))).trans ((ug_old _ _ (by first | omega | (simp <;> omega))).trans (a47))
    have b48 : v48.heap[v0.heap.size + 1]? = some (.cells #[.int .i64 r, .int .i64 s] 43 (0, 0)) := (hb48.block _ (by first | omega | (simp <;> omega))).trans ((ug_old _ _ (by first | omega | (simp <;> omega))).trans (b47))
    have u48 : v48.heap[v45.heap.size + 1]? = some (.cells #[.int .i64 1, .int .i64 1] 43 (0, 0)) := (hb48.block _ (by first | omega | (simp <;> omega))).trans ((ug_old _ _ (by first | omega | (simp <;> omega))).trans (u47))
    have P48 : v48.heap[v46.heap.size]? = some (.cells #[.int .i64 y1, .int .i64 y2] 43 (0, 0)) := (hb48.block _ (by first | omega | (simp <;> omega))).trans ((ug_old _ _ (by first | omega | (simp <;> omega))).trans (P47))
    have Q48 : v48.heap[v47.heap.size]? = some (.cells #[.int .i64 y4, .int .i64 y5] 43 (0, 0)) := (hb48.block _ (by first | omega | (simp <;> omega))).trans (ug_new _ _ rfl)
    have B48 : Below w.heap.size w v48 := bl_call (by repeat (first | (with_reducible refine bl_set ?_ (by simp <;> omega) _) | (with_reducible refine bl_alloc ?_ (Nat.le_refl _) _) | (with_reducible refine Below.drew ?_) | (with_reducible assumption) | (with_reducible exact Below.refl _ _))) hb48
    clear hb48 ka47 qa47 ra47 a47 kb47 qb47 rb47 b47 ku47 qu47 ru47 u47 kP47 qP47 rP47 P47 B47
    have ka48 := ug_cell a48
    have qa48 : v0.heap.size < v48.heap.size := (Array.getElem?_eq_some_iff.1 a48).1
    have ra48 : v0.heap.size < v48.heap.size + 1 := by omega
    have kb48 := ug_cell b48
    have qb48 : v0.heap.size + 1 < v48.heap.size := (Array.getElem?_eq_some_iff.1 b48).1
    have rb48 : v0.heap.size + 1 < v48.heap.size + 1 := by omega
    have ku48 := ug_cell u48
    have qu48 : v45.heap.size + 1 < v48.heap.size := (Array.getElem?_eq_some_iff.1 u48).1
    have ru48 : v45.heap.size + 1 < v48.heap.size + 1 := by omega
    have kP48 := ug_cell P48
    have qP48 : v46.heap.size < v48.heap.size := (Array.getElem?_eq_some_iff.1 P48).1
    have rP48 : v46.heap.size < v48.heap.size + 1 := by omega
    have kQ48 := ug_cell Q48
    have qQ48 : v47.heap.size < v48.heap.size := (Array.getElem?_eq_some_iff.1 Q48).1
    have rQ48 : v47.heap.size < v48.heap.size + 1 := by omega
    go_wp2_with fail
    (with_reducible refine (HT _).mono ?_)
    rintro e v49 ⟨rfl, hb49⟩
    have z49 : v48.heap.size + 0 ≤ v49.heap.size := by have h := hb49.size; simpa using h
    have a49 : v49.heap[v0.heap.size]? = some (.cells #[.int .i64 p, .int .i64 q] 43 (0, 0)) := (hb49.block _ (by first | omega | (simp <;> omega))).trans (a48)
    have b49 : v49.heap[v0.heap.size + 1]? = some (.cells #[.int .i64 r, .int .i64 s] 43 (0, 0)) := (hb49.block _ (by first | omega | (simp <;> omega))).trans (b48)
    have P49 : v49.heap[v46.heap.size]? = some (.cells #[.int .i64 y1, .int .i64 y2] 43 (0, 0)) := (hb49.block _ (by first | omega | (simp <;> omega))).trans (P48)
    have Q49 : v49.heap[v47.heap.size]? = some (.cells #[.int .i64 y4, .int .i64 y5] 43 (0, 0)) := (hb49.block _ (by first | omega | (simp <;> omega))).trans (Q48)
    have B49 : Below w.heap.size w v49 := bl_call (by repeat (first | (with_reducible refine bl_set ?_ (by simp <;> omega) _) | (with_reducible refine bl_alloc ?_ (Nat.le_refl _) _) | (with_reducible refine Below.drew ?_) | (with_reducible assumption) | (with_reducible exact Below.refl _ _))) hb49
    clear hb49 ka48 qa48 ra48 a48 kb48 qb48 rb48 b48 ku48 qu48 ru48 u48 kP48 qP48 rP48 P48 kQ48 qQ48 rQ48 Q48 B48
    have ka49 := ug_cell a49
    have qa49 : v0.heap.size < v49.heap.size := (Array.getElem?_eq_some_iff.1 a49).1
    have ra49 : v0.heap.size < v49.heap.size + 1 := by omega
    have kb49 := ug_cell b49
    have qb49 : v0.heap.size + 1 < v49.heap.size := (Array.getElem?_eq_some_iff.1 b49).1
    have rb49 : v0.heap.size + 1 < v49.heap.size + 1 := by omega
    have kP49 := ug_cell P49
    have qP49 : v46.heap.size < v49.heap.size := (Array.getElem?_eq_some_iff.1 P49).1
    have rP49 : v46.heap.size < v49.heap.size + 1 := by omega
    have kQ49 := ug_cell Q49
    have qQ49 : v47.heap.size < v49.heap.size := (Array.getElem?_eq_some_iff.1 Q49).1
    have rQ49 : v47.heap.size < v49.heap.size + 1 := by omega
    go_wp2_with fail
    (with_reducible refine (HRF _).mono ?_)
    rintro e v50 ⟨rfl, hb50⟩
    have z50 : v49.heap.size + 0 ≤ v50.heap.size := by have h := hb50.size; simpa using h
    have a50 : v50.heap[v0.heap.size]? = some (.cells #[.int .i64 p, .int .i64 q] 43 (0, 0)) := (hb50.block _ (by first | omega | (simp <;> omega))).trans (a49)
    have b50 : v50.heap[v0.heap.size + 1]? = some (.cells #[.int .i64 r, .int .i64 s] 43 (0, 0)) := (hb50.block _ (by first | omega | (simp <;> omega))).trans (b49)
    have P50 : v50.heap[v46.heap.size]? = some (.cells #[.int .i64 y1, .int .i64 y2] 43 (0, 0)) := (hb50.block _ (by first | omega | (simp <;> omega))).trans (P49)
    have Q50 : v50.heap[v47.heap.size]? = some (.cells #[.int .i64 y4, .int .i64 y5] 43 (0, 0)) := (hb50.block _ (by first | omega | (simp <;> omega))).trans (Q49)
    have B50 : Below w.heap.size w v50 := bl_call (by repeat (first | (with_reducible refine bl_set ?_ (by simp <;> omega) _) | (with_reducible refine bl_alloc ?_ (Nat.le_refl _) _) | (with_reducible refine Below.drew ?_) | (with_reducible assumption) | (with_reducible exact Below.refl _ _))) hb50
    clear hb50 ka49 qa49 ra49 a49 kb49 qb49 rb49 b49 kP49 qP49 rP49 P49 kQ49 qQ49 rQ49 Q49 B49
    have ka50 := ug_cell a50
    have qa50 : v0.heap.size < v50.heap.size := (Array.getElem?_eq_some_iff.1 a50).1
    have ra50 : v0.heap.size < v50.heap.size + 1 := by omega
    have kb50 := ug_cell b50
    have qb50 : v0.heap.size + 1 < v50.heap.size := (Array.getElem?_eq_some_iff.1 b50).1
    have rb50 : v0.heap.size + 1 < v50.heap.size + 1 := by omega
    have kP50 := ug_cell P50
    have qP50 : v46.heap.size < v50.heap.size := (Array.getElem?_eq_some_iff.1 P50).1
    have rP50 : v46.heap.size < v50.heap.size + 1 := by omega
    have kQ50 := ug_cell Q50
    have qQ50 : v47.heap.size < v50.heap.size := (Array.getElem?_eq_some_iff.1 Q50).1
    have rQ50 : v47.heap.size < v50.heap.size + 1 := by omega
    go_wp2
    go_ret
    exact ⟨rfl, (by repeat (first | (with_reducible refine bl_set ?_ (by simp <;> omega) _) | (with_reducible refine bl_alloc ?_ (Nat.le_refl _) _) | (with_reducible refine Below.drew ?_) | (with_reducible assumption) | (with_reducible exact Below.refl _ _)))⟩
end Go.Proofs.Ythellegojnndlaa
