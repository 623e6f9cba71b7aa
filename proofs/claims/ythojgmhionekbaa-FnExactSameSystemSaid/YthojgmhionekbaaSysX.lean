/-
  The law FnExactSameSystem. Conditions: what the slices hold.
-/
import Derived.Test.YthojgmhionekbaaSysS
import Derived.BigRegion
import Derived.Deep.DeepCutAuto
namespace Go.Proofs.Ythojgmhionekbaa
open Go.RowKit Go.Sort
set_option linter.unusedVariables false
attribute [local go_sem] cell_grow frozen_grow
set_option maxRecDepth 100000 in
set_option maxHeartbeats 16000000 in
theorem fnSameSystem (x : Value) (L : List R4) (y : Value) (M : List R4) (hBx : RowsB L) (hBy : RowsB M) (w : World) (hx : RowsAt w x L) (hy : RowsAt w y M) : Calls Try.prog 5 #[.agg #[x], .agg #[y]] w fun e w' => e = .returned (.bool true) ∧ Below w.heap.size w w' := by
  have HSX := hide (fun W (hW : Below w.heap.size w W) => szSystem_any x L 1048576 (by decide) (by decide) hBx W (hx.later hW))
  have HSY := hide (fun r (h0 : 0 ≤ r) (h1 : r ≤ 1048576) W (hW : Below w.heap.size w W) => szSystem_any y M r h0 h1 hBy W (hy.later hW))
  have HTX := hide (fun (hl : L.length ≤ 1048576) hls W (hW : Below w.heap.size w W) => toSystem_any x L hl hls W (hx.later hW))
  have HTY := hide (fun (hl : M.length ≤ 1048576) hls W (hW : Below w.heap.size w W) => toSystem_any y M hl hls W (hy.later hW))
  obtain ⟨A, ca, rfl, _⟩ := hx
  obtain ⟨B, cb, rfl, _⟩ := hy
  clear hBx hBy
  go_enter Try.func5, Try.ntmps5
  go_wp2_with fail
  (with_reducible refine (HSX.out _ (by repeat (first | (with_reducible refine bl_set ?_ (by simp <;> omega) _) | (with_reducible refine bl_alloc ?_ (Nat.le_refl _) _) | (with_reducible refine Below.drew ?_) | (with_reducible assumption) | (with_reducible exact Below.refl _ _)))).mono ?_)
  rintro e w1 ⟨r, rfl, hr, hb1⟩
  have z1 := hb1.size
  simp at z1
  have o1 : w1.heap[w.heap.size]? = some (.cells #[.slice A L.length ca] 39 (0, 0)) := (hb1.block _ (by simp; omega)).trans ((ug_old _ _ (by simp)).trans (ug_new _ _ rfl))
  have p1 : w1.heap[w.heap.size + 1]? = some (.cells #[.slice B M.length cb] 39 (0, 0)) := (hb1.block _ (by simp)).trans (ug_new _ _ (by simp))
  have k1 := ug_cell o1
  have l1 := ug_cell p1
  have b1 : Below w.heap.size w w1 := bl_call (by repeat (first | (with_reducible refine bl_set ?_ (by simp <;> omega) _) | (with_reducible refine bl_alloc ?_ (Nat.le_refl _) _) | (with_reducible refine Below.drew ?_) | (with_reducible assumption) | (with_reducible exact Below.refl _ _))) hb1
  clear hb1
  rcases hr with rfl | ⟨q0, q1, q2, q3⟩
  · go_wp2
    go_ret
    exact ⟨rfl, b1⟩
  have hlL : L.length ≤ 1048576 := by omega
  have KL := hide (fun j (hj : j < L.length) => show (L.getD j r4d).2.2.2.length ≤ 1048576 by have := q3 j hj; omega)
  clear q3
  go_wp2_with fail
  (with_reducible refine (HSY.out r q0 q1 _ b1).mono ?_)
  rintro e w2 ⟨r2, rfl, hr, hb2⟩
  have z2 := hb2.size
  have o2 : w2.heap[w.heap.size]? = some (.cells #[.slice A L.length ca] 39 (0, 0)) := (hb2.block _ (by omega)).trans o1
  have p2 : w2.heap[w.heap.size + 1]? = some (.cells #[.slice B M.length cb] 39 (0, 0)) := (hb2.block _ (by omega)).trans p1
  have b2 : Below w.heap.size w w2 := b1.trans (hb2.mono (by omega))
  have k2 := ug_cell o2
  have l2 := ug_cell p2
  clear k1 l1 o1 p1 b1 hb2
  rcases hr with rfl | ⟨u0, u1, u2, u3⟩
  · go_wp2
    go_ret
    exact ⟨rfl, b2⟩
  have hlM : M.length ≤ 1048576 := by omega
  have KM := hide (fun j (hj : j < M.length) => show (M.getD j r4d).2.2.2.length ≤ 1048576 by have := u3 j hj; omega)
  have NL := hide (fun j (hj : j < L.length) => show (L.getD j r4d).2.2.2.length ≤ maxLen by have := KL.out j hj; unfold maxLen; omega)
  have NM := hide (fun j (hj : j < M.length) => show (M.getD j r4d).2.2.2.length ≤ maxLen by have := KM.out j hj; unfold maxLen; omega)
  clear u3
  have mL : L.length ≤ maxLen := by unfold maxLen; omega
  have mM : M.length ≤ maxLen := by unfold maxLen; omega
  have z3 : w.heap.size + 1 + 1 ≤ w2.drew.heap.size := (by omega : w.heap.size + 1 + 1 ≤ w2.heap.size)
  have o3 : w2.drew.heap[w.heap.size]? = some (.cells #[.slice A L.length ca] 39 (0, 0)) := o2
  have p3 : w2.drew.heap[w.heap.size + 1]? = some (.cells #[.slice B M.length cb] 39 (0, 0)) := p2
  have b3 : Below w.heap.size w w2.drew := b2.drew
  have k3 := ug_cell o3
  have l3 := ug_cell p3
  clear k2 l2 o2 p2 b2
  go_upto_region 8 with fail
  go_cut [6] (fun s6 wx => s6 = .bool (sameSys L M) ∧ Below w.heap.size w wx ∧ w.heap.size + 1 + 1 ≤ wx.heap.size ∧ wx.heap[w.heap.size]? = some (.cells #[.slice A L.length ca] 39 (0, 0)) ∧ wx.heap[w.heap.size + 1]? = some (.cells #[.slice B M.length cb] 39 (0, 0)))
  case first =>
    go_region_with (first
      | (go_at_call 19; first
        | ((with_reducible refine (HTX.out hlL KL.out _ (by assumption)).mono ?_); rintro e wX ⟨vX, rfl, hSX, hbX⟩; obtain ⟨AX, cX, eX⟩ := hSX.shape; subst eX; have zX := hbX.size; have oX : wX.heap[w.heap.size]? = some (.cells #[.slice A L.length ca] 39 (0, 0)) := (hbX.block _ (by omega)).trans (by assumption); have pX : wX.heap[w.heap.size + 1]? = some (.cells #[.slice B M.length cb] 39 (0, 0)) := (hbX.block _ (by omega)).trans (by assumption); have kX := ug_cell oX; have lX := ug_cell pX; have bX : Below w.heap.size w wX := Below.trans (by assumption) (hbX.mono (by omega)))
        | ((with_reducible refine (HTY.out hlM KM.out _ (by assumption)).mono ?_); rintro e wY ⟨vY, rfl, hSY, hbY⟩; obtain ⟨AY, cY, eY⟩ := hSY.shape; subst eY; have zY := hbY.size; have oY : wY.heap[w.heap.size]? = some (.cells #[.slice A L.length ca] 39 (0, 0)) := (hbY.block _ (by omega)).trans (by assumption); have pY : wY.heap[w.heap.size + 1]? = some (.cells #[.slice B M.length cb] 39 (0, 0)) := (hbY.block _ (by omega)).trans (by assumption); have kY := ug_cell oY; have lY := ug_cell pY; have bY : Below w.heap.size w wY := Below.trans (by assumption) (hbY.mono (by omega))))
      | (go_at_call 18; ((first
        | (with_reducible refine (sameSystem_s _ _ L M mL mM NL.out NM.out _ (hSX.later hbY) hSY).mono ?_)
        | (with_reducible refine (sameSystem_s _ _ L M mL mM NL.out NM.out _ hSX (hSY.later hbX)).mono ?_)); rintro e wU ⟨rfl, hbU⟩; have zU := hbU.size; have oU : wU.heap[w.heap.size]? = some (.cells #[.slice A L.length ca] 39 (0, 0)) := (hbU.block _ (by omega)).trans (by assumption); have pU : wU.heap[w.heap.size + 1]? = some (.cells #[.slice B M.length cb] 39 (0, 0)) := (hbU.block _ (by omega)).trans (by assumption); have bU : Below w.heap.size w wU := Below.trans (by assumption) (hbU.mono (by omega)))))
    all_goals (go_wp2_with fail; go_meet)
    all_goals (exact ⟨rfl, bU, by omega, oU, pU⟩)
  case rest =>
  obtain ⟨rfl, b4, z4, o4, p4⟩ := hcut
  obtain ⟨w4, rfl⟩ : ∃ w4, w4 = wc := ⟨_, rfl⟩
  have k4 := ug_cell o4
  have l4 := ug_cell p4
  clear k3 l3 o3 p3 b3
  go_wp2_with fail
  (with_reducible refine (HTX.out hlL KL.out _ b4).mono ?_)
  rintro e w5 ⟨v5, rfl, hS5, hb5⟩
  obtain ⟨A5, c5, e5⟩ := hS5.shape
  subst e5
  have z5 := hb5.size
  have o5 : (w5.alloc (.cells #[.slice A5 L.length c5] 44)).heap[w.heap.size]? = some (.cells #[.slice A L.length ca] 39 (0, 0)) := (ug_old _ _ (by omega)).trans ((hb5.block _ (by omega)).trans o4)
  have p5 : (w5.alloc (.cells #[.slice A5 L.length c5] 44)).heap[w.heap.size + 1]? = some (.cells #[.slice B M.length cb] 39 (0, 0)) := (ug_old _ _ (by omega)).trans ((hb5.block _ (by omega)).trans p4)
  have i5 : (w5.alloc (.cells #[.slice A5 L.length c5] 44)).heap[w5.heap.size]? = some (.cells #[.slice A5 L.length c5] 44 (0, 0)) := ug_new _ _ rfl
  have b5 : Below w.heap.size w (w5.alloc (.cells #[.slice A5 L.length c5] 44)) := (b4.trans (hb5.mono (by omega))).alloc (by omega) _
  have S5 : RowsAt (w5.alloc (.cells #[.slice A5 L.length c5] 44)) (.slice A5 L.length c5) L := hS5.later ((Below.refl _ _).alloc (Nat.le_refl _) _)
  have y5 : (w5.alloc (.cells #[.slice A5 L.length c5] 44)).heap.size = w5.heap.size + 1 := by simp
  have l5 := ug_cell p5
  clear k4 l4 o4 p4 b4 hb5 hS5
  have HH := hide y5
  clear y5
  go_wp2_with fail
  (with_reducible refine (HTY.out hlM KM.out _ b5).mono ?_)
  rintro e w6 ⟨v6, rfl, hS6, hb6⟩
  obtain ⟨A6, c6, e6⟩ := hS6.shape
  subst e6
  have z6 := hb6.size
  rw [HH.out] at z6
  have o6 : (w6.alloc (.cells #[.slice A6 M.length c6] 44)).heap[w.heap.size]? = some (.cells #[.slice A L.length ca] 39 (0, 0)) := (ug_old _ _ (by omega)).trans ((hb6.block _ (by rw [HH.out]; omega)).trans o5)
  have p6 : (w6.alloc (.cells #[.slice A6 M.length c6] 44)).heap[w.heap.size + 1]? = some (.cells #[.slice B M.length cb] 39 (0, 0)) := (ug_old _ _ (by omega)).trans ((hb6.block _ (by rw [HH.out]; omega)).trans p5)
  have i6 : (w6.alloc (.cells #[.slice A6 M.length c6] 44)).heap[w5.heap.size]? = some (.cells #[.slice A5 L.length c5] 44 (0, 0)) := (ug_old _ _ (by omega)).trans ((hb6.block _ (by rw [HH.out]; omega)).trans i5)
  have j6 : (w6.alloc (.cells #[.slice A6 M.length c6] 44)).heap[w6.heap.size]? = some (.cells #[.slice A6 M.length c6] 44 (0, 0)) := ug_new _ _ rfl
  have b6 : Below w.heap.size w (w6.alloc (.cells #[.slice A6 M.length c6] 44)) := (b5.trans (hb6.mono (by rw [HH.out]; omega))).alloc (by omega) _
  have S6 : RowsAt (w6.alloc (.cells #[.slice A6 M.length c6] 44)) (.slice A5 L.length c5) L := (S5.later hb6).later ((Below.refl _ _).alloc (Nat.le_refl _) _)
  have T6 : RowsAt (w6.alloc (.cells #[.slice A6 M.length c6] 44)) (.slice A6 M.length c6) M := hS6.later ((Below.refl _ _).alloc (Nat.le_refl _) _)
  have HI := hide (show (w6.alloc (.cells #[.slice A6 M.length c6] 44)).heap.size = w6.heap.size + 1 by simp)
  have k6 := ug_cell i6
  have l6 := ug_cell j6
  clear l5 o5 p5 i5 b5 S5 hb6 hS6
  go_wp2_with fail
  (with_reducible refine (sameSystem_i _ _ L M mL mM NL.out NM.out _ S6 T6).mono ?_)
  rintro e w8 ⟨rfl, hb8⟩
  have z8 := hb8.size
  rw [HI.out] at z8
  have z9 : w6.heap.size + 1 ≤ w8.drew.heap.size := z8
  have o8 : w8.drew.heap[w.heap.size]? = some (.cells #[.slice A L.length ca] 39 (0, 0)) := (hb8.block _ (by rw [HI.out]; omega)).trans o6
  have p8 : w8.drew.heap[w.heap.size + 1]? = some (.cells #[.slice B M.length cb] 39 (0, 0)) := (hb8.block _ (by rw [HI.out]; omega)).trans p6
  have i8 : w8.drew.heap[w5.heap.size]? = some (.cells #[.slice A5 L.length c5] 44 (0, 0)) := (hb8.block _ (by rw [HI.out]; omega)).trans i6
  have j8 : w8.drew.heap[w6.heap.size]? = some (.cells #[.slice A6 M.length c6] 44 (0, 0)) := (hb8.block _ (by rw [HI.out]; omega)).trans j6
  have b8 : Below w.heap.size w w8.drew := (b6.trans (hb8.mono (by rw [HI.out]; omega))).drew
  have S8 : RowsAt w8.drew (.slice A5 L.length c5) L := (S6.later hb8).later (Below.refl _ _).drew
  have T8 : RowsAt w8.drew (.slice A6 M.length c6) M := (T6.later hb8).later (Below.refl _ _).drew
  have k8 := ug_cell o8
  have l8 := ug_cell i8
  clear k6 l6 o6 p6 i6 j6 b6 S6 T6 hb8
  generalize sameSys L M = g at *
  go_wp2_with fail
  go_region_with (first
    | (go_at_call 19; ((with_reducible refine (HTX.out hlL KL.out _ b8).mono ?_); rintro e wT ⟨vT, rfl, hST, hbT⟩; obtain ⟨AT, cT, eT⟩ := hST.shape; subst eT; have zT := hbT.size; have pT := (hbT.block _ (by omega)).trans p8; have iT := (hbT.block _ (by omega)).trans i8; have jT := (hbT.block _ (by omega)).trans j8; have kT := ug_cell iT; have bT := b8.trans (hbT.mono (by omega)); have T9 := T8.later hbT; have hv := eqSystem_any _ _ L hlL KL.out _ (S8.later hbT) hST; clear hbT))
    | (go_at_call 21; ((with_reducible refine hv.mono ?_); rintro e wU ⟨rfl, hbU⟩; have zU : w6.heap.size + 1 ≤ wU.drew.heap.size := Nat.le_trans (by omega) hbU.size; have pU : wU.drew.heap[w.heap.size + 1]? = some (.cells #[.slice B M.length cb] 39 (0, 0)) := (hbU.block _ (by omega)).trans pT; have jU : wU.drew.heap[w6.heap.size]? = some (.cells #[.slice A6 M.length c6] 44 (0, 0)) := (hbU.block _ (by omega)).trans jT; have bU : Below w.heap.size w wU.drew := (bT.trans (hbU.mono (by omega))).drew; have TU : RowsAt wU.drew (.slice A6 M.length c6) M := (T9.later hbU).later (Below.refl _ _).drew; have kU := ug_cell pU; have lU := ug_cell jU; clear kT iT pT jT bT T9 hv hbU)))
  all_goals clear k8 l8 o8 p8 i8 j8 b8 S8 T8
  all_goals (go_wp2_with fail; go_region_with (first
    | (go_at_call 19; ((with_reducible refine (HTY.out hlM KM.out _ bU).mono ?_); rintro e wV ⟨vV, rfl, hSV, hbV⟩; obtain ⟨AV, cV, eV⟩ := hSV.shape; subst eV; have zV := hbV.size; have iV := (hbV.block _ (by omega)).trans jU; have kV := ug_cell iV; have bV := bU.trans (hbV.mono (by omega)); have hv := eqSystem_any _ _ M hlM KM.out _ (TU.later hbV) hSV; clear hbV))
    | (go_at_call 21; ((with_reducible refine hv.mono ?_); rintro e wZ ⟨rfl, hbZ⟩))))
  all_goals (go_wp2; go_ret; exact ⟨rfl, bV.trans (hbZ.mono (by omega))⟩)
end Go.Proofs.Ythojgmhionekbaa
