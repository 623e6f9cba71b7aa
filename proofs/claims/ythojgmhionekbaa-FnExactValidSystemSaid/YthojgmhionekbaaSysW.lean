/-
  The law FnExactValidSystem. Conditions: what the slices hold.
-/
import Derived.Test.YthojgmhionekbaaSysV
import Derived.BigRegion
namespace Go.Proofs.Ythojgmhionekbaa
open Go.RowKit Go.Sort
set_option linter.unusedVariables false
attribute [local go_sem] cell_grow frozen_grow
set_option maxRecDepth 100000 in
set_option maxHeartbeats 16000000 in
theorem fnValidSystem (x : Value) (L : List R4) (hB : RowsB L) (w : World) (hx : RowsAt w x L) : Calls Try.prog 7 #[.agg #[x]] w fun e w' => e = .returned (.bool true) ∧ Below w.heap.size w w' := by
  have HSZ := hide (fun W (hW : Below w.heap.size w W) => szSystem_any x L 1048576 (by decide) (by decide) hB W (hx.later hW))
  have HTO := hide (fun W (hW : Below w.heap.size w W) (hl : L.length ≤ 1048576) hls => toSystem_any x L hl hls W (hx.later hW))
  have HB := hide hB
  have HVS := hide (fun x (w : World) hl hx => validSystem_s x L hl HB.out w hx)
  have HVI := hide (fun x (w : World) hl hx => validSystem_i x L hl HB.out w hx)
  obtain ⟨A, ca, rfl, _⟩ := hx
  clear hB
  go_enter Try.func7, Try.ntmps7
  go_wp2_with fail
  (with_reducible refine (HSZ.out _ (by repeat (first | (with_reducible refine bl_set ?_ (by simp <;> omega) _) | (with_reducible refine bl_alloc ?_ (Nat.le_refl _) _) | (with_reducible refine Below.drew ?_) | (with_reducible assumption) | (with_reducible exact Below.refl _ _)))).mono ?_)
  rintro e w1 ⟨r, rfl, hr, hb1⟩
  have z1 := hb1.size
  simp at z1
  have o1 : w1.heap[w.heap.size]? = some (.cells #[.slice A L.length ca] 39 (0, 0)) := (hb1.block _ (by simp)).trans (ug_new _ _ rfl)
  have k1 := ug_cell o1
  have b1 : Below w.heap.size w w1 := bl_call (by repeat (first | (with_reducible refine bl_set ?_ (by simp <;> omega) _) | (with_reducible refine bl_alloc ?_ (Nat.le_refl _) _) | (with_reducible refine Below.drew ?_) | (with_reducible assumption) | (with_reducible exact Below.refl _ _))) hb1
  clear hb1
  rcases hr with rfl | ⟨q0, q1, q2, q4⟩
  · go_wp2
    go_ret
    exact ⟨rfl, b1⟩
  have q3 : L.length ≤ 1048576 := by omega
  have KL := hide (fun j (hj : j < L.length) => show (L.getD j r4d).2.2.2.length ≤ 1048576 by have := q4 j hj; omega)
  clear q4
  go_wp2_with fail
  (with_reducible refine (HTO.out _ b1 q3 KL.out).mono ?_)
  rintro e w2 ⟨v2, rfl, hS2, hb2⟩
  obtain ⟨A2, c2, e2⟩ := hS2.shape
  subst e2
  have z2 := hb2.size
  have o2 : w2.heap[w.heap.size]? = some (.cells #[.slice A L.length ca] 39 (0, 0)) := (hb2.block _ (by omega)).trans o1
  have b2 : Below w.heap.size w w2 := b1.trans (hb2.mono (by omega))
  have hv := HVS.out _ w2 q3 hS2
  clear k1 o1 b1 hb2
  go_wp2_with fail
  (with_reducible refine hv.mono ?_)
  rintro e w3 ⟨rfl, hb3⟩
  have z3 := hb3.size
  have o3 : w3.heap[w.heap.size]? = some (.cells #[.slice A L.length ca] 39 (0, 0)) := (hb3.block _ (by omega)).trans o2
  have b3 : Below w.heap.size w w3 := b2.trans (hb3.mono (by omega))
  have k3 := ug_cell o3
  clear hS2 hv o2 b2 hb3
  go_wp2_with fail
  (with_reducible refine (HTO.out _ b3 q3 KL.out).mono ?_)
  rintro e w4 ⟨v4, rfl, hS4, hb4⟩
  obtain ⟨A4, c4, e4⟩ := hS4.shape
  subst e4
  have z4 := hb4.size
  have o4 : w4.heap[w.heap.size]? = some (.cells #[.slice A L.length ca] 39 (0, 0)) := (hb4.block _ (by omega)).trans o3
  have b4 : Below w.heap.size w w4 := b3.trans (hb4.mono (by omega))
  have S5 : RowsAt (w4.alloc (.cells #[.slice A4 L.length c4] 44)) (.slice A4 L.length c4) L := hS4.later ((Below.refl _ _).alloc (Nat.le_refl _) _)
  have hv := HVI.out _ _ q3 S5
  clear k3 o3 b3 hb4 hS4
  go_wp2_with fail
  (with_reducible refine hv.mono ?_)
  rintro e w6 ⟨rfl, hb6⟩
  have z6 := hb6.size
  simp at z6
  have o6 : w6.heap[w.heap.size]? = some (.cells #[.slice A L.length ca] 39 (0, 0)) := (hb6.block _ (by simp; omega)).trans ((ug_old _ _ (by omega)).trans o4)
  have i6 : w6.heap[w4.heap.size]? = some (.cells #[.slice A4 L.length c4] 44 (0, 0)) := (hb6.block _ (by simp)).trans (ug_new _ _ rfl)
  have b6 : Below w.heap.size w w6 := (b4.alloc (by omega) _).trans (hb6.mono (by simp; omega))
  have S6 := S5.later hb6
  have z7 : w6.drew.heap.size = w6.heap.size := rfl
  have b7 : Below w.heap.size w w6.drew := b6.drew
  have S7 : RowsAt w6.drew (.slice A4 L.length c4) L := S6.later (Below.refl _ _).drew
  have o7 : w6.drew.heap[w.heap.size]? = _ := o6
  have i7 : w6.drew.heap[w4.heap.size]? = _ := i6
  have k7 := ug_cell o7
  have l7 := ug_cell i7
  clear hv o4 b4 hb6 S5 S6 b6
  generalize sysOk L = g at *
  go_wp2_with fail
  go_region_with (first
    | (go_at_call 19; ((with_reducible refine (HTO.out _ b7 q3 KL.out).mono ?_); rintro e wT ⟨vT, rfl, hST, hbT⟩; obtain ⟨AT, cT, eT⟩ := hST.shape; subst eT; have zT := hbT.size; rw [z7] at zT; have iT := (hbT.block w4.heap.size (by omega)).trans i7; have kT := ug_cell iT; have bT := b7.trans (hbT.mono (by omega)); have hv := eqSystem_any _ _ L q3 KL.out _ (S7.later hbT) hST; clear hbT))
    | (go_at_call 21; (with_reducible refine hv.mono ?_); rintro e wU ⟨rfl, hbU⟩))
  all_goals (go_wp2; go_ret; exact ⟨rfl, bT.trans (hbU.mono (by omega))⟩)
end Go.Proofs.Ythojgmhionekbaa
