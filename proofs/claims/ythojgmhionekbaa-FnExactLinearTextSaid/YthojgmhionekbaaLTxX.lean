/-
  The law FnExactLinearText. Conditions: what the slices hold.
-/
import Derived.Test.YthojgmhionekbaaLTxB
import Derived.BigRegion
namespace Go.Proofs.Ythojgmhionekbaa
open Go.RowKit Go.Sort
set_option linter.unusedVariables false
attribute [local go_sem] cell_grow frozen_grow
set_option maxRecDepth 100000 in
set_option maxHeartbeats 16000000 in
theorem fnLinearText (a b : Int) (x : Value) (L : List T3) (wa : -9223372036854775808 ≤ a ∧ a ≤ 9223372036854775807) (wb : -9223372036854775808 ≤ b ∧ b ≤ 9223372036854775807) (hB : LinB L) (w : World) (hx : TermsAt w x L) : Calls Try.prog 8 #[.agg #[.int .i64 a, .int .i64 b, x]] w fun e w' => e = .returned (.bool true) ∧ Below w.heap.size w w' := by
  have HSZ := hide (fun W (hW : Below w.heap.size w W) => szLinear_any a b x L 1048576 (by decide) (by decide) W (hx.later hW) hB)
  have HTO := hide (fun W (hW : Below w.heap.size w W) (hl : L.length ≤ 1048576) => toLinear_any a b x L W (hx.later hW) hl)
  have HB := hide hB
  have HVS := hide (fun x (w : World) hx => linearText_s a b wa x L HB.out w hx)
  have HVI := hide (fun x (w : World) hx => linearText_i a b wa x L HB.out w hx)
  obtain ⟨A, ca, rfl, _⟩ := hx
  clear hB
  go_enter Try.func8, Try.ntmps8
  go_wp2_with fail
  (with_reducible refine (HSZ.out _ (by repeat (first | (with_reducible refine bl_set ?_ (by simp <;> omega) _) | (with_reducible refine bl_alloc ?_ (Nat.le_refl _) _) | (with_reducible refine Below.drew ?_) | (with_reducible assumption) | (with_reducible exact Below.refl _ _)))).mono ?_)
  rintro e w1 ⟨r, rfl, hr, hb1⟩
  have z1 := hb1.size
  simp at z1
  have o1 : w1.heap[w.heap.size]? = some (.cells #[.int .i64 a, .int .i64 b, .slice A L.length ca] 26 (0, 0)) := (hb1.block _ (by simp)).trans (ug_new _ _ rfl)
  have k1 := ug_cell o1
  have b1 : Below w.heap.size w w1 := bl_call (by repeat (first | (with_reducible refine bl_set ?_ (by simp <;> omega) _) | (with_reducible refine bl_alloc ?_ (Nat.le_refl _) _) | (with_reducible refine Below.drew ?_) | (with_reducible assumption) | (with_reducible exact Below.refl _ _))) hb1
  clear hb1
  rcases hr with rfl | ⟨q0, q1, q2⟩
  · go_wp2
    go_ret
    exact ⟨rfl, b1⟩
  have q3 : L.length ≤ 1048576 := by omega
  go_wp2_with fail
  (with_reducible refine (HTO.out _ b1 q3).mono ?_)
  rintro e w2 ⟨v2, rfl, hS2, hg2, hb2⟩
  obtain ⟨A2, c2, e2⟩ := hS2.shape
  subst e2
  have z2 := hb2.size
  have o2 : w2.heap[w.heap.size]? = some (.cells #[.int .i64 a, .int .i64 b, .slice A L.length ca] 26 (0, 0)) := (hb2.block _ (by omega)).trans o1
  have b2 : Below w.heap.size w w2 := b1.trans (hb2.mono (by omega))
  have hv := HVS.out _ w2 hS2.at
  clear k1 o1 b1 hb2 hg2
  go_wp2_with fail
  (with_reducible refine hv.mono ?_)
  rintro e w3 ⟨rfl, hb3⟩
  have z3 := hb3.size
  have o3 : w3.heap[w.heap.size]? = some (.cells #[.int .i64 a, .int .i64 b, .slice A L.length ca] 26 (0, 0)) := (hb3.block _ (by omega)).trans o2
  have b3 : Below w.heap.size w w3 := b2.trans (hb3.mono (by omega))
  have k3 := ug_cell o3
  clear hS2 hv o2 b2 hb3
  go_wp2_with fail
  (with_reducible refine (HTO.out _ b3 q3).mono ?_)
  rintro e w4 ⟨v4, rfl, hS4, hg4, hb4⟩
  obtain ⟨A4, c4, e4⟩ := hS4.shape
  subst e4
  have z4 := hb4.size
  have o4 : w4.heap[w.heap.size]? = some (.cells #[.int .i64 a, .int .i64 b, .slice A L.length ca] 26 (0, 0)) := (hb4.block _ (by omega)).trans o3
  have b4 : Below w.heap.size w w4 := b3.trans (hb4.mono (by omega))
  have S5 : TermsAt (w4.alloc (.cells #[.int .i64 a, .int .i64 b, .slice A4 L.length c4] 32)) (.slice A4 L.length c4) L := hS4.at.later ((Below.refl _ _).alloc (Nat.le_refl _) _)
  have hv := HVI.out _ _ S5
  clear k3 o3 b3 hb4 hg4 hS4
  go_wp2_with fail
  (with_reducible refine hv.mono ?_)
  rintro e w6 ⟨rfl, hb6⟩
  have z6 := hb6.size
  simp at z6
  have o6 : w6.heap[w.heap.size]? = some (.cells #[.int .i64 a, .int .i64 b, .slice A L.length ca] 26 (0, 0)) := (hb6.block _ (by simp; omega)).trans ((ug_old _ _ (by omega)).trans o4)
  have i6 : w6.heap[w4.heap.size]? = some (.cells #[.int .i64 a, .int .i64 b, .slice A4 L.length c4] 32 (0, 0)) := (hb6.block _ (by simp)).trans (ug_new _ _ rfl)
  have b6 : Below w.heap.size w w6 := (b4.alloc (by omega) _).trans (hb6.mono (by simp; omega))
  have S6 := S5.later hb6
  have z7 : w6.drew.heap.size = w6.heap.size := rfl
  have b7 : Below w.heap.size w w6.drew := b6.drew
  have S7 : TermsAt w6.drew (.slice A4 L.length c4) L := S6.later (Below.refl _ _).drew
  have o7 : w6.drew.heap[w.heap.size]? = _ := o6
  have i7 : w6.drew.heap[w4.heap.size]? = _ := i6
  have k7 := ug_cell o7
  have l7 := ug_cell i7
  clear hv o4 b4 hb6 S5 S6 b6
  have hqq : ((linT a b L).toList != (linT a b L).toList) = false := by simp
  generalize linT a b L = g at *
  go_wp2_with fail
  go_region_with (first
    | (go_at_call 12; ((with_reducible refine (HTO.out _ b7 q3).mono ?_); rintro e wT ⟨vT, rfl, hST, hgT, hbT⟩; obtain ⟨AT, cT, eT⟩ := hST.shape; subst eT; have zT := hbT.size; rw [z7] at zT; have iT := (hbT.block w4.heap.size (by omega)).trans i7; have kT := ug_cell iT; have bT := b7.trans (hbT.mono (by omega)); have hv := eqLinear_any a b _ _ L _ (S7.later hbT) hST.at (by omega); clear hbT))
    | (go_at_call 14; (with_reducible refine hv.mono ?_); rintro e wU ⟨rfl, hbU⟩))
  all_goals (go_wp2; go_ret; exact ⟨rfl, bT.trans (hbU.mono (by omega))⟩)
end Go.Proofs.Ythojgmhionekbaa
