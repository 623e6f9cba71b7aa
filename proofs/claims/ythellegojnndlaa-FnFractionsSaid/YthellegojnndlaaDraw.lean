/-
  CONTRACTS of the draws of fractions (l02Draw, A2Fracs). Conditions: what the slices hold.
-/
import Derived.Test.YthellegojnndlaaSrc
import Derived.Test.YthellegojnndlaaFr
import Derived.BigRegion
import Derived.Deep.RegionWith
namespace Go.Proofs.Ythellegojnndlaa
open Go.RowKit Go.Sort
set_option linter.unusedVariables false
attribute [local go_sem] cell_grow frozen_grow
set_option maxRecDepth 100000 in
set_option maxHeartbeats 16000000 in
theorem l02Draw_any (g : Nat) (A : Option Addr) (n c k : Nat) (hk : k < 1000) (w : World) (hS : SrcAt w g A n c k) : Calls Try.prog 86 #[.pointer (some ⟨g, 0, none⟩)] w fun e w' => ∃ (N D : Int) (k' : Nat), e = .returned (.agg #[.int .i64 N, .int .i64 D]) ∧ okFr N D = true ∧ k ≤ k' ∧ k' ≤ k + 5 ∧ SrcAt w' g A n c k' ∧ w.grownBy w' (some g) := by
  have hl := hS.lt
  have H0 := hide (SrcAt.alloc hS (.cells #[.int .i64 0, .int .i64 0] 43))
  clear hS
  go_enter Try.func86, Try.ntmps86
  go_wp2_with fail
  (with_reducible refine (pick_any 40 (by decide) (by decide) g A n c k (by omega) _ H0.out).mono ?_)
  rintro e w1 ⟨x1, rfl, ⟨x10, x11⟩, hS1, hG1⟩
  have o1 : w1.heap[w.heap.size]? = some (.cells #[.int .i64 0, .int .i64 0] 43 (0, 0)) := (hG1.block _ (by simp) (by simp; omega)).trans (ug_new _ _ rfl)
  have z1 := hG1.size
  simp at z1
  have H1 := hide hS1
  have G1 := hide (GB.trans (GB.alloc (GB.refl w g) _) hG1)
  clear hS1 hG1

  go_wp2_with fail
  (with_reducible refine (pick_any 12 (by decide) (by decide) g A n c (k + 1) (by omega) _ H1.out).mono ?_)
  rintro e w2 ⟨x2, rfl, ⟨x20, x21⟩, hS2, hG2⟩
  have o2 : w2.heap[w.heap.size]? = some (.cells #[.int .i64 0, .int .i64 0] 43 (0, 0)) := (hG2.block _ (by omega) (by simp; omega)).trans o1
  have z2 := hG2.size

  have H2 := hide hS2
  have G2 := hide (GB.trans G1.out hG2)
  clear hS2 hG2 o1

  go_wp2_with fail
  (with_reducible refine (one_any 8 (by decide) (by decide) g A n c (k + 1 + 1) (by omega) _ H2.out).mono ?_)
  rintro e w3 ⟨b3, rfl, hS3, hG3⟩
  have o3 : w3.heap[w.heap.size]? = some (.cells #[.int .i64 0, .int .i64 0] 43 (0, 0)) := (hG3.block _ (by omega) (by simp; omega)).trans o2
  have z3 := hG3.size

  have H3 := hide hS3
  have G3 := hide (GB.trans G2.out hG3)
  clear hS3 hG3 o2

  cases b3
  · have HM := makeFrac_s (x1 - 12) (1 + x2) (by omega) (by omega) (by omega) (by omega)
    have hok := hide (fun h => @mk_ok (x1 - 12) (1 + x2) h)
    generalize mkN (x1 - 12) (1 + x2) = N at *
    generalize mkD (x1 - 12) (1 + x2) = D at *
    generalize mkC (x1 - 12) (1 + x2) = C at *
    go_wp2_with fail
    (with_reducible refine (HM _).mono ?_)
    rintro e w9 ⟨rfl, hb9⟩
    have z9 := hb9.size
    have o9 : w9.heap[w.heap.size]? = some (.cells #[.int .i64 0, .int .i64 0] 43 (0, 0)) := (hb9.block _ (by omega)).trans o3
    have k9 := ug_cell o9
    have f9 := ug_frozen o9
    have H9 := hide (H3.out.later hb9)
    have G9 := hide (GB.below G3.out hb9)
    have q9 : w.heap.size < w9.heap.size := by omega
    clear hb9 o3 o9 HM
    cases hq : (C != 0)
    · have h0 : okFr N D = true := hok.out (by simpa using hq)
      have HOK := hide h0
      clear hok h0
      go_wp2
      refine bodyPost_ret (v := .agg #[.int .i64 N, .int .i64 D]) ?_ rfl ⟨N, D, _, rfl, HOK.out, ?_, ?_, SrcAt.alloc (SrcAt.set (SrcAt.set H9.out (p := ⟨w.heap.size, 0, none⟩) (by show g < w.heap.size; omega) _) (p := ⟨w.heap.size, 1, none⟩) (by show g < w.heap.size; omega) _) _, GB.alloc (GB.set (GB.set G9.out (p := ⟨w.heap.size, 0, none⟩) (Nat.le_refl _) _) (p := ⟨w.heap.size, 1, none⟩) (Nat.le_refl _) _) _⟩
      · simp (maxDischargeDepth := 9) [results, Try.results86, go_sem, *]
      · omega
      · omega
    · clear hok
      go_wp2
      refine bodyPost_ret (v := .agg #[.int .i64 1, .int .i64 1]) ?_ rfl ⟨1, 1, _, rfl, by decide, ?_, ?_, SrcAt.alloc (SrcAt.set (SrcAt.set H9.out (p := ⟨w.heap.size, 0, none⟩) (by show g < w.heap.size; omega) _) (p := ⟨w.heap.size, 1, none⟩) (by show g < w.heap.size; omega) _) _, GB.alloc (GB.set (GB.set G9.out (p := ⟨w.heap.size, 0, none⟩) (Nat.le_refl _) _) (p := ⟨w.heap.size, 1, none⟩) (Nat.le_refl _) _) _⟩
      · simp (maxDischargeDepth := 9) [results, Try.results86, go_sem, *]
      · omega
      · omega

  · have SA4 := hide (SrcAt.alloc H3.out (.cells #[.int .i64 1000000000, .int .i64 (-1000000000), .int .i64 355, .int .i64 999999, .int .i64 123456789, .int .i64 0] 2))
    have HC4 := hide (among_any [1000000000, -1000000000, 355, 999999, 123456789, 0] 6 rfl (by decide) (by decide) w3.heap.size g A n c (k + 1 + 1 + 1) (by omega) (w3.alloc (.cells #[.int .i64 1000000000, .int .i64 (-1000000000), .int .i64 355, .int .i64 999999, .int .i64 123456789, .int .i64 0] 2)) SA4.out (by simp) (by omega) (fun j hj => by rw [ug_cell (ug_new _ _ rfl)]; rcases (show j = 0 ∨ j = 1 ∨ j = 2 ∨ j = 3 ∨ j = 4 ∨ j = 5 by omega) with rfl | rfl | rfl | rfl | rfl | rfl <;> rfl))
    go_wp2_with fail
    (with_reducible refine HC4.out.mono ?_)
    rintro e w4 ⟨y4, rfl, hy4, hS4, hG4⟩
    have H4 := hide hS4
    have o4 : w4.heap[w.heap.size]? = some (.cells #[.int .i64 0, .int .i64 0] 43 (0, 0)) := (hG4.block _ (by simp; omega) (by simp; omega)).trans ((ug_old _ _ (by omega)).trans o3)
    have z4 := hG4.size
    simp at z4
    have G4 := hide (GB.trans (GB.alloc G3.out _) hG4)
    clear hS4 hG4 SA4 HC4 o3
    have SA5 := hide (SrcAt.alloc H4.out (.cells #[.int .i64 1, .int .i64 7, .int .i64 113, .int .i64 999983, .int .i64 1000000] 2))
    have HC5 := hide (among_any [1, 7, 113, 999983, 1000000] 5 rfl (by decide) (by decide) w4.heap.size g A n c (k + 1 + 1 + 1 + 1) (by omega) (w4.alloc (.cells #[.int .i64 1, .int .i64 7, .int .i64 113, .int .i64 999983, .int .i64 1000000] 2)) SA5.out (by simp) (by omega) (fun j hj => by rw [ug_cell (ug_new _ _ rfl)]; rcases (show j = 0 ∨ j = 1 ∨ j = 2 ∨ j = 3 ∨ j = 4 by omega) with rfl | rfl | rfl | rfl | rfl <;> rfl))
    go_wp2_with fail
    (with_reducible refine HC5.out.mono ?_)
    rintro e w5 ⟨y5, rfl, hy5, hS5, hG5⟩
    have H5 := hide hS5
    have o5 : w5.heap[w.heap.size]? = some (.cells #[.int .i64 0, .int .i64 0] 43 (0, 0)) := (hG5.block _ (by simp; omega) (by simp; omega)).trans ((ug_old _ _ (by omega)).trans o4)
    have z5 := hG5.size
    simp at z5
    have G5 := hide (GB.trans (GB.alloc G4.out _) hG5)
    clear hS5 hG5 SA5 HC5 o4
    have r4 : -1000000000 ≤ y4 ∧ y4 ≤ 1000000000 := by
      simp at hy4
      omega
    have r5 : 1 ≤ y5 ∧ y5 ≤ 1000000 := by
      simp at hy5
      omega
    clear hy4 hy5
    have HM := makeFrac_s (y4) (y5) (by omega) (by omega) (by omega) (by omega)
    have hok := hide (fun h => @mk_ok (y4) (y5) h)
    generalize mkN (y4) (y5) = N at *
    generalize mkD (y4) (y5) = D at *
    generalize mkC (y4) (y5) = C at *
    go_wp2_with fail
    (with_reducible refine (HM _).mono ?_)
    rintro e w9 ⟨rfl, hb9⟩
    have z9 := hb9.size
    have o9 : w9.heap[w.heap.size]? = some (.cells #[.int .i64 0, .int .i64 0] 43 (0, 0)) := (hb9.block _ (by omega)).trans o5
    have k9 := ug_cell o9
    have f9 := ug_frozen o9
    have H9 := hide (H5.out.later hb9)
    have G9 := hide (GB.below G5.out hb9)
    have q9 : w.heap.size < w9.heap.size := by omega
    clear hb9 o5 o9 HM
    cases hq : (C != 0)
    · have h0 : okFr N D = true := hok.out (by simpa using hq)
      have HOK := hide h0
      clear hok h0
      go_wp2
      refine bodyPost_ret (v := .agg #[.int .i64 N, .int .i64 D]) ?_ rfl ⟨N, D, _, rfl, HOK.out, ?_, ?_, SrcAt.alloc (SrcAt.set (SrcAt.set H9.out (p := ⟨w.heap.size, 0, none⟩) (by show g < w.heap.size; omega) _) (p := ⟨w.heap.size, 1, none⟩) (by show g < w.heap.size; omega) _) _, GB.alloc (GB.set (GB.set G9.out (p := ⟨w.heap.size, 0, none⟩) (Nat.le_refl _) _) (p := ⟨w.heap.size, 1, none⟩) (Nat.le_refl _) _) _⟩
      · simp (maxDischargeDepth := 9) [results, Try.results86, go_sem, *]
      · omega
      · omega
    · clear hok
      go_wp2
      refine bodyPost_ret (v := .agg #[.int .i64 1, .int .i64 1]) ?_ rfl ⟨1, 1, _, rfl, by decide, ?_, ?_, SrcAt.alloc (SrcAt.set (SrcAt.set H9.out (p := ⟨w.heap.size, 0, none⟩) (by show g < w.heap.size; omega) _) (p := ⟨w.heap.size, 1, none⟩) (by show g < w.heap.size; omega) _) _, GB.alloc (GB.set (GB.set G9.out (p := ⟨w.heap.size, 0, none⟩) (Nat.le_refl _) _) (p := ⟨w.heap.size, 1, none⟩) (Nat.le_refl _) _) _⟩
      · simp (maxDischargeDepth := 9) [results, Try.results86, go_sem, *]
      · omega
      · omega

set_option maxRecDepth 100000 in
set_option maxHeartbeats 16000000 in
theorem a2Fracs_any (A : Option Addr) (n c : Nat) (w : World) (hC : CodeAt w w.heap.size A n) : Calls Try.prog 39 #[.slice A n c] w fun e w' => ∃ (p q r s : Int), e = .returned (.tuple #[.agg #[.int .i64 p, .int .i64 q], .agg #[.int .i64 r, .int .i64 s]]) ∧ okFr p q = true ∧ okFr r s = true ∧ Below w.heap.size w w' := by
  have HC := hide hC
  clear hC
  go_enter Try.func39, Try.ntmps39
  go_wp2_with fail
  (with_reducible refine (l00From_any A n c _ (HC.out.up (by simp; omega) (fun g hg => (ug_old _ _ (by simp; omega)).trans (ug_old _ _ hg)))).mono ?_)
  rintro e w1 ⟨rfl, hS1, hb1⟩
  have H1 : SrcAt w1 (w.heap.size + 1 + 1) A n c 0 := by simpa using hS1
  have l1 := H1.lt
  have a0 : w1.heap[w.heap.size]? = some (.cells #[.int .i64 0, .int .i64 0] 43 (0, 0)) := (hb1.block _ (by simp; omega)).trans ((ug_old _ _ (by simp)).trans (ug_new _ _ rfl))
  have a1 : w1.heap[w.heap.size + 1]? = some (.cells #[.int .i64 0, .int .i64 0] 43 (0, 0)) := (hb1.block _ (by simp)).trans (ug_new _ _ (by simp))
  have B1 : Below w.heap.size w w1 := bl_call (by repeat (first | (with_reducible refine bl_set ?_ (by simp <;> omega) _) | (with_reducible refine bl_alloc ?_ (Nat.le_refl _) _) | (with_reducible refine Below.drew ?_) | (with_reducible assumption) | (with_reducible exact Below.refl _ _))) hb1
  clear hS1 hb1 HC
  go_wp2_with fail
  (with_reducible refine (l02Draw_any (w.heap.size + 1 + 1) A n c 0 (by omega) _ H1).mono ?_)
  rintro e w2 ⟨N, D, k2, rfl, hok, _, hk2, hS2, hG2⟩
  have z2 := hG2.size
  have H2 : SrcAt (w2.alloc (.cells #[.int .i64 N, .int .i64 D] 43)).drew (w.heap.size + 1 + 1) A n c k2 := hS2.alloc _
  have d0 : (w2.alloc (.cells #[.int .i64 N, .int .i64 D] 43)).drew.heap[w.heap.size]? = some (.cells #[.int .i64 0, .int .i64 0] 43 (0, 0)) := (ug_old _ _ (by omega)).trans ((hG2.block _ (by omega) (fun e => by injection e; omega)).trans a0)
  have d1 : (w2.alloc (.cells #[.int .i64 N, .int .i64 D] 43)).drew.heap[w.heap.size + 1]? = some (.cells #[.int .i64 0, .int .i64 0] 43 (0, 0)) := (ug_old _ _ (by omega)).trans ((hG2.block _ (by omega) (fun e => by injection e; omega)).trans a1)
  have d2 : (w2.alloc (.cells #[.int .i64 N, .int .i64 D] 43)).drew.heap[w2.heap.size]? = some (.cells #[.int .i64 N, .int .i64 D] 43 (0, 0)) := ug_new _ _ rfl
  have B2 : Below w.heap.size w (w2.alloc (.cells #[.int .i64 N, .int .i64 D] 43)).drew := ((GB.under B1 hG2 (by omega)).alloc (by omega) _).drew
  have zd : (w2.alloc (.cells #[.int .i64 N, .int .i64 D] 43)).drew.heap.size = w2.heap.size + 1 := by simp
  have HH := hide H2
  have HB := hide B2
  have HZ := hide zd
  clear hS2 hG2 a0 a1 B1 H1 H2 B2 zd
  go_wp2_with fail
  go_region_with (first | (go_at_call 86; ((with_reducible refine (l02Draw_any (w.heap.size + 1 + 1) A n c k2 (by omega) _ HH.out).mono ?_); rintro e w3 ⟨N3, D3, k3, rfl, hok3, _, hk3, hS3, hG3⟩; have z3 := hG3.size; rw [HZ.out] at z3; have r0 := (hG3.block _ (by rw [HZ.out]; omega) (fun e => by injection e; omega)).trans d0; have r1 := (hG3.block _ (by rw [HZ.out]; omega) (fun e => by injection e; omega)).trans d1; have r2 := (hG3.block _ (by rw [HZ.out]; omega) (fun e => by injection e; omega)).trans d2; have c0 := ug_cell r0; have c1 := ug_cell r1; have c2 := ug_cell r2; have f0 := ug_frozen r0; have f1 := ug_frozen r1; have B3 := GB.under HB.out hG3 (by omega); clear hS3 hG3 r0 r1 r2)))
  all_goals (go_wp2; refine bodyPost_ret (v := .tuple #[.agg #[.int .i64 N, .int .i64 D], .agg #[.int .i64 N3, .int .i64 D3]]) ?_ rfl ⟨N, D, N3, D3, rfl, hok, hok3, (by repeat (first | (with_reducible refine bl_set ?_ (by simp <;> omega) _) | (with_reducible refine bl_alloc ?_ (Nat.le_refl _) _) | (with_reducible refine Below.drew ?_) | (with_reducible assumption) | (with_reducible exact Below.refl _ _)))⟩; (simp (maxDischargeDepth := 9) [results, Try.results39, go_sem, *]))
end Go.Proofs.Ythellegojnndlaa
