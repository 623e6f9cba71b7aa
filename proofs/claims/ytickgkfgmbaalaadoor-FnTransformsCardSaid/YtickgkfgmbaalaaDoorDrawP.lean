/-
  CONTRACTS of the draws of points (l03Coord, l03Draw, E8Points). Conditions: what the slices hold.
-/
import Derived.Test.YtickgkfgmbaalaaDoorSrc
import Derived.Test.YtickgkfgmbaalaaDoorPt
import Derived.BigRegion
import Derived.Deep.RegionWith
import Derived.Deep.RegionHeld3
namespace Go.Proofs.YtickgkfgmbaalaaDoor
open Go.RowKit Go.Sort
set_option linter.unusedVariables false
attribute [local go_sem] cell_grow frozen_grow
theorem ok_of {x y m : Int} (hx : -m ≤ x ∧ x ≤ m) (hy : -m ≤ y ∧ y ≤ m) (h : m ≤ 262144) : okPt x y = true := decide_eq_true (by omega)
set_option maxRecDepth 100000 in
set_option maxHeartbeats 16000000 in
theorem l03Coord_any (m : Int) (h1 : 1 ≤ m) (h2 : m ≤ 262144) (g : Nat) (A : Option Addr) (n c k : Nat) (hk : k < 1000) (w : World) (hS : SrcAt w g A n c k) : Calls Tryd.prog 65 #[.pointer (some ⟨g, 0, none⟩), .int .i64 m] w fun e w' => ∃ x : Int, e = .returned (.int .i64 x) ∧ (-m ≤ x ∧ x ≤ m) ∧ SrcAt w' g A n c (k + 4) ∧ w.grownBy w' (some g) := by
  have H0 := hide hS
  clear hS
  have hm1 : ¬ m + 1 = 0 := by omega
  have hm2 : (m + 1 == 0) = false := by simp; omega
  go_enter Tryd.func65, Tryd.ntmps65
  go_wp2_with fail
  (with_reducible refine (next_any g A n c k (by omega) _ H0.out).mono ?_)
  rintro e w1 ⟨x1, rfl, ⟨a1, b1⟩, hS1, hG1⟩
  have H1 := hide hS1
  have G1 := hide (hG1)
  clear hS1 hG1
  go_wp2_with fail
  (with_reducible refine (next_any g A n c (k + 1) (by omega) _ H1.out).mono ?_)
  rintro e w2 ⟨x2, rfl, ⟨a2, b2⟩, hS2, hG2⟩
  have H2 := hide hS2
  have G2 := hide (GB.trans G1.out hG2)
  clear hS2 hG2
  go_wp2_with fail
  (with_reducible refine (next_any g A n c (k + 1 + 1) (by omega) _ H2.out).mono ?_)
  rintro e w3 ⟨x3, rfl, ⟨a3, b3⟩, hS3, hG3⟩
  have H3 := hide hS3
  have G3 := hide (GB.trans G2.out hG3)
  clear hS3 hG3
  have hr0 : 0 ≤ (x1 * 65536 + x2 * 256 + x3) % (m + 1) := Int.emod_nonneg _ hm1
  have hr1 : (x1 * 65536 + x2 * 256 + x3) % (m + 1) < m + 1 := Int.emod_lt_of_pos _ (by omega)
  go_wp2_with fail
  (with_reducible refine (one_any 2 (by decide) (by decide) g A n c (k + 1 + 1 + 1) (by omega) _ H3.out).mono ?_)
  rintro e w4 ⟨b, rfl, hS4, hG4⟩
  have H4 := hide hS4
  have G4 := hide (GB.trans G3.out hG4)
  clear hS4 hG4
  generalize (x1 * 65536 + x2 * 256 + x3) % (m + 1) = y at *
  cases b
  · go_wp2
    go_ret
    exact ⟨y, rfl, ⟨by omega, by omega⟩, H4.out, G4.out⟩
  · go_wp2
    go_ret
    exact ⟨-y, rfl, ⟨by omega, by omega⟩, H4.out, G4.out⟩
set_option maxRecDepth 100000 in
set_option maxHeartbeats 16000000 in
theorem l03Draw_any (m : Int) (h1 : 1 ≤ m) (h2 : m ≤ 262144) (g : Nat) (A : Option Addr) (n c k : Nat) (hk : k < 900) (w : World) (hS : SrcAt w g A n c k) : Calls Tryd.prog 43 #[.pointer (some ⟨g, 0, none⟩), .int .i64 m] w fun e w' => ∃ x y : Int, e = .returned (.agg #[.int .i64 x, .int .i64 y]) ∧ (-m ≤ x ∧ x ≤ m) ∧ (-m ≤ y ∧ y ≤ m) ∧ SrcAt w' g A n c (k + 8) ∧ w.grownBy w' (some g) := by
  have hl := hS.lt
  have H0 := hide (SrcAt.alloc hS (.cells #[.int .i64 0, .int .i64 0] 41))
  clear hS
  go_enter Tryd.func43, Tryd.ntmps43
  go_wp2_with fail
  (with_reducible refine (l03Coord_any m h1 h2 g A n c k (by omega) _ H0.out).mono ?_)
  rintro e w1 ⟨x, rfl, hx, hS1, hG1⟩
  have o1 : w1.heap[w.heap.size]? = some (.cells #[.int .i64 0, .int .i64 0] 41 (0, 0)) := (hG1.block _ (by simp) (fun e => by injection e; omega)).trans (ug_new _ _ rfl)
  have z1 := hG1.size
  simp at z1
  have H1 := hide hS1
  have G1 := hide (GB.trans (GB.alloc (GB.refl w g) _) hG1)
  clear hS1 hG1
  go_wp2_with fail
  (with_reducible refine (l03Coord_any m h1 h2 g A n c (k + 4) (by omega) _ H1.out).mono ?_)
  rintro e w2 ⟨y, rfl, hy, hS2, hG2⟩
  have o2 : w2.heap[w.heap.size]? = some (.cells #[.int .i64 0, .int .i64 0] 41 (0, 0)) := (hG2.block _ (by omega) (fun e => by injection e; omega)).trans o1
  have z2 := hG2.size
  have q2 : w.heap.size < w2.heap.size := by omega
  have k2 := ug_cell o2
  have f2 := ug_frozen o2
  have H2 := hide hS2
  have G2 := hide (GB.trans G1.out hG2)
  clear hS2 hG2 o1 o2
  go_wp2
  refine bodyPost_ret (v := .agg #[.int .i64 x, .int .i64 y]) ?_ rfl ⟨x, y, rfl, hx, hy, SrcAt.set (SrcAt.set H2.out (p := ⟨w.heap.size, 0, none⟩) (by show g < w.heap.size; omega) _) (p := ⟨w.heap.size, 1, none⟩) (by show g < w.heap.size; omega) _, GB.set (GB.set G2.out (p := ⟨w.heap.size, 0, none⟩) (Nat.le_refl _) _) (p := ⟨w.heap.size, 1, none⟩) (Nat.le_refl _) _⟩
  simp (maxDischargeDepth := 9) [results, Tryd.results43, go_sem, *]
set_option maxRecDepth 100000 in
set_option maxHeartbeats 32000000 in
theorem e8Points_any (A : Option Addr) (n c : Nat) (w : World) (hC : CodeAt w w.heap.size A n) : Calls Tryd.prog 16 #[.slice A n c] w fun e w' => ∃ (x1 y1 x2 y2 x3 y3 x4 y4 : Int), e = .returned (.tuple #[.agg #[.int .i64 x1, .int .i64 y1], .agg #[.int .i64 x2, .int .i64 y2], .agg #[.int .i64 x3, .int .i64 y3], .agg #[.int .i64 x4, .int .i64 y4]]) ∧ okPt x1 y1 = true ∧ okPt x2 y2 = true ∧ okPt x3 y3 = true ∧ okPt x4 y4 = true ∧ Below w.heap.size w w' := by
  have HC := hide hC
  clear hC
  go_enter Tryd.func16, Tryd.ntmps16
  go_wp2_with fail
  (with_reducible refine (l00From_any A n c _ (HC.out.up (by simp; omega) (fun g hg => (ug_old _ _ (by simp; omega)).trans ((ug_old _ _ (by simp; omega)).trans ((ug_old _ _ (by simp; omega)).trans (ug_old _ _ hg)))))).mono ?_)
  rintro e w1 ⟨rfl, hS1, hb1⟩
  have H1 : SrcAt w1 (w.heap.size + 1 + 1 + 1 + 1) A n c 0 := by simpa using hS1
  have l1 := H1.lt
  have a0 : w1.heap[w.heap.size]? = some (.cells #[.int .i64 0, .int .i64 0] 41 (0, 0)) := (hb1.block _ (by simp <;> omega)).trans ((ug_old _ _ (by simp <;> omega)).trans ((ug_old _ _ (by simp <;> omega)).trans ((ug_old _ _ (by simp <;> omega)).trans (ug_new _ _ rfl))))
  have a1 : w1.heap[w.heap.size + 1]? = some (.cells #[.int .i64 0, .int .i64 0] 41 (0, 0)) := (hb1.block _ (by simp <;> omega)).trans ((ug_old _ _ (by simp <;> omega)).trans ((ug_old _ _ (by simp <;> omega)).trans (ug_new _ _ (by simp))))
  have a2 : w1.heap[w.heap.size + 1 + 1]? = some (.cells #[.int .i64 0, .int .i64 0] 41 (0, 0)) := (hb1.block _ (by simp <;> omega)).trans ((ug_old _ _ (by simp <;> omega)).trans (ug_new _ _ (by simp)))
  have a3 : w1.heap[w.heap.size + 1 + 1 + 1]? = some (.cells #[.int .i64 0, .int .i64 0] 41 (0, 0)) := (hb1.block _ (by simp <;> omega)).trans (ug_new _ _ (by simp))
  have B1 : Below w.heap.size w w1 := bl_call (by repeat (first | (with_reducible refine bl_set ?_ (by simp <;> omega) _) | (with_reducible refine bl_alloc ?_ (Nat.le_refl _) _) | (with_reducible refine Below.drew ?_) | (with_reducible assumption) | (with_reducible exact Below.refl _ _))) hb1
  clear hS1 hb1 HC
  have HA := hide (among_any [3, 6, 30, 1000, 262144] 5 rfl (by decide) (by decide) w1.heap.size (w.heap.size + 1 + 1 + 1 + 1) A n c 0 (by omega) (w1.alloc (.cells #[.int .i64 3, .int .i64 6, .int .i64 30, .int .i64 1000, .int .i64 262144] 2)) (SrcAt.alloc H1 _) (by simp) (by omega) (fun j hj => by rw [ug_cell (ug_new _ _ rfl)]; rcases (show j = 0 ∨ j = 1 ∨ j = 2 ∨ j = 3 ∨ j = 4 by omega) with rfl | rfl | rfl | rfl | rfl <;> rfl))
  go_wp2_with fail
  (with_reducible refine HA.out.mono ?_)
  rintro e w2 ⟨m, rfl, hm, hS2, hG2⟩
  have hm1 : 1 ≤ m ∧ m ≤ 262144 := by
    simp at hm
    omega
  obtain ⟨m1, m2⟩ := hm1
  have z2 := hG2.size
  simp at z2
  have b0 : w2.heap[w.heap.size]? = some (.cells #[.int .i64 0, .int .i64 0] 41 (0, 0)) := (hG2.block _ (by simp; omega) (fun e => by injection e; omega)).trans ((ug_old _ _ (by omega)).trans a0)
  have b1 : w2.heap[w.heap.size + 1]? = some (.cells #[.int .i64 0, .int .i64 0] 41 (0, 0)) := (hG2.block _ (by simp; omega) (fun e => by injection e; omega)).trans ((ug_old _ _ (by omega)).trans a1)
  have b2 : w2.heap[w.heap.size + 1 + 1]? = some (.cells #[.int .i64 0, .int .i64 0] 41 (0, 0)) := (hG2.block _ (by simp; omega) (fun e => by injection e; omega)).trans ((ug_old _ _ (by omega)).trans a2)
  have b3 : w2.heap[w.heap.size + 1 + 1 + 1]? = some (.cells #[.int .i64 0, .int .i64 0] 41 (0, 0)) := (hG2.block _ (by simp; omega) (fun e => by injection e; omega)).trans ((ug_old _ _ (by omega)).trans a3)
  have B2 : Below w.heap.size w w2 := GB.under (B1.alloc (by omega) _) hG2 (by omega)
  clear hG2 a0 a1 a2 a3 HA H1 hm B1
  go_wp2_with fail
  (with_reducible refine (l03Draw_any m m1 m2 (w.heap.size + 1 + 1 + 1 + 1) A n c (0 + 1) (by omega) _ hS2).mono ?_)
  rintro e w3 ⟨x1, y1, rfl, hx1, hy1, hT0, hG3⟩
  have z3 := hG3.size
  have c0 : (w3.alloc (.cells #[.int .i64 x1, .int .i64 y1] 41)).heap[w.heap.size]? = some (.cells #[.int .i64 0, .int .i64 0] 41 (0, 0)) := (ug_old _ _ (by omega)).trans ((hG3.block _ (by omega) (fun e => by injection e; omega)).trans b0)
  have c1 : (w3.alloc (.cells #[.int .i64 x1, .int .i64 y1] 41)).heap[w.heap.size + 1]? = some (.cells #[.int .i64 0, .int .i64 0] 41 (0, 0)) := (ug_old _ _ (by omega)).trans ((hG3.block _ (by omega) (fun e => by injection e; omega)).trans b1)
  have c2 : (w3.alloc (.cells #[.int .i64 x1, .int .i64 y1] 41)).heap[w.heap.size + 1 + 1]? = some (.cells #[.int .i64 0, .int .i64 0] 41 (0, 0)) := (ug_old _ _ (by omega)).trans ((hG3.block _ (by omega) (fun e => by injection e; omega)).trans b2)
  have c3 : (w3.alloc (.cells #[.int .i64 x1, .int .i64 y1] 41)).heap[w.heap.size + 1 + 1 + 1]? = some (.cells #[.int .i64 0, .int .i64 0] 41 (0, 0)) := (ug_old _ _ (by omega)).trans ((hG3.block _ (by omega) (fun e => by injection e; omega)).trans b3)
  have cp0 : (w3.alloc (.cells #[.int .i64 x1, .int .i64 y1] 41)).heap[w3.heap.size]? = some (.cells #[.int .i64 x1, .int .i64 y1] 41 (0, 0)) := ug_new _ _ rfl
  have B3 : Below w.heap.size w (w3.alloc (.cells #[.int .i64 x1, .int .i64 y1] 41)) := (GB.under B2 hG3 (by omega)).alloc (by omega) _
  have S0 : SrcAt (w3.alloc (.cells #[.int .i64 x1, .int .i64 y1] 41)) (w.heap.size + 1 + 1 + 1 + 1) A n c ((0 + 1) + 8) := hT0.alloc _
  clear hT0 hG3 b0 b1 b2 b3  B2 hS2
  go_wp2_with fail
  (with_reducible refine (l03Draw_any m m1 m2 (w.heap.size + 1 + 1 + 1 + 1) A n c ((0 + 1) + 8) (by omega) _ S0).mono ?_)
  rintro e w4 ⟨x2, y2, rfl, hx2, hy2, hT1, hG4⟩
  have z4 := hG4.size
  simp at z4
  have d0 : (w4.alloc (.cells #[.int .i64 x2, .int .i64 y2] 41)).heap[w.heap.size]? = some (.cells #[.int .i64 0, .int .i64 0] 41 (0, 0)) := (ug_old _ _ (by omega)).trans ((hG4.block _ (by simp <;> omega) (fun e => by injection e; omega)).trans c0)
  have d1 : (w4.alloc (.cells #[.int .i64 x2, .int .i64 y2] 41)).heap[w.heap.size + 1]? = some (.cells #[.int .i64 0, .int .i64 0] 41 (0, 0)) := (ug_old _ _ (by omega)).trans ((hG4.block _ (by simp <;> omega) (fun e => by injection e; omega)).trans c1)
  have d2 : (w4.alloc (.cells #[.int .i64 x2, .int .i64 y2] 41)).heap[w.heap.size + 1 + 1]? = some (.cells #[.int .i64 0, .int .i64 0] 41 (0, 0)) := (ug_old _ _ (by omega)).trans ((hG4.block _ (by simp <;> omega) (fun e => by injection e; omega)).trans c2)
  have d3 : (w4.alloc (.cells #[.int .i64 x2, .int .i64 y2] 41)).heap[w.heap.size + 1 + 1 + 1]? = some (.cells #[.int .i64 0, .int .i64 0] 41 (0, 0)) := (ug_old _ _ (by omega)).trans ((hG4.block _ (by simp <;> omega) (fun e => by injection e; omega)).trans c3)
  have dp0 : (w4.alloc (.cells #[.int .i64 x2, .int .i64 y2] 41)).heap[w3.heap.size]? = some (.cells #[.int .i64 x1, .int .i64 y1] 41 (0, 0)) := (ug_old _ _ (by omega)).trans ((hG4.block _ (by simp <;> omega) (fun e => by injection e; omega)).trans cp0)
  have dp1 : (w4.alloc (.cells #[.int .i64 x2, .int .i64 y2] 41)).heap[w4.heap.size]? = some (.cells #[.int .i64 x2, .int .i64 y2] 41 (0, 0)) := ug_new _ _ rfl
  have B4 : Below w.heap.size w (w4.alloc (.cells #[.int .i64 x2, .int .i64 y2] 41)) := (GB.under B3 hG4 (by omega)).alloc (by omega) _
  have S1 : SrcAt (w4.alloc (.cells #[.int .i64 x2, .int .i64 y2] 41)) (w.heap.size + 1 + 1 + 1 + 1) A n c (((0 + 1) + 8) + 8) := hT1.alloc _
  clear hT1 hG4 c0 c1 c2 c3 cp0 B3 S0
  go_wp2_with fail
  (with_reducible refine (l03Draw_any m m1 m2 (w.heap.size + 1 + 1 + 1 + 1) A n c (((0 + 1) + 8) + 8) (by omega) _ S1).mono ?_)
  rintro e w5 ⟨x3, y3, rfl, hx3, hy3, hT2, hG5⟩
  have z5 := hG5.size
  simp at z5
  have e0 : (w5.alloc (.cells #[.int .i64 x3, .int .i64 y3] 41)).drew.heap[w.heap.size]? = some (.cells #[.int .i64 0, .int .i64 0] 41 (0, 0)) := (ug_old _ _ (by omega)).trans ((hG5.block _ (by simp <;> omega) (fun e => by injection e; omega)).trans d0)
  have e1 : (w5.alloc (.cells #[.int .i64 x3, .int .i64 y3] 41)).drew.heap[w.heap.size + 1]? = some (.cells #[.int .i64 0, .int .i64 0] 41 (0, 0)) := (ug_old _ _ (by omega)).trans ((hG5.block _ (by simp <;> omega) (fun e => by injection e; omega)).trans d1)
  have e2 : (w5.alloc (.cells #[.int .i64 x3, .int .i64 y3] 41)).drew.heap[w.heap.size + 1 + 1]? = some (.cells #[.int .i64 0, .int .i64 0] 41 (0, 0)) := (ug_old _ _ (by omega)).trans ((hG5.block _ (by simp <;> omega) (fun e => by injection e; omega)).trans d2)
  have e3 : (w5.alloc (.cells #[.int .i64 x3, .int .i64 y3] 41)).drew.heap[w.heap.size + 1 + 1 + 1]? = some (.cells #[.int .i64 0, .int .i64 0] 41 (0, 0)) := (ug_old _ _ (by omega)).trans ((hG5.block _ (by simp <;> omega) (fun e => by injection e; omega)).trans d3)
  have ep0 : (w5.alloc (.cells #[.int .i64 x3, .int .i64 y3] 41)).drew.heap[w3.heap.size]? = some (.cells #[.int .i64 x1, .int .i64 y1] 41 (0, 0)) := (ug_old _ _ (by omega)).trans ((hG5.block _ (by simp <;> omega) (fun e => by injection e; omega)).trans dp0)
  have ep1 : (w5.alloc (.cells #[.int .i64 x3, .int .i64 y3] 41)).drew.heap[w4.heap.size]? = some (.cells #[.int .i64 x2, .int .i64 y2] 41 (0, 0)) := (ug_old _ _ (by omega)).trans ((hG5.block _ (by simp <;> omega) (fun e => by injection e; omega)).trans dp1)
  have ep2 : (w5.alloc (.cells #[.int .i64 x3, .int .i64 y3] 41)).drew.heap[w5.heap.size]? = some (.cells #[.int .i64 x3, .int .i64 y3] 41 (0, 0)) := ug_new _ _ rfl
  have B5 : Below w.heap.size w (w5.alloc (.cells #[.int .i64 x3, .int .i64 y3] 41)).drew := ((GB.under B4 hG5 (by omega)).alloc (by omega) _).drew
  have S2 : SrcAt (w5.alloc (.cells #[.int .i64 x3, .int .i64 y3] 41)).drew (w.heap.size + 1 + 1 + 1 + 1) A n c ((((0 + 1) + 8) + 8) + 8) := hT2.alloc _
  clear hT2 hG5 d0 d1 d2 d3 dp0 dp1 B4 S1
  have zd : (w5.alloc (.cells #[.int .i64 x3, .int .i64 y3] 41)).drew.heap.size = w5.heap.size + 1 := by simp
  have HH := hide S2
  have HB := hide B5
  have HZ := hide zd
  clear S2 B5 zd
  have lp0 := ug_cell ep0
  have lp1 := ug_cell ep1
  have lp2 := ug_cell ep2
  have ma0 : (w5.alloc (.cells #[.int .i64 x3, .int .i64 y3] 41)).drew.cell? ⟨w3.heap.size, 0, none⟩ = some (.int .i64 x1) := lp0 0
  have ma1 : (w5.alloc (.cells #[.int .i64 x3, .int .i64 y3] 41)).drew.cell? ⟨w3.heap.size, 1, none⟩ = some (.int .i64 y1) := lp0 1
  have ma2 : (w5.alloc (.cells #[.int .i64 x3, .int .i64 y3] 41)).drew.cell? ⟨w4.heap.size, 0, none⟩ = some (.int .i64 x2) := lp1 0
  have ma3 : (w5.alloc (.cells #[.int .i64 x3, .int .i64 y3] 41)).drew.cell? ⟨w4.heap.size, 1, none⟩ = some (.int .i64 y2) := lp1 1
  have ma4 : (w5.alloc (.cells #[.int .i64 x3, .int .i64 y3] 41)).drew.cell? ⟨w5.heap.size, 0, none⟩ = some (.int .i64 x3) := lp2 0
  have ma5 : (w5.alloc (.cells #[.int .i64 x3, .int .i64 y3] 41)).drew.cell? ⟨w5.heap.size, 1, none⟩ = some (.int .i64 y3) := lp2 1
  clear lp0 lp1 lp2
  go_wp2_with fail
  go_region_held3 (fun w' => w'.cell? ⟨w3.heap.size, 0, none⟩ = some (.int .i64 x1) ∧ w'.cell? ⟨w3.heap.size, 1, none⟩ = some (.int .i64 y1) ∧ w'.cell? ⟨w4.heap.size, 0, none⟩ = some (.int .i64 x2) ∧ w'.cell? ⟨w4.heap.size, 1, none⟩ = some (.int .i64 y2) ∧ w'.cell? ⟨w5.heap.size, 0, none⟩ = some (.int .i64 x3) ∧ w'.cell? ⟨w5.heap.size, 1, none⟩ = some (.int .i64 y3))
    (first
      | (go_split_ands; refine ⟨?_, ?_, ?_, ?_, ?_, ?_⟩ <;> (with_reducible assumption))
      | (go_split_ands; refine ⟨?_, ?_, ?_, ?_, ?_, ?_⟩ <;> (repeat (first | (with_reducible assumption) | (rw [World.cell?_setCell_other _ _ _ _ (by intro e; injection e; omega)])))))
    (first | (go_at_call 43; ((with_reducible refine (l03Draw_any m m1 m2 (w.heap.size + 1 + 1 + 1 + 1) A n c ((((0 + 1) + 8) + 8) + 8) (by omega) _ HH.out).mono ?_); rintro e w6 ⟨x4, y4, rfl, hx4, hy4, hS6, hG6⟩; have z6 := hG6.size; rw [HZ.out] at z6; have r0 := (hG6.block _ (by rw [HZ.out] <;> omega) (fun e => by injection e; omega)).trans e0; have c0 := ug_cell r0; have f0 := ug_frozen r0; have r1 := (hG6.block _ (by rw [HZ.out] <;> omega) (fun e => by injection e; omega)).trans e1; have c1 := ug_cell r1; have f1 := ug_frozen r1; have r2 := (hG6.block _ (by rw [HZ.out] <;> omega) (fun e => by injection e; omega)).trans e2; have c2 := ug_cell r2; have f2 := ug_frozen r2; have r3 := (hG6.block _ (by rw [HZ.out] <;> omega) (fun e => by injection e; omega)).trans e3; have c3 := ug_cell r3; have f3 := ug_frozen r3; have rp0 := (hG6.block _ (by rw [HZ.out] <;> omega) (fun e => by injection e; omega)).trans ep0; have cp0 := ug_cell rp0; have rp1 := (hG6.block _ (by rw [HZ.out] <;> omega) (fun e => by injection e; omega)).trans ep1; have cp1 := ug_cell rp1; have rp2 := (hG6.block _ (by rw [HZ.out] <;> omega) (fun e => by injection e; omega)).trans ep2; have cp2 := ug_cell rp2; have mb0 : w6.cell? ⟨w3.heap.size, 0, none⟩ = some (.int .i64 x1) := cp0 0; have mb1 : w6.cell? ⟨w3.heap.size, 1, none⟩ = some (.int .i64 y1) := cp0 1; have mb2 : w6.cell? ⟨w4.heap.size, 0, none⟩ = some (.int .i64 x2) := cp1 0; have mb3 : w6.cell? ⟨w4.heap.size, 1, none⟩ = some (.int .i64 y2) := cp1 1; have mb4 : w6.cell? ⟨w5.heap.size, 0, none⟩ = some (.int .i64 x3) := cp2 0; have mb5 : w6.cell? ⟨w5.heap.size, 1, none⟩ = some (.int .i64 y3) := cp2 1; have B6 := GB.under HB.out hG6 (by omega); have q0 : w.heap.size < w6.heap.size := (by omega); have q1 : w.heap.size + 1 < w6.heap.size := (by omega); have q2 : w.heap.size + 1 + 1 < w6.heap.size := (by omega); have q3 : w.heap.size + 1 + 1 + 1 < w6.heap.size := (by omega); clear hS6 hG6 r0 r1 r2 r3 rp0 rp1 rp2)))
  all_goals (go_wp2; refine bodyPost_ret (v := .tuple #[.agg #[.int .i64 x1, .int .i64 y1], .agg #[.int .i64 x2, .int .i64 y2], .agg #[.int .i64 x3, .int .i64 y3], .agg #[.int .i64 x4, .int .i64 y4]]) ?_ rfl ⟨x1, y1, x2, y2, x3, y3, x4, y4, rfl, ok_of hx1 hy1 m2, ok_of hx2 hy2 m2, ok_of hx3 hy3 m2, ok_of hx4 hy4 m2, (by repeat (first | (with_reducible refine bl_set ?_ (by simp <;> omega) _) | (with_reducible refine bl_alloc ?_ (Nat.le_refl _) _) | (with_reducible refine Below.drew ?_) | (with_reducible assumption) | (with_reducible exact Below.refl _ _)))⟩; (simp (maxDischargeDepth := 9) [results, Tryd.results16, go_sem, *]))
end Go.Proofs.YtickgkfgmbaalaaDoor
