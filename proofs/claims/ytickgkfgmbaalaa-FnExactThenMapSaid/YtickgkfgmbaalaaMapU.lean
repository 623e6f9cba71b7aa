/-
  CONTRACTS of the reference's l04Then and ThenMap, and the walk of the law FnExactThenMap. Conditions: integers of 64 bits; for l04Then the maps are valid.
-/
import Derived.Test.YtickgkfgmbaalaaMapT
import Derived.Test.YtickgkfgmbaalaaMapK
import Derived.Deep.DeepCutAuto
import Derived.BigRegion
namespace Go.Proofs.Ytickgkfgmbaalaa
open Go.RowKit Go.Sort
set_option linter.unusedVariables false
attribute [local go_sem] cell_grow frozen_grow
attribute [local go_sem] Oper.quietAt Oper.quietUpon
def tl (a b : Af) (n : Nat) : List F2 := [dotF b.xx a.xx b.xy a.yx, dotF b.xx a.xy b.xy a.yy, dotF b.yx a.xx b.yy a.yx, dotF b.yx a.xy b.yy a.yy, movF b.xx a.dx b.xy a.dy b.dx, movF b.yx a.dx b.yy a.dy b.dy].take n
def tg (a b : Af) (n : Nat) : Bool := [true, tA1 a b, tA2 a b, tA3 a b, tA4 a b, tA5 a b, tA6 a b].getD n true
def thV (a b : Af) : Af := if tA6 a b then thenF a b else zeroA
theorem thV_t {a b : Af} (h : tA6 a b = true) : thV a b = thenF a b := by unfold thV; rw [h]; rfl
theorem thV_f {a b : Af} (h : tA6 a b = false) : thV a b = zeroA := by unfold thV; rw [h]; rfl
theorem tl_len (a b : Af) {n : Nat} (h : n ≤ 6) : (tl a b n).length = n := by unfold tl; simp; omega
theorem tg_6 {a b : Af} {n : Nat} (h : n ≤ 6) (h2 : tg a b n = false) : tA6 a b = false := by
  cases h6 : tA6 a b
  · rfl
  · have e5 : tA5 a b = true := and_t1 h6
    have e4 : tA4 a b = true := and_t1 e5
    have e3 : tA3 a b = true := and_t1 e4
    have e2 : tA2 a b = true := and_t1 e3
    have e1 : tA1 a b = true := and_t1 e2
    have : n = 0 ∨ n = 1 ∨ n = 2 ∨ n = 3 ∨ n = 4 ∨ n = 5 ∨ n = 6 := by omega
    rcases this with rfl | rfl | rfl | rfl | rfl | rfl | rfl
    · exact absurd h2 (by show ¬ true = false; decide)
    · exact absurd (h2.symm.trans e1) (by decide)
    · exact absurd (h2.symm.trans e2) (by decide)
    · exact absurd (h2.symm.trans e3) (by decide)
    · exact absurd (h2.symm.trans e4) (by decide)
    · exact absurd (h2.symm.trans e5) (by decide)
    · exact absurd (h2.symm.trans h6) (by decide)
/-- rows and columns by number -/
def rX (b : Af) (i : Nat) : F2 := if i = 0 then b.xx else b.yx
def rY (b : Af) (i : Nat) : F2 := if i = 0 then b.xy else b.yy
def rZ (b : Af) (i : Nat) : F2 := if i = 0 then b.dx else b.dy
def cX (a : Af) (k : Nat) : F2 := if k = 0 then a.xx else a.xy
def cY (a : Af) (k : Nat) : F2 := if k = 0 then a.yx else a.yy
theorem tl_s (a b : Af) {i k : Nat} (hi : i < 2) (hk : k < 2) : tl a b (2 * i + k + 1) = tl a b (2 * i + k) ++ [dotF (rX b i) (cX a k) (rY b i) (cY a k)] := by
  have h1 : i = 0 ∨ i = 1 := by omega
  have h2 : k = 0 ∨ k = 1 := by omega
  rcases h1 with rfl | rfl <;> rcases h2 with rfl | rfl <;> rfl
theorem tg_s (a b : Af) {i k : Nat} (hi : i < 2) (hk : k < 2) : tg a b (2 * i + k + 1) = (tg a b (2 * i + k) && dotG (rX b i) (cX a k) (rY b i) (cY a k)) := by
  have h1 : i = 0 ∨ i = 1 := by omega
  have h2 : k = 0 ∨ k = 1 := by omega
  rcases h1 with rfl | rfl <;> rcases h2 with rfl | rfl
  · show tA1 a b = (true && _); rw [Bool.true_and]; rfl
  · rfl
  · rfl
  · rfl
theorem tl_m (a b : Af) {k : Nat} (hk : k < 2) : tl a b (4 + k + 1) = tl a b (4 + k) ++ [movF (rX b k) a.dx (rY b k) a.dy (rZ b k)] := by
  have h2 : k = 0 ∨ k = 1 := by omega
  rcases h2 with rfl | rfl <;> rfl
theorem tg_m (a b : Af) {k : Nat} (hk : k < 2) : tg a b (4 + k + 1) = (tg a b (4 + k) && movG (rX b k) a.dx (rY b k) a.dy (rZ b k)) := by
  have h2 : k = 0 ∨ k = 1 := by omega
  rcases h2 with rfl | rfl <;> rfl
theorem ro_ok {b : Af} (h : okAf b = true) (i : Nat) : okF (rX b i) = true ∧ okF (rY b i) = true ∧ okF (rZ b i) = true := by
  obtain ⟨v0, v1, v2, v3, v4, v5⟩ := okAf_t h
  unfold rX rY rZ
  split
  · exact ⟨v0, v1, v4⟩
  · exact ⟨v2, v3, v5⟩
theorem co_ok {a : Af} (h : okAf a = true) (k : Nat) : okF (cX a k) = true ∧ okF (cY a k) = true := by
  obtain ⟨v0, v1, v2, v3, v4, v5⟩ := okAf_t h
  unfold cX cY
  split
  · exact ⟨v0, v2⟩
  · exact ⟨v1, v3⟩
/-- the blocks of the rows and of the columns, in whichever order they were made -/
structure RC (w : World) (a b : Af) (c0 c1 cB r0 r1 rB : Nat) : Prop where
  hc0 : w.heap[c0]? = some (.cells #[.int .i64 a.xx.1, .int .i64 a.xx.2, .int .i64 a.yx.1, .int .i64 a.yx.2] 23 (0, 0))
  hc1 : w.heap[c1]? = some (.cells #[.int .i64 a.xy.1, .int .i64 a.xy.2, .int .i64 a.yy.1, .int .i64 a.yy.2] 23 (0, 0))
  hcB : w.heap[cB]? = some (.cells #[.slice (some ⟨c0, 0, none⟩) 2 2, .slice (some ⟨c1, 0, none⟩) 2 2] 79 (0, 0))
  hr0 : w.heap[r0]? = some (.cells #[.int .i64 b.xx.1, .int .i64 b.xx.2, .int .i64 b.xy.1, .int .i64 b.xy.2, .int .i64 b.dx.1, .int .i64 b.dx.2] 23 (0, 0))
  hr1 : w.heap[r1]? = some (.cells #[.int .i64 b.yx.1, .int .i64 b.yx.2, .int .i64 b.yy.1, .int .i64 b.yy.2, .int .i64 b.dy.1, .int .i64 b.dy.2] 23 (0, 0))
  hrB : w.heap[rB]? = some (.cells #[.slice (some ⟨r0, 0, none⟩) 3 3, .slice (some ⟨r1, 0, none⟩) 3 3] 79 (0, 0))
theorem RC.kept {w w' : World} {a b : Af} {c0 c1 cB r0 r1 rB : Nat} (h : RC w a b c0 c1 cB r0 r1 rB) (k : ∀ x, x = c0 ∨ x = c1 ∨ x = cB ∨ x = r0 ∨ x = r1 ∨ x = rB → w'.heap[x]? = w.heap[x]?) : RC w' a b c0 c1 cB r0 r1 rB :=
  ⟨(k _ (by simp)).trans h.hc0, (k _ (by simp)).trans h.hc1, (k _ (by simp)).trans h.hcB, (k _ (by simp)).trans h.hr0, (k _ (by simp)).trans h.hr1, (k _ (by simp)).trans h.hrB⟩
theorem RC.col {w : World} {a b : Af} {c0 c1 cB r0 r1 rB : Nat} (h : RC w a b c0 c1 cB r0 r1 rB) {k : Nat} (hk : k < 2) : ∃ x, (x = c0 ∨ x = c1) ∧ w.cell? ⟨cB, k, none⟩ = some (.slice (some ⟨x, 0, none⟩) 2 2) ∧ w.cell? ⟨x, 0, none⟩ = some (.int .i64 (cX a k).1) ∧ w.cell? ⟨x, 1, none⟩ = some (.int .i64 (cX a k).2) ∧ w.cell? ⟨x, 2, none⟩ = some (.int .i64 (cY a k).1) ∧ w.cell? ⟨x, 3, none⟩ = some (.int .i64 (cY a k).2) := by
  have h2 : k = 0 ∨ k = 1 := by omega
  rcases h2 with rfl | rfl
  · exact ⟨c0, .inl rfl, (ug_cell h.hcB 0).trans rfl, (ug_cell h.hc0 0).trans rfl, (ug_cell h.hc0 1).trans rfl, (ug_cell h.hc0 2).trans rfl, (ug_cell h.hc0 3).trans rfl⟩
  · exact ⟨c1, .inr rfl, (ug_cell h.hcB 1).trans rfl, (ug_cell h.hc1 0).trans rfl, (ug_cell h.hc1 1).trans rfl, (ug_cell h.hc1 2).trans rfl, (ug_cell h.hc1 3).trans rfl⟩
theorem RC.row {w : World} {a b : Af} {c0 c1 cB r0 r1 rB : Nat} (h : RC w a b c0 c1 cB r0 r1 rB) {k : Nat} (hk : k < 2) : ∃ x, (x = r0 ∨ x = r1) ∧ w.cell? ⟨rB, k, none⟩ = some (.slice (some ⟨x, 0, none⟩) 3 3) ∧ w.cell? ⟨x, 0, none⟩ = some (.int .i64 (rX b k).1) ∧ w.cell? ⟨x, 1, none⟩ = some (.int .i64 (rX b k).2) ∧ w.cell? ⟨x, 2, none⟩ = some (.int .i64 (rY b k).1) ∧ w.cell? ⟨x, 3, none⟩ = some (.int .i64 (rY b k).2) ∧ w.cell? ⟨x, 4, none⟩ = some (.int .i64 (rZ b k).1) ∧ w.cell? ⟨x, 5, none⟩ = some (.int .i64 (rZ b k).2) := by
  have h2 : k = 0 ∨ k = 1 := by omega
  rcases h2 with rfl | rfl
  · exact ⟨r0, .inl rfl, (ug_cell h.hrB 0).trans rfl, (ug_cell h.hr0 0).trans rfl, (ug_cell h.hr0 1).trans rfl, (ug_cell h.hr0 2).trans rfl, (ug_cell h.hr0 3).trans rfl, (ug_cell h.hr0 4).trans rfl, (ug_cell h.hr0 5).trans rfl⟩
  · exact ⟨r1, .inr rfl, (ug_cell h.hrB 1).trans rfl, (ug_cell h.hr1 0).trans rfl, (ug_cell h.hr1 1).trans rfl, (ug_cell h.hr1 2).trans rfl, (ug_cell h.hr1 3).trans rfl, (ug_cell h.hr1 4).trans rfl, (ug_cell h.hr1 5).trans rfl⟩
set_option maxRecDepth 100000 in
set_option maxHeartbeats 32000000 in
theorem l04Then_any (a b : Af) (ha : okAf a = true) (hb : okAf b = true) (p q : Nat) (w : World) (hp : p < w.heap.size) (hq : q < w.heap.size) (hm : w.heap[p]? = some (.cells (afCells a) 25 (0, 0))) (hm2 : w.heap[q]? = some (.cells (afCells b) 25 (0, 0))) :
    Calls Try.prog 49 #[.pointer (some ⟨p, 0, none⟩), .pointer (some ⟨q, 0, none⟩)] w fun e w' => e = .returned (.tuple #[afV (thV a b), .bool (tA6 a b)]) ∧ Below w.heap.size w w' := by
  obtain ⟨i0, hi, hzA, hzB, hzC⟩ := info_parts info_fr
  have c0 : w.cell? ⟨p, 0, none⟩ = some (.int .i64 a.xx.1) := (ug_cell hm 0).trans rfl
  have c1 : w.cell? ⟨p, 1, none⟩ = some (.int .i64 a.xx.2) := (ug_cell hm 1).trans rfl
  have c2 : w.cell? ⟨p, 2, none⟩ = some (.int .i64 a.xy.1) := (ug_cell hm 2).trans rfl
  have c3 : w.cell? ⟨p, 3, none⟩ = some (.int .i64 a.xy.2) := (ug_cell hm 3).trans rfl
  have c4 : w.cell? ⟨p, 4, none⟩ = some (.int .i64 a.yx.1) := (ug_cell hm 4).trans rfl
  have c5 : w.cell? ⟨p, 5, none⟩ = some (.int .i64 a.yx.2) := (ug_cell hm 5).trans rfl
  have c6 : w.cell? ⟨p, 6, none⟩ = some (.int .i64 a.yy.1) := (ug_cell hm 6).trans rfl
  have c7 : w.cell? ⟨p, 7, none⟩ = some (.int .i64 a.yy.2) := (ug_cell hm 7).trans rfl
  have l1 : p < w.heap.size + 1 := by omega
  have l2 : p < w.heap.size + 1 + 1 := by omega
  have l3 : p < w.heap.size + 1 + 1 + 1 := by omega
  have l4 : p < w.heap.size + 1 + 1 + 1 + 1 := by omega
  go_enter Try.func49, Try.ntmps49
  go_upto_region 2 with fail
  go_cut [7] (fun s7 wx => ∃ c0 c1 cB : Nat, s7 = .slice (some ⟨cB, 0, none⟩) 2 2 ∧ w.heap.size + 2 ≤ c0 ∧ w.heap.size + 2 ≤ c1 ∧ w.heap.size + 2 ≤ cB ∧ wx.heap[c0]? = some (.cells #[.int .i64 a.xx.1, .int .i64 a.xx.2, .int .i64 a.yx.1, .int .i64 a.yx.2] 23 (0, 0)) ∧ wx.heap[c1]? = some (.cells #[.int .i64 a.xy.1, .int .i64 a.xy.2, .int .i64 a.yy.1, .int .i64 a.yy.2] 23 (0, 0)) ∧ wx.heap[cB]? = some (.cells #[.slice (some ⟨c0, 0, none⟩) 2 2, .slice (some ⟨c1, 0, none⟩) 2 2] 79 (0, 0)) ∧ Below (w.heap.size + 2) ((w.alloc (.cells (afCells zeroA) 25)).alloc (.cells #[] 23)) wx)
  case first =>
    go_region
    all_goals (go_wp2_with fail; go_meet)
    all_goals (first
      | (refine ⟨w.heap.size + 1 + 1, w.heap.size + 1 + 1 + 1, w.heap.size + 1 + 1 + 1 + 1, rfl, by omega, by omega, by omega, ?_, ?_, ?_, ?_⟩; (focus ((repeat (first | (refine (ug_new _ _ ?_).trans rfl; simp; done) | (refine (ug_old _ _ ?_).trans ?_; (· simp <;> omega)))); done)); (focus ((repeat (first | (refine (ug_new _ _ ?_).trans rfl; simp; done) | (refine (ug_old _ _ ?_).trans ?_; (· simp <;> omega)))); done)); (focus ((repeat (first | (refine (ug_new _ _ ?_).trans rfl; simp; done) | (refine (ug_old _ _ ?_).trans ?_; (· simp <;> omega)))); done)); (focus ((repeat (first | exact Below.refl _ _ | (refine Below.drew ?_) | (refine Below.alloc ?_ (by simp <;> omega) _))); done)); done)
      | (refine ⟨w.heap.size + 1 + 1 + 1, w.heap.size + 1 + 1, w.heap.size + 1 + 1 + 1 + 1, rfl, by omega, by omega, by omega, ?_, ?_, ?_, ?_⟩; (focus ((repeat (first | (refine (ug_new _ _ ?_).trans rfl; simp; done) | (refine (ug_old _ _ ?_).trans ?_; (· simp <;> omega)))); done)); (focus ((repeat (first | (refine (ug_new _ _ ?_).trans rfl; simp; done) | (refine (ug_old _ _ ?_).trans ?_; (· simp <;> omega)))); done)); (focus ((repeat (first | (refine (ug_new _ _ ?_).trans rfl; simp; done) | (refine (ug_old _ _ ?_).trans ?_; (· simp <;> omega)))); done)); (focus ((repeat (first | exact Below.refl _ _ | (refine Below.drew ?_) | (refine Below.alloc ?_ (by simp <;> omega) _))); done)); done))
  case rest =>
  obtain ⟨c0, c1, cB, rfl, g0, g1, gB, x0, x1, xB, hbC⟩ := hcut
  obtain ⟨wa, rfl⟩ : ∃ wa, wa = wc := ⟨_, rfl⟩
  have zC := hbC.size
  simp at zC
  have mQ : wa.heap[q]? = some (.cells (afCells b) 25 (0, 0)) := (hbC.block _ (by omega)).trans ((ug_old _ _ (by simp; omega)).trans ((ug_old _ _ hq).trans hm2))
  have mP : wa.heap[p]? = some (.cells (afCells a) 25 (0, 0)) := (hbC.block _ (by omega)).trans ((ug_old _ _ (by simp; omega)).trans ((ug_old _ _ hp).trans hm))
  have mR : wa.heap[w.heap.size]? = some (.cells (afCells zeroA) 25 (0, 0)) := (hbC.block _ (by omega)).trans ((ug_old _ _ (by simp)).trans (ug_new _ _ rfl))
  have mL : wa.heap[w.heap.size + 1]? = some (.cells #[] 23 (0, 0)) := (hbC.block _ (by omega)).trans (ug_new _ _ (by simp))
  have bA : Below w.heap.size w wa := (((Below.refl _ _).alloc (Nat.le_refl _) _).alloc (by simp) _).trans (hbC.mono (by omega))
  clear hbC hm hm2 c2 c3 c4 c5 c6 c7 l1 l2 l3 l4
  have d0 : wa.cell? ⟨q, 0, none⟩ = some (.int .i64 b.xx.1) := (ug_cell mQ 0).trans rfl
  have d1 : wa.cell? ⟨q, 1, none⟩ = some (.int .i64 b.xx.2) := (ug_cell mQ 1).trans rfl
  have d2 : wa.cell? ⟨q, 2, none⟩ = some (.int .i64 b.xy.1) := (ug_cell mQ 2).trans rfl
  have d3 : wa.cell? ⟨q, 3, none⟩ = some (.int .i64 b.xy.2) := (ug_cell mQ 3).trans rfl
  have d4 : wa.cell? ⟨q, 4, none⟩ = some (.int .i64 b.yx.1) := (ug_cell mQ 4).trans rfl
  have d5 : wa.cell? ⟨q, 5, none⟩ = some (.int .i64 b.yx.2) := (ug_cell mQ 5).trans rfl
  have d6 : wa.cell? ⟨q, 6, none⟩ = some (.int .i64 b.yy.1) := (ug_cell mQ 6).trans rfl
  have d7 : wa.cell? ⟨q, 7, none⟩ = some (.int .i64 b.yy.2) := (ug_cell mQ 7).trans rfl
  have d8 : wa.cell? ⟨q, 8, none⟩ = some (.int .i64 b.dx.1) := (ug_cell mQ 8).trans rfl
  have d9 : wa.cell? ⟨q, 9, none⟩ = some (.int .i64 b.dx.2) := (ug_cell mQ 9).trans rfl
  have d10 : wa.cell? ⟨q, 10, none⟩ = some (.int .i64 b.dy.1) := (ug_cell mQ 10).trans rfl
  have d11 : wa.cell? ⟨q, 11, none⟩ = some (.int .i64 b.dy.2) := (ug_cell mQ 11).trans rfl
  have l1 : q < wa.heap.size := by omega
  have l2 : q < wa.heap.size + 1 := by omega
  have l3 : q < wa.heap.size + 1 + 1 := by omega
  have l4 : q < wa.heap.size + 1 + 1 + 1 := by omega
  go_upto_region 3 with fail
  go_cut [8] (fun s8 wx => ∃ r0 r1 rB : Nat, s8 = .slice (some ⟨rB, 0, none⟩) 2 2 ∧ wa.heap.size ≤ r0 ∧ wa.heap.size ≤ r1 ∧ wa.heap.size ≤ rB ∧ wx.heap[r0]? = some (.cells #[.int .i64 b.xx.1, .int .i64 b.xx.2, .int .i64 b.xy.1, .int .i64 b.xy.2, .int .i64 b.dx.1, .int .i64 b.dx.2] 23 (0, 0)) ∧ wx.heap[r1]? = some (.cells #[.int .i64 b.yx.1, .int .i64 b.yx.2, .int .i64 b.yy.1, .int .i64 b.yy.2, .int .i64 b.dy.1, .int .i64 b.dy.2] 23 (0, 0)) ∧ wx.heap[rB]? = some (.cells #[.slice (some ⟨r0, 0, none⟩) 3 3, .slice (some ⟨r1, 0, none⟩) 3 3] 79 (0, 0)) ∧ Below wa.heap.size wa wx)
  case first =>
    go_region
    all_goals (go_wp2_with fail; go_meet)
    all_goals (first
      | (refine ⟨wa.heap.size, wa.heap.size + 1, wa.heap.size + 1 + 1, rfl, by omega, by omega, by omega, ?_, ?_, ?_, ?_⟩; (focus ((repeat (first | (refine (ug_new _ _ ?_).trans rfl; simp; done) | (refine (ug_old _ _ ?_).trans ?_; (· simp <;> omega)))); done)); (focus ((repeat (first | (refine (ug_new _ _ ?_).trans rfl; simp; done) | (refine (ug_old _ _ ?_).trans ?_; (· simp <;> omega)))); done)); (focus ((repeat (first | (refine (ug_new _ _ ?_).trans rfl; simp; done) | (refine (ug_old _ _ ?_).trans ?_; (· simp <;> omega)))); done)); (focus ((repeat (first | exact Below.refl _ _ | (refine Below.drew ?_) | (refine Below.alloc ?_ (by simp <;> omega) _))); done)); done)
      | (refine ⟨wa.heap.size + 1, wa.heap.size, wa.heap.size + 1 + 1, rfl, by omega, by omega, by omega, ?_, ?_, ?_, ?_⟩; (focus ((repeat (first | (refine (ug_new _ _ ?_).trans rfl; simp; done) | (refine (ug_old _ _ ?_).trans ?_; (· simp <;> omega)))); done)); (focus ((repeat (first | (refine (ug_new _ _ ?_).trans rfl; simp; done) | (refine (ug_old _ _ ?_).trans ?_; (· simp <;> omega)))); done)); (focus ((repeat (first | (refine (ug_new _ _ ?_).trans rfl; simp; done) | (refine (ug_old _ _ ?_).trans ?_; (· simp <;> omega)))); done)); (focus ((repeat (first | exact Below.refl _ _ | (refine Below.drew ?_) | (refine Below.alloc ?_ (by simp <;> omega) _))); done)); done))
  case rest =>
  obtain ⟨r0, r1, rB, rfl, k0, k1, kB, y0, y1, yB, hbD⟩ := hcut
  obtain ⟨wd, rfl⟩ : ∃ wd, wd = wc := ⟨_, rfl⟩
  have zD := hbD.size
  have lt_of : ∀ {x : Nat} {o : Obj}, wa.heap[x]? = some o → x < wa.heap.size := fun h => (Array.getElem?_eq_some_iff.1 h).1
  have lt_of2 : ∀ {x : Nat} {o : Obj}, wd.heap[x]? = some o → x < wd.heap.size := fun h => (Array.getElem?_eq_some_iff.1 h).1
  have hRC : RC wd a b c0 c1 cB r0 r1 rB := ⟨(hbD.block _ (lt_of x0)).trans x0, (hbD.block _ (lt_of x1)).trans x1, (hbD.block _ (lt_of xB)).trans xB, y0, y1, yB⟩
  have mP2 := (hbD.block _ (lt_of mP)).trans mP
  have mR2 := (hbD.block _ (lt_of mR)).trans mR
  have mL2 := (hbD.block _ (lt_of mL)).trans mL
  have bD : Below w.heap.size w wd := bA.trans (hbD.mono (by omega))
  have e0 := lt_of x0
  have e1 := lt_of x1
  have eB := lt_of xB
  have f0 := lt_of2 y0
  have f1 := lt_of2 y1
  have fB := lt_of2 yB
  have HRC := hide hRC
  have HMP := hide mP2
  have HMR := hide mR2
  clear hRC mP2 mR2 mP mR mL mQ hbD bA x0 x1 xB y0 y1 yB lt_of lt_of2 l1 l2 l3 l4 d0 d1 d2 d3 d4 d5 d6 d7 d8 d9 d10 d11
  go_wp2
  go_loopw [6, 9] (fun v iv wr => ∃ i g cap : Nat, i ≤ 2 ∧ iv = .int .i64 i ∧ v = .slice (some ⟨g, 0, none⟩) (2 * i) cap ∧ Hid (tg a b (2 * i) = true) ∧ Hid (Under 23 2 (w.heap.size + 1) (.slice (some ⟨g, 0, none⟩) (2 * i) cap) (2 * i) (flat2 (tl a b (2 * i))) w wd wr)) (fun _ iv _ => 2 - (intOf iv).toNat)
  case atStart => exact ⟨0, w.heap.size + 1, 0, by omega, rfl, rfl, rfl, Under.start ⟨rfl, .inr ⟨w.heap.size + 1, 0, #[], rfl, Nat.le_refl _, mL2, Nat.le_refl _, by decide, rfl, rfl⟩⟩ (fun k hk => by simp [Value.ownBlock] at hk; exact hk.symm) (by omega) (by omega) bD⟩
  case round =>
    obtain ⟨i, g, cap, hi2, rfl, rfl, hg, hU⟩ := hrel
    clear mL2 bD
    by_cases hin : i < 2
    · have hU0 := hU
      have hg0 := hg
      have hin2 : (i : Int) < 2 := by omega
      have hin3 : decide ((i : Int) < 2) = true := decide_eq_true hin2
      clear hU hg
      go_wp2
      go_loopw [6, 10] (fun v kv wr => ∃ k g cap : Nat, k ≤ 2 ∧ kv = .int .i64 k ∧ v = .slice (some ⟨g, 0, none⟩) (2 * i + k) cap ∧ Hid (tg a b (2 * i + k) = true) ∧ Hid (Under 23 2 (w.heap.size + 1) (.slice (some ⟨g, 0, none⟩) (2 * i + k) cap) (2 * i + k) (flat2 (tl a b (2 * i + k))) w wd wr)) (fun _ kv _ => 2 - (intOf kv).toNat)
      case atStart => exact ⟨0, g, cap, by omega, rfl, rfl, hg0, hU0⟩
      case round =>
        obtain ⟨k, g, cap, hk, rfl, rfl, hg, hU⟩ := hrel
        clear hU0 hg0
        by_cases hkn : k < 2
        · have hbr : Below w.heap.size w wr := hU.out.below
          have hsz := hU.out.size
          have hRw := HRC.out.kept (w' := wr) (fun x hx => hU.out.rest x (by rcases hx with rfl | rfl | rfl | rfl | rfl | rfl <;> omega) (by rcases hx with rfl | rfl | rfl | rfl | rfl | rfl <;> omega))
          obtain ⟨x, hx, y0, y1, y2, y3, y4⟩ := hRw.col hkn
          obtain ⟨z, hz, z0, z1, z2, z3, z4, _, _⟩ := hRw.row hin
          have hxl : x < wr.heap.size := by rcases hx with rfl | rfl <;> omega
          have hzl : z < wr.heap.size := by rcases hz with rfl | rfl <;> omega
          have hcl : cB < wr.heap.size := by omega
          have hrl : rB < wr.heap.size := by omega
          have xR := (hU.out.rest w.heap.size (by omega) (by omega)).trans HMR.out
          have cR := zero12 xR
          have fR := ug_frozen xR
          have hza : w.heap.size < wr.heap.size := by omega
          have hzb : w.heap.size + 1 < wr.heap.size := by omega
          have E1 := hide (tl_s a b hin hkn)
          have E2 := hide (tg_s a b hin hkn)
          have HT := l04Two_any (rX b i) (cX a k) (rY b i) (cY a k) (ro_ok hb i).1 (co_ok ha k).1 (ro_ok hb i).2.1 (co_ok ha k).2
          clear hx hz hRw xR
          generalize rX b i = rx at *
          generalize rY b i = ry at *
          generalize cX a k = cx at *
          generalize cY a k = cy at *
          cases hq2 : dotG rx cx ry cy
          · have h6 : tA6 a b = false := tg_6 (n := 2 * i + k + 1) (by omega) (by rw [E2.out, hq2]; simp)
            have H6 := hide h6
            rw [hq2, cnd_f, cnd_f] at HT
            clear hq2 h6
            go_wp2
            refine wp_region_made 28 _ _ (.cells #[.int .i64 0, .int .i64 0] 23) (.cells #[.int .i64 0, .int .i64 0] 23) (by kernel_rfl) (by kernel_rfl) rfl rfl (fun _ _ => by kernel_rfl) ?_
            simp only [List.take_succ_cons, List.take_zero, List.drop_succ_cons, List.drop_zero]
            repeat (refine wpSteady_step (fun K hK => ?_); go_simp; first | (refine hK _ ?_; clear hK K) | (apply Exists.intro; refine ⟨fun _ => ?_, hK _ ?_⟩; (first | (go_at_call 58; with_reducible exact keeps_of (HT _))); clear hK K))
            refine wpSteady_nil ?_
            refine ⟨?_, ?_⟩
            · intro gx w1 _ hx
              have hk := cell_blk hx
              have hf := frozen_blk hx
              exact ⟨(World.setCell (World.setCell w1 ⟨gx, 0, none⟩ (.int .i64 0)) ⟨gx, 1, none⟩ (.int .i64 0)), (by simp [go_sem, hk, hf]), (heap_set (heap_set hx 0 _) 1 _), (only_set ((only_set (only_refl w1 gx) 0 _)) 1 _)⟩
            intro gx w1 hgx hlx hb1 hx
            have hkx := cell_blk hx
            have hfx := frozen_blk hx
            clear hx
            try simp at hgx
            obtain ⟨hc1, hf1⟩ := bcell hb1
            have hw1 : Below w.heap.size w w1 := bl_call (by repeat (first | exact Below.refl _ _ | assumption | (refine bl_alloc ?_ (Nat.le_refl _) _) | (refine bl_set ?_ (by simp <;> omega) _))) hb1
            have hz1 : w.heap.size + 2 ≤ w1.heap.size := (by have hq := hb1.size; have hr := hw1.size; (try simp at hq); omega)
            have hza : w.heap.size < w1.heap.size := (by omega)
            have hzb : w.heap.size + 1 < w1.heap.size := (by omega)
            go_wp2
            refine bodyPost_ret (v := .tuple #[afV (thV a b), .bool (tA6 a b)]) ?_ rfl ⟨rfl, (by repeat (first | (with_reducible refine bl_set ?_ (by simp <;> omega) _) | (with_reducible refine bl_alloc ?_ (Nat.le_refl _) _) | (with_reducible refine Below.drew ?_) | (with_reducible assumption) | (with_reducible exact Below.refl _ _)))⟩
            rw [thV_f H6.out, H6.out]; simp (maxDischargeDepth := 9) [results, Try.results49, go_sem, afV, affV, zeroA, *]
          · have hgn := hide (show tg a b (2 * i + (k + 1)) = true by rw [show 2 * i + (k + 1) = 2 * i + k + 1 from rfl, E2.out, hq2, hg.out]; rfl)
            rw [hq2, cnd_t, cnd_t] at HT
            clear hq2
            go_wp2
            refine wp_region_made 28 _ _ (.cells #[.int .i64 0, .int .i64 0] 23) (.cells #[.int .i64 (dotF rx cx ry cy).1, .int .i64 (dotF rx cx ry cy).2] 23) (by kernel_rfl) (by kernel_rfl) rfl rfl (fun _ _ => by kernel_rfl) ?_
            simp only [List.take_succ_cons, List.take_zero, List.drop_succ_cons, List.drop_zero]
            repeat (refine wpSteady_step (fun K hK => ?_); go_simp; first | (refine hK _ ?_; clear hK K) | (apply Exists.intro; refine ⟨fun _ => ?_, hK _ ?_⟩; (first | (go_at_call 58; with_reducible exact keeps_of (HT _))); clear hK K))
            refine wpSteady_nil ?_
            refine ⟨?_, ?_⟩
            · intro gx w1 _ hx
              have hk := cell_blk hx
              have hf := frozen_blk hx
              exact ⟨(World.setCell (World.setCell w1 ⟨gx, 0, none⟩ (.int .i64 (dotF rx cx ry cy).1)) ⟨gx, 1, none⟩ (.int .i64 (dotF rx cx ry cy).2)), (by simp [go_sem, hk, hf]), (heap_set (heap_set hx 0 _) 1 _), (only_set ((only_set (only_refl w1 gx) 0 _)) 1 _)⟩
            intro gx w1 hgx hlx hb1 hx
            have hkx := cell_blk hx
            have hfx := frozen_blk hx
            clear hx
            try simp at hgx
            obtain ⟨hc1, hf1⟩ := bcell hb1
            have hw1 : Below w.heap.size w w1 := bl_call (by repeat (first | exact Below.refl _ _ | assumption | (refine bl_alloc ?_ (Nat.le_refl _) _) | (refine bl_set ?_ (by simp <;> omega) _))) hb1
            have hz1 : w.heap.size + 2 ≤ w1.heap.size := (by have hq := hb1.size; have hr := hw1.size; (try simp at hq); omega)
            have hza : w.heap.size < w1.heap.size := (by omega)
            have hzb : w.heap.size + 1 < w1.heap.size := (by omega)
            obtain ⟨wX, rfl⟩ : ∃ wX, wX = w1 := ⟨_, rfl⟩
            have hun := hide (hU.out.later hb1)
            have hlen := hU.out.own.lt g rfl
            have hsX := hun.out.size
            go_wp2_with (at_builtin; refine wpList_append_lies _ (by rfl) (.tmp 104) (.tmp 106) _ (by rfl) (w.heap.size + 1) 23 i0 _ 2 16 Try.underlying79 hi hzA hzB hzC rfl (by decide) _ _ _ (by rfl) ((hun.out.own).alloc _) ⟨wX.heap.size, 0, none⟩ 1 1 [.int .i64 (dotF rx cx ry cy).1, .int .i64 (dotF rx cx ry cy).2] (by rfl) rfl (World.news_of_block (heap_alloc_new wX _)) (by intro u hu; simp at hu; rcases hu with rfl | rfl <;> rfl) (by decide) (by simp only [maxLen]; omega) (by omega) (by simp; omega) (wX.heap.size + 1) (by simp) ?_; intro g' cap' w3 hown hgrow hat hlt3)
            have HU3 := hun.out.grown ((Below.refl _ _).alloc (Nat.le_refl _) _) hown hgrow (hat.imp id (fun e => by omega))
            go_roundw
            case rel => exact ⟨k + 1, g', cap', by omega, by go_num, by rfl, hgn, by unfold Hid; rw [show 2 * i + (k + 1) = 2 * i + k + 1 from rfl, E1.out, flat2_snoc]; exact HU3⟩
            case measure => simp [intOf]; omega
        · obtain rfl : k = 2 := by omega
          go_wp2
          go_roundw
          case rel => exact ⟨i + 1, g, cap, by omega, by go_num, by rfl, hg, hU⟩
          case measure => simp [intOf]; omega
    · obtain rfl : i = 2 := by omega
      have hU0 := hide (show Under 23 2 (w.heap.size + 1) (.slice (some ⟨g, 0, none⟩) (4 + 0) cap) (4 + 0) (flat2 (tl a b (4 + 0))) w wd wr from hU.out)
      have hg0 := hide (show tg a b (4 + 0) = true from hg.out)
      clear hU hg
      go_wp2
      go_loopw [6, 13] (fun v kv wr => ∃ k g cap : Nat, k ≤ 2 ∧ kv = .int .i64 k ∧ v = .slice (some ⟨g, 0, none⟩) (4 + k) cap ∧ Hid (tg a b (4 + k) = true) ∧ Hid (Under 23 2 (w.heap.size + 1) (.slice (some ⟨g, 0, none⟩) (4 + k) cap) (4 + k) (flat2 (tl a b (4 + k))) w wd wr)) (fun _ kv _ => 2 - (intOf kv).toNat)
      case atStart => exact ⟨0, g, cap, by omega, rfl, rfl, hg0, hU0⟩
      case round =>
        obtain ⟨k, g, cap, hk, rfl, rfl, hg, hU⟩ := hrel
        clear hU0 hg0
        have hbr : Below w.heap.size w wr := hU.out.below
        have hsz := hU.out.size
        have xR := (hU.out.rest w.heap.size (by omega) (by omega)).trans HMR.out
        have cR := zero12 xR
        have fR := ug_frozen xR
        have hza : w.heap.size < wr.heap.size := by omega
        have hzb : w.heap.size + 1 < wr.heap.size := by omega
        by_cases hkn : k < 2
        · have hRw := HRC.out.kept (w' := wr) (fun x hx => hU.out.rest x (by rcases hx with rfl | rfl | rfl | rfl | rfl | rfl <;> omega) (by rcases hx with rfl | rfl | rfl | rfl | rfl | rfl <;> omega))
          obtain ⟨z, hz, z0, z1, z2, z3, z4, z5, z6⟩ := hRw.row hkn
          have hzl : z < wr.heap.size := by rcases hz with rfl | rfl <;> omega
          have hrl : rB < wr.heap.size := by omega
          have hpl : p < wr.heap.size := by omega
          have mP3 := (hU.out.rest p (by omega) (by omega)).trans HMP.out
          have p8 : wr.cell? ⟨p, 8, none⟩ = some (.int .i64 a.dx.1) := (ug_cell mP3 8).trans rfl
          have p9 : wr.cell? ⟨p, 9, none⟩ = some (.int .i64 a.dx.2) := (ug_cell mP3 9).trans rfl
          have p10 : wr.cell? ⟨p, 10, none⟩ = some (.int .i64 a.dy.1) := (ug_cell mP3 10).trans rfl
          have p11 : wr.cell? ⟨p, 11, none⟩ = some (.int .i64 a.dy.2) := (ug_cell mP3 11).trans rfl
          have E1 := hide (tl_m a b hkn)
          have E2 := hide (tg_m a b hkn)
          obtain ⟨_, _, _, _, va4, va5⟩ := okAf_t ha
          have HT := l04Two_any (rX b k) a.dx (rY b k) a.dy (ro_ok hb k).1 va4 (ro_ok hb k).2.1 va5
          have hvz := (ro_ok hb k).2.2
          have hvd := hide (fun h => (dotF_v (ro_ok hb k).1 va4 (ro_ok hb k).2.1 va5 (h : dotG (rX b k) a.dx (rY b k) a.dy = true)).1)
          clear hz hRw xR mP3
          generalize rX b k = rx at *
          generalize rY b k = ry at *
          generalize rZ b k = rz at *
          cases hq2 : dotG rx a.dx ry a.dy
          · have h6 : tA6 a b = false := tg_6 (n := 4 + k + 1) (by omega) (by rw [E2.out]; unfold movG; rw [hq2]; simp)
            have H6 := hide h6
            rw [hq2, cnd_f, cnd_f] at HT
            clear hq2 h6
            go_wp2
            refine wp_region_made 24 _ _ (.cells #[.int .i64 0, .int .i64 0] 23) (.cells #[.int .i64 0, .int .i64 0] 23) (by kernel_rfl) (by kernel_rfl) rfl rfl (fun _ _ => by kernel_rfl) ?_
            simp only [List.take_succ_cons, List.take_zero, List.drop_succ_cons, List.drop_zero]
            repeat (refine wpSteady_step (fun K hK => ?_); go_simp; first | (refine hK _ ?_; clear hK K) | (apply Exists.intro; refine ⟨fun _ => ?_, hK _ ?_⟩; (first | (go_at_call 58; with_reducible exact keeps_of (HT _))); clear hK K))
            refine wpSteady_nil ?_
            refine ⟨?_, ?_⟩
            · intro gx w1 _ hx
              have hk := cell_blk hx
              have hf := frozen_blk hx
              exact ⟨(World.setCell (World.setCell w1 ⟨gx, 0, none⟩ (.int .i64 0)) ⟨gx, 1, none⟩ (.int .i64 0)), (by simp [go_sem, hk, hf]), (heap_set (heap_set hx 0 _) 1 _), (only_set ((only_set (only_refl w1 gx) 0 _)) 1 _)⟩
            intro gx w1 hgx hlx hb1 hx
            have hkx := cell_blk hx
            have hfx := frozen_blk hx
            clear hx
            try simp at hgx
            obtain ⟨hc1, hf1⟩ := bcell hb1
            have hw1 : Below w.heap.size w w1 := bl_call (by repeat (first | exact Below.refl _ _ | assumption | (refine bl_alloc ?_ (Nat.le_refl _) _) | (refine bl_set ?_ (by simp <;> omega) _))) hb1
            have hz1 : w.heap.size + 2 ≤ w1.heap.size := (by have hq := hb1.size; have hr := hw1.size; (try simp at hq); omega)
            have hza : w.heap.size < w1.heap.size := (by omega)
            have hzb : w.heap.size + 1 < w1.heap.size := (by omega)
            go_wp2
            refine bodyPost_ret (v := .tuple #[afV (thV a b), .bool (tA6 a b)]) ?_ rfl ⟨rfl, (by repeat (first | (with_reducible refine bl_set ?_ (by simp <;> omega) _) | (with_reducible refine bl_alloc ?_ (Nat.le_refl _) _) | (with_reducible refine Below.drew ?_) | (with_reducible assumption) | (with_reducible exact Below.refl _ _)))⟩
            rw [thV_f H6.out, H6.out]; simp (maxDischargeDepth := 9) [results, Try.results49, go_sem, afV, affV, zeroA, *]
          · have hvx := hvd.out hq2
            have HAd := addFrac_s (dotF rx a.dx ry a.dy).1 (dotF rx a.dx ry a.dy).2 rz.1 rz.2 (okF_I hvx).1 (okF_I hvx).2 (okF_I hvz).1 (okF_I hvz).2
            rw [hq2, cnd_t, cnd_t] at HT
            cases hq3 : decide (addK (dotF rx a.dx ry a.dy) rz = 0)
            · have h6 : tA6 a b = false := tg_6 (n := 4 + k + 1) (by omega) (by rw [E2.out]; unfold movG; rw [hq3]; simp)
              have H6 := hide h6
              have hq4 : ¬ addC (dotF rx a.dx ry a.dy).1 (dotF rx a.dx ry a.dy).2 rz.1 rz.2 = 0 := of_decide_eq_false hq3
              have hq5 : (addC (dotF rx a.dx ry a.dy).1 (dotF rx a.dx ry a.dy).2 rz.1 rz.2 != 0) = true := by simpa using hq4
              clear hq2 h6 hq3
              go_wp2
              refine wp_region_made 24 _ _ (.cells #[.int .i64 0, .int .i64 0] 23) (.cells #[.int .i64 (dotF rx a.dx ry a.dy).1, .int .i64 (dotF rx a.dx ry a.dy).2] 23) (by kernel_rfl) (by kernel_rfl) rfl rfl (fun _ _ => by kernel_rfl) ?_
              simp only [List.take_succ_cons, List.take_zero, List.drop_succ_cons, List.drop_zero]
              repeat (refine wpSteady_step (fun K hK => ?_); go_simp; first | (refine hK _ ?_; clear hK K) | (apply Exists.intro; refine ⟨fun _ => ?_, hK _ ?_⟩; (first | (go_at_call 58; with_reducible exact keeps_of (HT _))); clear hK K))
              refine wpSteady_nil ?_
              refine ⟨?_, ?_⟩
              · intro gx w1 _ hx
                have hk := cell_blk hx
                have hf := frozen_blk hx
                exact ⟨(World.setCell (World.setCell w1 ⟨gx, 0, none⟩ (.int .i64 (dotF rx a.dx ry a.dy).1)) ⟨gx, 1, none⟩ (.int .i64 (dotF rx a.dx ry a.dy).2)), (by simp [go_sem, hk, hf]), (heap_set (heap_set hx 0 _) 1 _), (only_set ((only_set (only_refl w1 gx) 0 _)) 1 _)⟩
              intro gx w1 hgx hlx hb1 hx
              have hkx := cell_blk hx
              have hfx := frozen_blk hx
              clear hx
              try simp at hgx
              obtain ⟨hc1, hf1⟩ := bcell hb1
              have hw1 : Below w.heap.size w w1 := bl_call (by repeat (first | exact Below.refl _ _ | assumption | (refine bl_alloc ?_ (Nat.le_refl _) _) | (refine bl_set ?_ (by simp <;> omega) _))) hb1
              have hz1 : w.heap.size + 2 ≤ w1.heap.size := (by have hq := hb1.size; have hr := hw1.size; (try simp at hq); omega)
              have hza : w.heap.size < w1.heap.size := (by omega)
              have hzb : w.heap.size + 1 < w1.heap.size := (by omega)
              obtain ⟨wX, rfl⟩ : ∃ wX, wX = w1 := ⟨_, rfl⟩
              have tX1 : rB < wX.heap.size := by omega
              have tX2 : z < wX.heap.size := by omega
              clear hb1
              go_wp2
              refine wp_region_made 11 _ _ (.cells #[.int .i64 0, .int .i64 0] 23) (.cells #[.int .i64 (addN (dotF rx a.dx ry a.dy).1 (dotF rx a.dx ry a.dy).2 rz.1 rz.2), .int .i64 (addD (dotF rx a.dx ry a.dy).1 (dotF rx a.dx ry a.dy).2 rz.1 rz.2)] 23) (by kernel_rfl) (by kernel_rfl) rfl rfl (fun _ _ => by kernel_rfl) ?_
              simp only [List.take_succ_cons, List.take_zero, List.drop_succ_cons, List.drop_zero]
              repeat (refine wpSteady_step (fun K hK => ?_); go_simp; first | (refine hK _ ?_; clear hK K) | (apply Exists.intro; refine ⟨fun _ => ?_, hK _ ?_⟩; (first | (go_at_call 72; with_reducible exact keeps_of (HAd _))); clear hK K))
              refine wpSteady_nil ?_
              refine ⟨?_, ?_⟩
              · intro gy w1 _ hx
                have hk := cell_blk hx
                have hf := frozen_blk hx
                exact ⟨(World.setCell (World.setCell w1 ⟨gy, 0, none⟩ (.int .i64 (addN (dotF rx a.dx ry a.dy).1 (dotF rx a.dx ry a.dy).2 rz.1 rz.2))) ⟨gy, 1, none⟩ (.int .i64 (addD (dotF rx a.dx ry a.dy).1 (dotF rx a.dx ry a.dy).2 rz.1 rz.2))), (by simp [go_sem, hk, hf]), (heap_set (heap_set hx 0 _) 1 _), (only_set ((only_set (only_refl w1 gy) 0 _)) 1 _)⟩
              intro gy w1 hgy hly hb1 hx
              have hky := cell_blk hx
              have hfy := frozen_blk hx
              clear hx
              try simp at hgy
              obtain ⟨hc1, hf1⟩ := bcell hb1
              have hw1 : Below w.heap.size w w1 := bl_call (by repeat (first | exact Below.refl _ _ | assumption | (refine bl_alloc ?_ (Nat.le_refl _) _) | (refine bl_set ?_ (by simp <;> omega) _))) hb1
              have hz1 : w.heap.size + 2 ≤ w1.heap.size := (by have hq := hb1.size; have hr := hw1.size; (try simp at hq); omega)
              have hza : w.heap.size < w1.heap.size := (by omega)
              have hzb : w.heap.size + 1 < w1.heap.size := (by omega)
              go_wp2
              refine bodyPost_ret (v := .tuple #[afV (thV a b), .bool (tA6 a b)]) ?_ rfl ⟨rfl, (by repeat (first | (with_reducible refine bl_set ?_ (by simp <;> omega) _) | (with_reducible refine bl_alloc ?_ (Nat.le_refl _) _) | (with_reducible refine Below.drew ?_) | (with_reducible assumption) | (with_reducible exact Below.refl _ _)))⟩
              rw [thV_f H6.out, H6.out]; simp (maxDischargeDepth := 9) [results, Try.results49, go_sem, afV, affV, zeroA, *]
            · have hgn := hide (show tg a b (4 + (k + 1)) = true by rw [show 4 + (k + 1) = 4 + k + 1 from rfl, E2.out, hg.out]; unfold movG; rw [hq2, hq3]; rfl)
              have hq4 : addC (dotF rx a.dx ry a.dy).1 (dotF rx a.dx ry a.dy).2 rz.1 rz.2 = 0 := of_decide_eq_true hq3
              rw [hq4] at HAd
              clear hq2 hq3 hq4
              go_wp2
              refine wp_region_made 24 _ _ (.cells #[.int .i64 0, .int .i64 0] 23) (.cells #[.int .i64 (dotF rx a.dx ry a.dy).1, .int .i64 (dotF rx a.dx ry a.dy).2] 23) (by kernel_rfl) (by kernel_rfl) rfl rfl (fun _ _ => by kernel_rfl) ?_
              simp only [List.take_succ_cons, List.take_zero, List.drop_succ_cons, List.drop_zero]
              repeat (refine wpSteady_step (fun K hK => ?_); go_simp; first | (refine hK _ ?_; clear hK K) | (apply Exists.intro; refine ⟨fun _ => ?_, hK _ ?_⟩; (first | (go_at_call 58; with_reducible exact keeps_of (HT _))); clear hK K))
              refine wpSteady_nil ?_
              refine ⟨?_, ?_⟩
              · intro gx w1 _ hx
                have hk := cell_blk hx
                have hf := frozen_blk hx
                exact ⟨(World.setCell (World.setCell w1 ⟨gx, 0, none⟩ (.int .i64 (dotF rx a.dx ry a.dy).1)) ⟨gx, 1, none⟩ (.int .i64 (dotF rx a.dx ry a.dy).2)), (by simp [go_sem, hk, hf]), (heap_set (heap_set hx 0 _) 1 _), (only_set ((only_set (only_refl w1 gx) 0 _)) 1 _)⟩
              intro gx w1 hgx hlx hb1 hx
              have hkx := cell_blk hx
              have hfx := frozen_blk hx
              clear hx
              try simp at hgx
              obtain ⟨hc1, hf1⟩ := bcell hb1
              have hw1 : Below w.heap.size w w1 := bl_call (by repeat (first | exact Below.refl _ _ | assumption | (refine bl_alloc ?_ (Nat.le_refl _) _) | (refine bl_set ?_ (by simp <;> omega) _))) hb1
              have hz1 : w.heap.size + 2 ≤ w1.heap.size := (by have hq := hb1.size; have hr := hw1.size; (try simp at hq); omega)
              have hza : w.heap.size < w1.heap.size := (by omega)
              have hzb : w.heap.size + 1 < w1.heap.size := (by omega)
              obtain ⟨wX, rfl⟩ : ∃ wX, wX = w1 := ⟨_, rfl⟩
              have tX1 : rB < wX.heap.size := by omega
              have tX2 : z < wX.heap.size := by omega
              have hux := hide (hU.out.later hb1)
              clear hb1
              go_wp2
              refine wp_region_made 11 _ _ (.cells #[.int .i64 0, .int .i64 0] 23) (.cells #[.int .i64 (addN (dotF rx a.dx ry a.dy).1 (dotF rx a.dx ry a.dy).2 rz.1 rz.2), .int .i64 (addD (dotF rx a.dx ry a.dy).1 (dotF rx a.dx ry a.dy).2 rz.1 rz.2)] 23) (by kernel_rfl) (by kernel_rfl) rfl rfl (fun _ _ => by kernel_rfl) ?_
              simp only [List.take_succ_cons, List.take_zero, List.drop_succ_cons, List.drop_zero]
              repeat (refine wpSteady_step (fun K hK => ?_); go_simp; first | (refine hK _ ?_; clear hK K) | (apply Exists.intro; refine ⟨fun _ => ?_, hK _ ?_⟩; (first | (go_at_call 72; with_reducible exact keeps_of (HAd _))); clear hK K))
              refine wpSteady_nil ?_
              refine ⟨?_, ?_⟩
              · intro gy w1 _ hx
                have hk := cell_blk hx
                have hf := frozen_blk hx
                exact ⟨(World.setCell (World.setCell w1 ⟨gy, 0, none⟩ (.int .i64 (addN (dotF rx a.dx ry a.dy).1 (dotF rx a.dx ry a.dy).2 rz.1 rz.2))) ⟨gy, 1, none⟩ (.int .i64 (addD (dotF rx a.dx ry a.dy).1 (dotF rx a.dx ry a.dy).2 rz.1 rz.2))), (by simp [go_sem, hk, hf]), (heap_set (heap_set hx 0 _) 1 _), (only_set ((only_set (only_refl w1 gy) 0 _)) 1 _)⟩
              intro gy w1 hgy hly hb1 hx
              have hky := cell_blk hx
              have hfy := frozen_blk hx
              clear hx
              try simp at hgy
              obtain ⟨hc1, hf1⟩ := bcell hb1
              have hw1 : Below w.heap.size w w1 := bl_call (by repeat (first | exact Below.refl _ _ | assumption | (refine bl_alloc ?_ (Nat.le_refl _) _) | (refine bl_set ?_ (by simp <;> omega) _))) hb1
              have hz1 : w.heap.size + 2 ≤ w1.heap.size := (by have hq := hb1.size; have hr := hw1.size; (try simp at hq); omega)
              have hza : w.heap.size < w1.heap.size := (by omega)
              have hzb : w.heap.size + 1 < w1.heap.size := (by omega)
              obtain ⟨wY, rfl⟩ : ∃ wY, wY = w1 := ⟨_, rfl⟩
              have hun := hide (hux.out.later hb1)
              have hlen := hU.out.own.lt g rfl
              have hsX := hun.out.size
              go_wp2_with (at_builtin; refine wpList_append_lies _ (by rfl) (.tmp 153) (.tmp 155) _ (by rfl) (w.heap.size + 1) 23 i0 _ 2 16 Try.underlying79 hi hzA hzB hzC rfl (by decide) _ _ _ (by rfl) ((hun.out.own).alloc _) ⟨wY.heap.size, 0, none⟩ 1 1 [.int .i64 (movF rx a.dx ry a.dy rz).1, .int .i64 (movF rx a.dx ry a.dy rz).2] (by rfl) rfl (World.news_of_block (heap_alloc_new wY _)) (by intro u hu; simp at hu; rcases hu with rfl | rfl <;> rfl) (by decide) (by simp only [maxLen]; omega) (by omega) (by simp; omega) (wY.heap.size + 1) (by simp) ?_; intro g' cap' w3 hown hgrow hat hlt3)
              have HU3 := hun.out.grown ((Below.refl _ _).alloc (Nat.le_refl _) _) hown hgrow (hat.imp id (fun e => by omega))
              refine ⟨?_, ?_⟩
              · (repeat apply Exists.intro)
                refine ⟨?_, rfl⟩
                exact ⟨k + 1, g', cap', by omega, by go_num, by rfl, hgn, by unfold Hid; rw [show 4 + (k + 1) = 4 + k + 1 from rfl, E1.out, flat2_snoc]; exact HU3⟩
              · simp [intOf]; omega
        · obtain rfl : k = 2 := by omega
          have h6 : tA6 a b = true := hg.out
          have H6 := hide h6
          have hlt := (hU.out.own.lt g rfl).2
          have HMk := l04Make_any (thenF a b) g cap wr hlt (own_cap hU.out.own) (fun j hj => (hU.out.own.cellAt j (by omega)).trans (by rw [show flat2 (tl a b (4 + 2)) = (afCells (thenF a b)).toList from rfl, Array.getElem?_toList]))
          simp only [afV, affV] at HMk
          clear h6
          go_wp2_with (first | (go_at_call 59; (with_reducible refine (HMk).mono ?_); rintro e w1 ⟨rfl, hb1⟩; obtain ⟨hc1, hf1⟩ := bcell hb1; have hw1 : Below w.heap.size w w1 := bl_call (by repeat (first | exact Below.refl _ _ | assumption | (refine bl_alloc ?_ (Nat.le_refl _) _) | (refine bl_set ?_ (by simp <;> omega) _))) hb1; have hz1 : w.heap.size + 2 ≤ w1.heap.size := (by have hq := hb1.size; have hr := hw1.size; (try simp at hq); omega); have hza : w.heap.size < w1.heap.size := (by omega); have hzb : w.heap.size + 1 < w1.heap.size := (by omega); have hz4 := hb1.size; (try simp at hz4); (try have hz5 := Nat.lt_of_succ_le hz4)))
          refine bodyPost_ret (v := .tuple #[afV (thV a b), .bool (tA6 a b)]) ?_ rfl ⟨rfl, (by repeat (first | (with_reducible refine bl_set ?_ (by simp <;> omega) _) | (with_reducible refine bl_alloc ?_ (Nat.le_refl _) _) | (with_reducible refine Below.drew ?_) | (with_reducible assumption) | (with_reducible exact Below.refl _ _)))⟩
          rw [thV_t H6.out, H6.out]; simp (maxDischargeDepth := 9) [results, Try.results49, go_sem, afV, affV, *]
end Go.Proofs.Ytickgkfgmbaalaa
