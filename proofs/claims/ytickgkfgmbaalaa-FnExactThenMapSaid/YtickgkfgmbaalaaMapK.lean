/-
  CONTRACTS of the reference's l04Make and InvertMap. Conditions: integers of 64 bits.
-/
import Derived.Test.YtickgkfgmbaalaaMapJ
import Derived.Test.YtickgkfgmbaalaaGrow
import Derived.Deep.RegionWith
namespace Go.Proofs.Ytickgkfgmbaalaa
open Go.RowKit Go.Sort
set_option linter.unusedVariables false
attribute [local go_sem] cell_grow frozen_grow
attribute [local go_sem] Oper.quietAt Oper.quietUpon
theorem Under.two {t : TypeId} {B g cap n : Nat} {l : List (Int × Int)} {w w0 wr : World} (h : Under t 2 B (.slice (some ⟨g, 0, none⟩) n cap) n (flat2 l) w w0 wr) (hn : l.length = n) {j : Nat} (hj : j < n) : wr.cell? ⟨g, j * 2, none⟩ = some (.int .i64 (l.getD j (0, 0)).1) ∧ wr.cell? ⟨g, j * 2 + 1, none⟩ = some (.int .i64 (l.getD j (0, 0)).2) :=
  ⟨(h.own.cellAt (j * 2) (by omega)).trans (flat2_at l j (by omega)).1, (h.own.cellAt (j * 2 + 1) (by omega)).trans (flat2_at l j (by omega)).2⟩
theorem Under.frozenOwn {t : TypeId} {B g cap n size : Nat} {xs : List Value} {w w0 wr : World} (h : Under t size B (.slice (some ⟨g, 0, none⟩) n cap) n xs w w0 wr) (j : Nat) : wr.frozen? ⟨g, j, none⟩ = false := by
  rcases h.own.2 with ⟨h', _⟩ | ⟨g', cap', cur, h', hb, hgg, _⟩
  · simp at h'
  · simp only [Value.slice.injEq, Option.some.injEq, Addr.mk.injEq, and_true, true_and] at h'
    obtain ⟨rfl, rfl⟩ := h'
    exact ug_frozen hgg j
/-- the list of the reference, before and behind the division -/
def nmL (m : Af) : List F2 := [m.yy, negF m.xy, negF m.yx, m.xx]
def nqL (m : Af) : List F2 := [q1 m, q2 m, q3 m, q4 m]
def lk (m : Af) (k : Nat) : List F2 := (nqL m).take k ++ (nmL m).drop k
def gk (m : Af) (k : Nat) : Bool := [true, g1 m, g2 m, g3 m, g4 m].getD k true
theorem lk_len (m : Af) {k : Nat} (h : k ≤ 4) : (lk m k).length = 4 := by
  have : k = 0 ∨ k = 1 ∨ k = 2 ∨ k = 3 ∨ k = 4 := by omega
  rcases this with rfl | rfl | rfl | rfl | rfl <;> rfl
theorem lk_s (m : Af) {k : Nat} (h : k < 4) : lk m (k + 1) = (lk m k).set k (divF ((nmL m).getD k (0, 0)) (detF m)) := by
  have : k = 0 ∨ k = 1 ∨ k = 2 ∨ k = 3 := by omega
  rcases this with rfl | rfl | rfl | rfl <;> rfl
theorem lk_at (m : Af) {k : Nat} (h : k < 4) : (lk m k).getD k (0, 0) = (nmL m).getD k (0, 0) := by
  have : k = 0 ∨ k = 1 ∨ k = 2 ∨ k = 3 := by omega
  rcases this with rfl | rfl | rfl | rfl <;> rfl
theorem gk_s (m : Af) {k : Nat} (h : k < 4) : gk m (k + 1) = (gk m k && decide (divK ((nmL m).getD k (0, 0)) (detF m) = 0)) := by
  have : k = 0 ∨ k = 1 ∨ k = 2 ∨ k = 3 := by omega
  rcases this with rfl | rfl | rfl | rfl
  · show g1 m = (true && _); rw [Bool.true_and]; rfl
  · rfl
  · rfl
  · rfl
theorem gk_g6 {m : Af} {k : Nat} (h : k ≤ 4) (h2 : gk m k = false) : g6 m = false := by
  cases h6 : g6 m
  · rfl
  · have h5 := and_t1 h6
    obtain ⟨e1, e2, e3⟩ := gs4 (gs5 h5)
    have e4 := gs5 h5
    have : k = 0 ∨ k = 1 ∨ k = 2 ∨ k = 3 ∨ k = 4 := by omega
    rcases this with rfl | rfl | rfl | rfl | rfl
    · exact absurd h2 (by show ¬ true = false; decide)
    · exact absurd (h2.symm.trans e1) (by decide)
    · exact absurd (h2.symm.trans e2) (by decide)
    · exact absurd (h2.symm.trans e3) (by decide)
    · exact absurd (h2.symm.trans e4) (by decide)
theorem nm_ok {m : Af} (h : okAf m = true) {k : Nat} (hk : k < 4) : okF ((nmL m).getD k (0, 0)) = true := by
  obtain ⟨v0, v1, v2, v3, v4, v5⟩ := okAf_t h
  have : k = 0 ∨ k = 1 ∨ k = 2 ∨ k = 3 := by omega
  rcases this with rfl | rfl | rfl | rfl
  · exact v3
  · exact okF_neg v1
  · exact okF_neg v2
  · exact v0
/-- the last two -/
def n1F (m : Af) : F2 := negF (dotF (q1 m) m.dx (q2 m) m.dy)
def n2F (m : Af) : F2 := negF (dotF (q3 m) m.dx (q4 m) m.dy)
def l2k (m : Af) (k : Nat) : List F2 := nqL m ++ [n1F m, n2F m].take k
theorem l2k_len (m : Af) {k : Nat} (h : k ≤ 2) : (l2k m k).length = 4 + k := by
  have : k = 0 ∨ k = 1 ∨ k = 2 := by omega
  rcases this with rfl | rfl | rfl <;> rfl
theorem l2k_s (m : Af) {k : Nat} (h : k < 2) : l2k m (k + 1) = l2k m k ++ [[n1F m, n2F m].getD k (0, 0)] := by
  have : k = 0 ∨ k = 1 := by omega
  rcases this with rfl | rfl <;> rfl
def gk2 (m : Af) (k : Nat) : Bool := [g4 m, g5 m, g6 m].getD k true
theorem gk2_g6 {m : Af} {k : Nat} (h : k ≤ 2) (h2 : gk2 m k = false) : g6 m = false := by
  cases h6 : g6 m
  · rfl
  · have h5 := and_t1 h6
    have e4 := gs5 h5
    have : k = 0 ∨ k = 1 ∨ k = 2 := by omega
    rcases this with rfl | rfl | rfl
    · exact absurd (h2.symm.trans e4) (by decide)
    · exact absurd (h2.symm.trans h5) (by decide)
    · exact absurd (h2.symm.trans h6) (by decide)
theorem own_cap {w : World} {B n g c : Nat} {t : TypeId} {xs : List Value} {sz : Nat} (h : w.ownsRow B t sz (.slice (some ⟨g, 0, none⟩) n c) n xs) : n ≤ c := by
  rcases h.2 with ⟨h', _⟩ | ⟨g', cap', cur, h', _, _, hc, _⟩
  · simp at h'
  · injection h' with _ _ h3; omega
theorem zero12 {w : World} {b : Nat} (h : w.heap[b]? = some (.cells (afCells zeroA) 25 (0, 0))) : ∀ i, i < 12 → w.cell? ⟨b, i, none⟩ = some (.int .i64 0) := by
  intro i hi
  rw [ug_cell h i]
  have : i = 0 ∨ i = 1 ∨ i = 2 ∨ i = 3 ∨ i = 4 ∨ i = 5 ∨ i = 6 ∨ i = 7 ∨ i = 8 ∨ i = 9 ∨ i = 10 ∨ i = 11 := by omega
  rcases this with rfl | rfl | rfl | rfl | rfl | rfl | rfl | rfl | rfl | rfl | rfl | rfl <;> rfl
theorem info_fr : (Try.prog.info? 23).map (fun i => (i.zero, i.size, i.bytes)) = some (some (.agg #[.int .i64 0, .int .i64 0]), 2, 16) := by kernel_rfl
set_option maxRecDepth 100000 in
set_option maxHeartbeats 16000000 in
theorem inv_s (m : Af) (hin : AfIn m) (w : World) : Calls Try.prog 35 #[afV m] w fun e w' => e = .returned (.tuple #[afV (invA m), .int .i64 (invC m)]) ∧ Below w.heap.size w w' := by
  obtain ⟨i0, hi, hzA, hzB, hzC⟩ := info_parts info_fr
  simp only [afV, affV]
  cases h1 : okAf m
  · have HA := hide (show invA m = zeroA by unfold invA invO; rw [h1]; rfl)
    have HC := hide (show invC m = 1 by unfold invC; rw [h1]; rfl)
    go_enter Try.func35, Try.ntmps35
    go_wp2_with (first | (go_at_call 42; (with_reducible refine (l04Ok_box2 m hin _ _).mono ?_); rintro e w1 ⟨rfl, hb1⟩; obtain ⟨hc1, hf1⟩ := bcell hb1; have hw1 : Below w.heap.size w w1 := bl_call (by repeat (first | exact Below.refl _ _ | assumption | (refine bl_alloc ?_ (Nat.le_refl _) _) | (refine bl_set ?_ (by simp <;> omega) _))) hb1; have hz1 : w.heap.size + 2 ≤ w1.heap.size := (by have hq := hb1.size; have hr := hw1.size; (try simp at hq); omega); have hza : w.heap.size < w1.heap.size := (by omega); have hzb : w.heap.size + 1 < w1.heap.size := (by omega); have hz4 := hb1.size; (try simp at hz4); (try have hz5 := Nat.lt_of_succ_le hz4)))
    refine bodyPost_ret (v := .tuple #[afV (invA m), .int .i64 (invC m)]) ?_ rfl ⟨rfl, (by repeat (first | (with_reducible refine bl_set ?_ (by simp <;> omega) _) | (with_reducible refine bl_alloc ?_ (Nat.le_refl _) _) | (with_reducible refine Below.drew ?_) | (with_reducible assumption) | (with_reducible exact Below.refl _ _)))⟩
    rw [HA.out, HC.out]; simp (maxDischargeDepth := 9) [results, Try.results35, go_sem, afV, affV, zeroA, *]
  have HD := l04Det_box m h1
  cases h2 : detG m
  · have HA := hide (show invA m = zeroA by unfold invA invO; rw [h1, h2]; rfl)
    have HC := hide (show invC m = 2 by unfold invC; rw [h1, h2]; rfl)
    rw [h2] at HD
    go_enter Try.func35, Try.ntmps35
    go_wp2_with (first | (go_at_call 42; (with_reducible refine (l04Ok_box2 m hin _ _).mono ?_); rintro e w1 ⟨rfl, hb1⟩; obtain ⟨hc1, hf1⟩ := bcell hb1; have hw1 : Below w.heap.size w w1 := bl_call (by repeat (first | exact Below.refl _ _ | assumption | (refine bl_alloc ?_ (Nat.le_refl _) _) | (refine bl_set ?_ (by simp <;> omega) _))) hb1; have hz1 : w.heap.size + 2 ≤ w1.heap.size := (by have hq := hb1.size; have hr := hw1.size; (try simp at hq); omega); have hza : w.heap.size < w1.heap.size := (by omega); have hzb : w.heap.size + 1 < w1.heap.size := (by omega); have hz4 := hb1.size; (try simp at hz4); (try have hz5 := Nat.lt_of_succ_le hz4); obtain ⟨wO, rfl⟩ : ∃ wO : World, wO = w1 := ⟨_, rfl⟩) | (go_at_call 46; (with_reducible refine (HD _ _ _ (by assumption)).mono ?_); rintro e w1 ⟨rfl, hb1⟩; obtain ⟨hc1, hf1⟩ := bcell hb1; have hw1 : Below w.heap.size w w1 := bl_call (by repeat (first | exact Below.refl _ _ | assumption | (refine bl_alloc ?_ (Nat.le_refl _) _) | (refine bl_set ?_ (by simp <;> omega) _))) hb1; have hz1 : w.heap.size + 2 ≤ w1.heap.size := (by have hq := hb1.size; have hr := hw1.size; (try simp at hq); omega); have hza : w.heap.size < w1.heap.size := (by omega); have hzb : w.heap.size + 1 < w1.heap.size := (by omega); have hz4 := hb1.size; (try simp at hz4); (try have hz5 := Nat.lt_of_succ_le hz4); (try have hzxwO : wO.heap.size < w1.heap.size := (by omega))))
    refine bodyPost_ret (v := .tuple #[afV (invA m), .int .i64 (invC m)]) ?_ rfl ⟨rfl, (by repeat (first | (with_reducible refine bl_set ?_ (by simp <;> omega) _) | (with_reducible refine bl_alloc ?_ (Nat.le_refl _) _) | (with_reducible refine Below.drew ?_) | (with_reducible assumption) | (with_reducible exact Below.refl _ _)))⟩
    rw [HA.out, HC.out]; simp (maxDischargeDepth := 9) [results, Try.results35, go_sem, afV, affV, zeroA, *]
  rw [h2, cnd_t, cnd_t] at HD
  by_cases h4 : (detF m).1 = 0
  · have HA := hide (show invA m = zeroA by unfold invA invO; rw [h1, h2, decide_eq_true h4]; rfl)
    have HC := hide (show invC m = 6 by unfold invC; rw [h1, h2, h4]; rfl)
    go_enter Try.func35, Try.ntmps35
    go_wp2_with (first | (go_at_call 42; (with_reducible refine (l04Ok_box2 m hin _ _).mono ?_); rintro e w1 ⟨rfl, hb1⟩; obtain ⟨hc1, hf1⟩ := bcell hb1; have hw1 : Below w.heap.size w w1 := bl_call (by repeat (first | exact Below.refl _ _ | assumption | (refine bl_alloc ?_ (Nat.le_refl _) _) | (refine bl_set ?_ (by simp <;> omega) _))) hb1; have hz1 : w.heap.size + 2 ≤ w1.heap.size := (by have hq := hb1.size; have hr := hw1.size; (try simp at hq); omega); have hza : w.heap.size < w1.heap.size := (by omega); have hzb : w.heap.size + 1 < w1.heap.size := (by omega); have hz4 := hb1.size; (try simp at hz4); (try have hz5 := Nat.lt_of_succ_le hz4); obtain ⟨wO, rfl⟩ : ∃ wO : World, wO = w1 := ⟨_, rfl⟩) | (go_at_call 46; (with_reducible refine (HD _ _ _ (by assumption)).mono ?_); rintro e w1 ⟨rfl, hb1⟩; obtain ⟨hc1, hf1⟩ := bcell hb1; have hw1 : Below w.heap.size w w1 := bl_call (by repeat (first | exact Below.refl _ _ | assumption | (refine bl_alloc ?_ (Nat.le_refl _) _) | (refine bl_set ?_ (by simp <;> omega) _))) hb1; have hz1 : w.heap.size + 2 ≤ w1.heap.size := (by have hq := hb1.size; have hr := hw1.size; (try simp at hq); omega); have hza : w.heap.size < w1.heap.size := (by omega); have hzb : w.heap.size + 1 < w1.heap.size := (by omega); have hz4 := hb1.size; (try simp at hz4); (try have hz5 := Nat.lt_of_succ_le hz4); (try have hzxwO : wO.heap.size < w1.heap.size := (by omega))))
    refine bodyPost_ret (v := .tuple #[afV (invA m), .int .i64 (invC m)]) ?_ rfl ⟨rfl, (by repeat (first | (with_reducible refine bl_set ?_ (by simp <;> omega) _) | (with_reducible refine bl_alloc ?_ (Nat.le_refl _) _) | (with_reducible refine Below.drew ?_) | (with_reducible assumption) | (with_reducible exact Below.refl _ _)))⟩
    rw [HA.out, HC.out]; simp (maxDischargeDepth := 9) [results, Try.results35, go_sem, afV, affV, zeroA, *]
  have k1 : ((detF m).1 == 0) = false := by simpa using h4
  have k2 : ((detF m).1 != 0) = true := by simpa using h4
  obtain ⟨v0, v1, v2, v3, v4, v5⟩ := okAf_t h1
  have hd : okF (detF m) = true := (dotF_v v0 v3 (okF_neg v1) v2 h2).1
  have HN1 := l04Neg_any m.xy v1
  have HN2 := l04Neg_any m.yx v2
  have HO := hide (show invO m = true by unfold invO; rw [h1, h2, decide_eq_false h4]; rfl)
  have HX := hide (show g6 m = false → invA m = zeroA ∧ invC m = 2 from fun h6 => ⟨by unfold invA; rw [HO.out, h6]; rfl, by unfold invC; rw [h1, h2, if_pos rfl, if_pos rfl, if_neg h4, h6]; rfl⟩)
  have HY := hide (show g6 m = true → invA m = ⟨q1 m, q2 m, q3 m, q4 m, n1F m, n2F m⟩ ∧ invC m = 0 from fun h6 => ⟨by unfold invA; rw [HO.out, h6]; exact invF_q m, by unfold invC; rw [h1, h2, if_pos rfl, if_pos rfl, if_neg h4, h6]; rfl⟩)
  go_enter Try.func35, Try.ntmps35
  go_wp2_with (first | (go_at_call 42; (with_reducible refine (l04Ok_box2 m hin _ _).mono ?_); rintro e w1 ⟨rfl, hb1⟩; obtain ⟨hc1, hf1⟩ := bcell hb1; have hw1 : Below w.heap.size w w1 := bl_call (by repeat (first | exact Below.refl _ _ | assumption | (refine bl_alloc ?_ (Nat.le_refl _) _) | (refine bl_set ?_ (by simp <;> omega) _))) hb1; have hz1 : w.heap.size + 2 ≤ w1.heap.size := (by have hq := hb1.size; have hr := hw1.size; (try simp at hq); omega); have hza : w.heap.size < w1.heap.size := (by omega); have hzb : w.heap.size + 1 < w1.heap.size := (by omega); have hz4 := hb1.size; (try simp at hz4); (try have hz5 := Nat.lt_of_succ_le hz4); obtain ⟨wO, rfl⟩ : ∃ wO : World, wO = w1 := ⟨_, rfl⟩) | (go_at_call 46; (with_reducible refine (HD _ _ _ (by assumption)).mono ?_); rintro e w1 ⟨rfl, hb1⟩; obtain ⟨hc1, hf1⟩ := bcell hb1; have hw1 : Below w.heap.size w w1 := bl_call (by repeat (first | exact Below.refl _ _ | assumption | (refine bl_alloc ?_ (Nat.le_refl _) _) | (refine bl_set ?_ (by simp <;> omega) _))) hb1; have hz1 : w.heap.size + 2 ≤ w1.heap.size := (by have hq := hb1.size; have hr := hw1.size; (try simp at hq); omega); have hza : w.heap.size < w1.heap.size := (by omega); have hzb : w.heap.size + 1 < w1.heap.size := (by omega); have hz4 := hb1.size; (try simp at hz4); (try have hz5 := Nat.lt_of_succ_le hz4); (try have hzxwO : wO.heap.size < w1.heap.size := (by omega)); obtain ⟨wD, rfl⟩ : ∃ wD : World, wD = w1 := ⟨_, rfl⟩))
  refine wp_region_tail_below 10 (by kernel_rfl) (by kernel_rfl) ?_
  simp only [List.take_succ_cons, List.take_zero, List.drop_succ_cons, List.drop_zero]
  repeat (first | go_big_quiet_step ((first | (go_at_call 56; with_reducible exact Calls.regrown_of (HN1 _)) | (go_at_call 56; with_reducible exact Calls.regrown_of (HN2 _)))) | quiet_step ((first | (go_at_call 56; with_reducible exact Calls.regrown_of (HN1 _)) | (go_at_call 56; with_reducible exact Calls.regrown_of (HN2 _)))))
  refine wpQuiet_nil ?_
  intro w1 hw1
  obtain ⟨pq, hpq⟩ := hw1
  have hb1 := below_of hpq
  clear hpq pq
  have hz4 := hb1.size
  (try simp at hz4)
  obtain ⟨hc1, hf1⟩ := bcell hb1
  have hw1 : Below w.heap.size w w1 := bl_call (by repeat (first | exact Below.refl _ _ | assumption | (refine bl_alloc ?_ (Nat.le_refl _) _) | (refine bl_set ?_ (by simp <;> omega) _))) hb1
  have hz1 : w.heap.size + 2 ≤ w1.heap.size := (by have hq := hb1.size; have hr := hw1.size; (try simp at hq); omega)
  have hza : w.heap.size < w1.heap.size := (by omega)
  have hzb : w.heap.size + 1 < w1.heap.size := (by omega)
  go_wp2
  obtain ⟨wQ, rfl⟩ : ∃ wQ, wQ = w1 := ⟨_, rfl⟩
  have hbO : Below ((w.alloc (.cells (afCells m) 25)).alloc (.cells (afCells zeroA) 25)).heap.size ((w.alloc (.cells (afCells m) 25)).alloc (.cells (afCells zeroA) 25)) wO := by assumption
  have hbD : Below wO.heap.size wO wD := by assumption
  have zO := hbO.size
  simp at zO
  have zD := hbD.size
  have oM : wQ.heap[w.heap.size]? = some (.cells (afCells m) 25 (0, 0)) := (hb1.block _ (by simp; omega)).trans ((ug_old _ _ (by omega)).trans ((hbD.block _ (by omega)).trans ((hbO.block _ (by simp; omega)).trans ((ug_old _ _ (by simp)).trans (ug_new _ _ rfl)))))
  have oR : wQ.heap[w.heap.size + 1]? = some (.cells (afCells zeroA) 25 (0, 0)) := (hb1.block _ (by simp; omega)).trans ((ug_old _ _ (by omega)).trans ((hbD.block _ (by omega)).trans ((hbO.block _ (by simp)).trans (ug_new _ _ (by simp)))))
  have oD : wQ.heap[wD.heap.size]? = some (.cells #[.int .i64 (detF m).1, .int .i64 (detF m).2] 23 (0, 0)) := (hb1.block _ (by simp)).trans (ug_new _ _ rfl)
  have hbw : Below w.heap.size w wQ := hw1
  have zQ : wD.heap.size < wQ.heap.size := by omega
  clear hbO hbD hb1 hc1 hf1 hw1 hz1 hza hzb hz4
  go_loopw [7] (fun iv wr => ∃ k : Nat, k ≤ 4 ∧ iv = .int .i64 k ∧ Hid (gk m k = true) ∧ Hid (Under 23 2 wQ.heap.size (.slice (some ⟨wQ.heap.size, 0, none⟩) 4 4) 4 (flat2 (lk m k)) w (wQ.alloc (.cells #[.int .i64 m.yy.1, .int .i64 m.yy.2, .int .i64 (-m.xy.1), .int .i64 m.xy.2, .int .i64 (-m.yx.1), .int .i64 m.yx.2, .int .i64 m.xx.1, .int .i64 m.xx.2] 23)) wr)) (fun iv _ => 4 - (intOf iv).toNat)
  case atStart =>
    refine ⟨0, by omega, rfl, rfl, Under.start ⟨rfl, .inr ⟨wQ.heap.size, 4, _, rfl, Nat.le_refl _, heap_alloc_new _ _, Nat.le_refl _, by decide, rfl, rfl⟩⟩ (fun k hk => by simp [Value.ownBlock] at hk; exact hk.symm) hbw.size (by simp) (hbw.alloc hbw.size _)⟩
  case round =>
    obtain ⟨k, hk, rfl, hg, hU⟩ := hrel
    have hbr : Below w.heap.size w wr := hU.out.below
    have hsz := hU.out.size
    simp at hsz
    have xM := (hU.out.rest w.heap.size (by simp; omega) (by omega)).trans ((ug_old _ _ (by omega)).trans oM)
    have xR := (hU.out.rest (w.heap.size + 1) (by simp; omega) (by omega)).trans ((ug_old _ _ (by omega)).trans oR)
    have cM8 : wr.cell? ⟨w.heap.size, 8, none⟩ = some (.int .i64 m.dx.1) := (ug_cell xM 8).trans rfl
    have cM9 : wr.cell? ⟨w.heap.size, 9, none⟩ = some (.int .i64 m.dx.2) := (ug_cell xM 9).trans rfl
    have cM10 : wr.cell? ⟨w.heap.size, 10, none⟩ = some (.int .i64 m.dy.1) := (ug_cell xM 10).trans rfl
    have cM11 : wr.cell? ⟨w.heap.size, 11, none⟩ = some (.int .i64 m.dy.2) := (ug_cell xM 11).trans rfl
    have cR := zero12 xR
    have fR := ug_frozen xR
    have hza : w.heap.size < wr.heap.size := by omega
    have hzb : w.heap.size + 1 < wr.heap.size := by omega
    have hzd : wD.heap.size < wr.heap.size := by omega
    have hzl : wQ.heap.size < wr.heap.size := by omega
    have xD := (hU.out.rest wD.heap.size (by simp; omega) (by omega)).trans ((ug_old _ _ (by omega)).trans oD)
    have cD0 : wr.cell? ⟨wD.heap.size, 0, none⟩ = some (.int .i64 (detF m).1) := (ug_cell xD 0).trans rfl
    have cD1 : wr.cell? ⟨wD.heap.size, 1, none⟩ = some (.int .i64 (detF m).2) := (ug_cell xD 1).trans rfl
    clear xM xR xD
    by_cases hkn : k < 4
    · have hp := nm_ok h1 hkn
      have e1 := hide (lk_s m hkn)
      have e3 := hide (gk_s m hkn)
      obtain ⟨p0, p1⟩ := hU.out.two (lk_len m hk) hkn
      rw [lk_at m hkn] at p0 p1
      have pf := hU.out.frozenOwn
      generalize (nmL m).getD k (0, 0) = p at *
      have HV := divFrac_s p.1 p.2 (detF m).1 (detF m).2 (okF_I hp).1 (okF_I hp).2 (okF_I hd).1 (okF_I hd).2
      obtain ⟨f1, f2, f3⟩ := div_cnd hp hd h4
      rw [f1, f2, f3] at HV
      clear f1 f2 f3
      cases hq : decide (divK p (detF m) = 0)
      · have h6 : g6 m = false := gk_g6 (k := k + 1) (by omega) (by rw [e3.out, hq]; simp)
        obtain ⟨HA, HC⟩ := HX.out h6
        have HA := hide HA
        have HC := hide HC
        rw [hq, cnd_f, cnd_f, bI_f] at HV
        clear hq h6
        go_wp2
        refine wp_region_made 9 _ _ (.cells #[.int .i64 0, .int .i64 0] 23) (.cells #[.int .i64 0, .int .i64 0] 23) (by kernel_rfl) (by kernel_rfl) rfl rfl (fun _ _ => by kernel_rfl) ?_
        simp only [List.take_succ_cons, List.take_zero, List.drop_succ_cons, List.drop_zero]
        repeat (refine wpSteady_step (fun K hK => ?_); go_simp; first | (refine hK _ ?_; clear hK K) | (apply Exists.intro; refine ⟨fun _ => ?_, hK _ ?_⟩; (first | (go_at_call 57; with_reducible exact keeps_of (HV _))); clear hK K))
        refine wpSteady_nil ?_
        refine ⟨?_, ?_⟩
        · intro gx w1 _ hx
          have hk := cell_blk hx
          have hf := frozen_blk hx
          exact ⟨(World.setCell (World.setCell w1 ⟨gx, 0, none⟩ (.int .i64 0)) ⟨gx, 1, none⟩ (.int .i64 0)), (by simp [go_sem, hk, hf]), (heap_set (heap_set hx 0 _) 1 _), (only_set ((only_set (only_refl w1 gx) 0 _)) 1 _)⟩
        intro gx w1 hgx hlx hb1 hx
        have hkx := cell_blk hx
        have hfx := frozen_blk hx
        clear hx
        try simp at hgx
        obtain ⟨hc1, hf1⟩ := bcell hb1
        have hw1 : Below w.heap.size w w1 := bl_call (by repeat (first | exact Below.refl _ _ | assumption | (refine bl_alloc ?_ (Nat.le_refl _) _) | (refine bl_set ?_ (by simp <;> omega) _))) hb1
        have hz1 : w.heap.size + 2 ≤ w1.heap.size := (by have hq := hb1.size; have hr := hw1.size; (try simp at hq); omega)
        have hza : w.heap.size < w1.heap.size := (by omega)
        have hzb : w.heap.size + 1 < w1.heap.size := (by omega)
        go_wp2
        refine bodyPost_ret (v := .tuple #[afV (invA m), .int .i64 (invC m)]) ?_ rfl ⟨rfl, (by repeat (first | (with_reducible refine bl_set ?_ (by simp <;> omega) _) | (with_reducible refine bl_alloc ?_ (Nat.le_refl _) _) | (with_reducible refine Below.drew ?_) | (with_reducible assumption) | (with_reducible exact Below.refl _ _)))⟩
        rw [HA.out, HC.out]; simp (maxDischargeDepth := 9) [results, Try.results35, go_sem, afV, affV, zeroA, *]
      · have hgn := hide (show gk m (k + 1) = true by rw [e3.out, hq, hg.out]; rfl)
        rw [hq, cnd_t, cnd_t, bI_t] at HV
        clear hq
        go_wp2
        refine wp_region_made 9 _ _ (.cells #[.int .i64 0, .int .i64 0] 23) (.cells #[.int .i64 (divF p (detF m)).1, .int .i64 (divF p (detF m)).2] 23) (by kernel_rfl) (by kernel_rfl) rfl rfl (fun _ _ => by kernel_rfl) ?_
        simp only [List.take_succ_cons, List.take_zero, List.drop_succ_cons, List.drop_zero]
        repeat (refine wpSteady_step (fun K hK => ?_); go_simp; first | (refine hK _ ?_; clear hK K) | (apply Exists.intro; refine ⟨fun _ => ?_, hK _ ?_⟩; (first | (go_at_call 57; with_reducible exact keeps_of (HV _))); clear hK K))
        refine wpSteady_nil ?_
        refine ⟨?_, ?_⟩
        · intro gx w1 _ hx
          have hk := cell_blk hx
          have hf := frozen_blk hx
          exact ⟨(World.setCell (World.setCell w1 ⟨gx, 0, none⟩ (.int .i64 (divF p (detF m)).1)) ⟨gx, 1, none⟩ (.int .i64 (divF p (detF m)).2)), (by simp [go_sem, hk, hf]), (heap_set (heap_set hx 0 _) 1 _), (only_set ((only_set (only_refl w1 gx) 0 _)) 1 _)⟩
        intro gx w1 hgx hlx hb1 hx
        have hkx := cell_blk hx
        have hfx := frozen_blk hx
        clear hx
        try simp at hgx
        obtain ⟨hc1, hf1⟩ := bcell hb1
        have hw1 : Below w.heap.size w w1 := bl_call (by repeat (first | exact Below.refl _ _ | assumption | (refine bl_alloc ?_ (Nat.le_refl _) _) | (refine bl_set ?_ (by simp <;> omega) _))) hb1
        have hz1 : w.heap.size + 2 ≤ w1.heap.size := (by have hq := hb1.size; have hr := hw1.size; (try simp at hq); omega)
        have hza : w.heap.size < w1.heap.size := (by omega)
        have hzb : w.heap.size + 1 < w1.heap.size := (by omega)
        have hux := hide (hU.out.later hb1)
        go_wp2
        go_roundw
        case rel => exact ⟨k + 1, by omega, by go_num, hgn, by unfold Hid; rw [e1.out]; exact hux.out.put2 k _⟩
        case measure => simp [intOf]; omega
    · obtain rfl : k = 4 := by omega
      have hU0 := hide (show Under 23 2 wQ.heap.size (.slice (some ⟨wQ.heap.size, 0, none⟩) (4 + 0) 4) (4 + 0) (flat2 (l2k m 0)) w (wQ.alloc (.cells #[.int .i64 m.yy.1, .int .i64 m.yy.2, .int .i64 (-m.xy.1), .int .i64 m.xy.2, .int .i64 (-m.yx.1), .int .i64 m.yx.2, .int .i64 m.xx.1, .int .i64 m.xx.2] 23)) wr from hU.out)
      have hg4 := hide (show gk2 m 0 = true from hg.out)
      clear hU hg cM8 cM9 cM10 cM11 cR fR hza hzb hzd hzl cD0 cD1 hsz hbr
      go_wp2
      go_loopw [6, 10] (fun v iv wr => ∃ k g cap : Nat, k ≤ 2 ∧ iv = .int .i64 k ∧ v = .slice (some ⟨g, 0, none⟩) (4 + k) cap ∧ Hid (gk2 m k = true) ∧ Hid (Under 23 2 wQ.heap.size (.slice (some ⟨g, 0, none⟩) (4 + k) cap) (4 + k) (flat2 (l2k m k)) w (wQ.alloc (.cells #[.int .i64 m.yy.1, .int .i64 m.yy.2, .int .i64 (-m.xy.1), .int .i64 m.xy.2, .int .i64 (-m.yx.1), .int .i64 m.yx.2, .int .i64 m.xx.1, .int .i64 m.xx.2] 23)) wr)) (fun _ iv _ => 2 - (intOf iv).toNat)
      case atStart => exact ⟨0, wQ.heap.size, 4, by omega, rfl, rfl, hg4, hU0⟩
      case round =>
        obtain ⟨k, g, cap, hk, rfl, rfl, hg, hU⟩ := hrel
        clear hU0 hg4
        have hbr : Below w.heap.size w wr := hU.out.below
        have hsz := hU.out.size
        simp at hsz
        have xM := (hU.out.rest w.heap.size (by simp; omega) (by omega)).trans ((ug_old _ _ (by omega)).trans oM)
        have xR := (hU.out.rest (w.heap.size + 1) (by simp; omega) (by omega)).trans ((ug_old _ _ (by omega)).trans oR)
        have cM8 : wr.cell? ⟨w.heap.size, 8, none⟩ = some (.int .i64 m.dx.1) := (ug_cell xM 8).trans rfl
        have cM9 : wr.cell? ⟨w.heap.size, 9, none⟩ = some (.int .i64 m.dx.2) := (ug_cell xM 9).trans rfl
        have cM10 : wr.cell? ⟨w.heap.size, 10, none⟩ = some (.int .i64 m.dy.1) := (ug_cell xM 10).trans rfl
        have cM11 : wr.cell? ⟨w.heap.size, 11, none⟩ = some (.int .i64 m.dy.2) := (ug_cell xM 11).trans rfl
        have cR := zero12 xR
        have fR := ug_frozen xR
        have hza : w.heap.size < wr.heap.size := by omega
        have hzb : w.heap.size + 1 < wr.heap.size := by omega
        have hzd : wD.heap.size < wr.heap.size := by omega
        have hzl : wQ.heap.size < wr.heap.size := by omega
        clear xM xR
        have s0 : IntKind.i64.wrap 0 = 0 := by decide
        have s1 : IntKind.i64.wrap 1 = 1 := by decide
        have s2 : IntKind.i64.wrap 2 = 2 := by decide
        have s3 : IntKind.i64.wrap 3 = 3 := by decide
        by_cases hkn : k < 2
        · have hj : k = 0 ∨ k = 1 := by omega
          rcases hj with rfl | rfl
          · have HQ := q_ok h1 hd h4
            have hgg := hide hg.out
            clear hg
            have oka := HQ.ok1 (gs4 hgg.out).1
            have okb := HQ.ok2 (gs4 hgg.out).2.1
            have hT := hU.out.two (l2k_len m (by omega)) (j := 0) (by omega)
            have hT2 := hU.out.two (l2k_len m (by omega)) (j := 1) (by omega)
            have p0 : wr.cell? ⟨g, 0, none⟩ = some (.int .i64 (q1 m).1) := hT.1
            have p1 : wr.cell? ⟨g, 1, none⟩ = some (.int .i64 (q1 m).2) := hT.2
            have p2 : wr.cell? ⟨g, 2, none⟩ = some (.int .i64 (q2 m).1) := hT2.1
            have p3 : wr.cell? ⟨g, 3, none⟩ = some (.int .i64 (q2 m).2) := hT2.2
            have hlt := (hU.out.own.lt g rfl).2
            have HT := l04Two_any (q1 m) m.dx (q2 m) m.dy oka v4 okb v5
            clear hT hT2
            cases hq : dotG (q1 m) m.dx (q2 m) m.dy
            · have h6 : g6 m = false := gk2_g6 (k := 1) (by omega) (by show g5 m = false; unfold g5; rw [hq]; simp)
              obtain ⟨HA, HC⟩ := HX.out h6
              have HA := hide HA
              have HC := hide HC
              rw [hq, cnd_f, cnd_f] at HT
              clear hq h6
              go_wp2
              refine wp_region_made 19 _ _ (.cells #[.int .i64 0, .int .i64 0] 23) (.cells #[.int .i64 0, .int .i64 0] 23) (by kernel_rfl) (by kernel_rfl) rfl rfl (fun _ _ => by kernel_rfl) ?_
              simp only [List.take_succ_cons, List.take_zero, List.drop_succ_cons, List.drop_zero]
              repeat (refine wpSteady_step (fun K hK => ?_); go_simp; first | (refine hK _ ?_; clear hK K) | (apply Exists.intro; refine ⟨fun _ => ?_, hK _ ?_⟩; (first | (go_at_call 58; with_reducible exact keeps_of (HT _))); clear hK K))
              refine wpSteady_nil ?_
              refine ⟨?_, ?_⟩
              · intro gx w1 _ hx
                have hk := cell_blk hx
                have hf := frozen_blk hx
                exact ⟨(World.setCell (World.setCell w1 ⟨gx, 0, none⟩ (.int .i64 0)) ⟨gx, 1, none⟩ (.int .i64 0)), (by simp [go_sem, hk, hf]), (heap_set (heap_set hx 0 _) 1 _), (only_set ((only_set (only_refl w1 gx) 0 _)) 1 _)⟩
              intro gx w1 hgx hlx hb1 hx
              have hkx := cell_blk hx
              have hfx := frozen_blk hx
              clear hx
              try simp at hgx
              obtain ⟨hc1, hf1⟩ := bcell hb1
              have hw1 : Below w.heap.size w w1 := bl_call (by repeat (first | exact Below.refl _ _ | assumption | (refine bl_alloc ?_ (Nat.le_refl _) _) | (refine bl_set ?_ (by simp <;> omega) _))) hb1
              have hz1 : w.heap.size + 2 ≤ w1.heap.size := (by have hq := hb1.size; have hr := hw1.size; (try simp at hq); omega)
              have hza : w.heap.size < w1.heap.size := (by omega)
              have hzb : w.heap.size + 1 < w1.heap.size := (by omega)
              go_wp2
              refine bodyPost_ret (v := .tuple #[afV (invA m), .int .i64 (invC m)]) ?_ rfl ⟨rfl, (by repeat (first | (with_reducible refine bl_set ?_ (by simp <;> omega) _) | (with_reducible refine bl_alloc ?_ (Nat.le_refl _) _) | (with_reducible refine Below.drew ?_) | (with_reducible assumption) | (with_reducible exact Below.refl _ _)))⟩
              rw [HA.out, HC.out]; simp (maxDischargeDepth := 9) [results, Try.results35, go_sem, afV, affV, zeroA, *]
            · have hgn := hide (show gk2 m 1 = true by show g5 m = true; unfold g5; rw [hq, show g4 m = true from hgg.out]; rfl)
              have hdk := (dotF_v oka v4 okb v5 hq).1
              have HNg := l04Neg_any _ hdk
              rw [hq, cnd_t, cnd_t] at HT
              clear hq
              go_wp2
              refine wp_region_made 19 _ _ (.cells #[.int .i64 0, .int .i64 0] 23) (.cells #[.int .i64 (dotF (q1 m) m.dx (q2 m) m.dy).1, .int .i64 (dotF (q1 m) m.dx (q2 m) m.dy).2] 23) (by kernel_rfl) (by kernel_rfl) rfl rfl (fun _ _ => by kernel_rfl) ?_
              simp only [List.take_succ_cons, List.take_zero, List.drop_succ_cons, List.drop_zero]
              repeat (refine wpSteady_step (fun K hK => ?_); go_simp; first | (refine hK _ ?_; clear hK K) | (apply Exists.intro; refine ⟨fun _ => ?_, hK _ ?_⟩; (first | (go_at_call 58; with_reducible exact keeps_of (HT _))); clear hK K))
              refine wpSteady_nil ?_
              refine ⟨?_, ?_⟩
              · intro gx w1 _ hx
                have hk := cell_blk hx
                have hf := frozen_blk hx
                exact ⟨(World.setCell (World.setCell w1 ⟨gx, 0, none⟩ (.int .i64 (dotF (q1 m) m.dx (q2 m) m.dy).1)) ⟨gx, 1, none⟩ (.int .i64 (dotF (q1 m) m.dx (q2 m) m.dy).2)), (by simp [go_sem, hk, hf]), (heap_set (heap_set hx 0 _) 1 _), (only_set ((only_set (only_refl w1 gx) 0 _)) 1 _)⟩
              intro gx w1 hgx hlx hb1 hx
              have hkx := cell_blk hx
              have hfx := frozen_blk hx
              clear hx
              try simp at hgx
              obtain ⟨hc1, hf1⟩ := bcell hb1
              have hw1 : Below w.heap.size w w1 := bl_call (by repeat (first | exact Below.refl _ _ | assumption | (refine bl_alloc ?_ (Nat.le_refl _) _) | (refine bl_set ?_ (by simp <;> omega) _))) hb1
              have hz1 : w.heap.size + 2 ≤ w1.heap.size := (by have hq := hb1.size; have hr := hw1.size; (try simp at hq); omega)
              have hza : w.heap.size < w1.heap.size := (by omega)
              have hzb : w.heap.size + 1 < w1.heap.size := (by omega)
              obtain ⟨wX, rfl⟩ : ∃ wX, wX = w1 := ⟨_, rfl⟩
              have hux := hide (hU.out.later hb1)
              go_wp2_with fail
              (with_reducible refine (HNg _).mono ?_)
              rintro e wN ⟨rfl, hbN⟩
              have hun := hide (hux.out.later hbN)
              have hsN := hun.out.size
              simp at hsN
              go_wp2_with (at_builtin; refine wpList_append_lies _ (by rfl) (.tmp 84) (.tmp 87) _ (by rfl) wQ.heap.size 23 i0 _ 2 16 Try.underlying79 hi hzA hzB hzC rfl (by decide) _ _ _ (by rfl) ((hun.out.own).alloc _) ⟨wN.heap.size, 0, none⟩ 1 1 [.int .i64 (-(dotF (q1 m) m.dx (q2 m) m.dy).1), .int .i64 (dotF (q1 m) m.dx (q2 m) m.dy).2] (by rfl) rfl (World.news_of_block (heap_alloc_new wN _)) (by intro u hu; simp at hu; rcases hu with rfl | rfl <;> rfl) (by decide) (by simp only [maxLen]; omega) (by omega) (by simp; omega) (wN.heap.size + 1) (by simp) ?_; intro g' cap' w3 hown hgrow hat hlt3)
              have HU3 := hun.out.grown ((Below.refl _ _).alloc (Nat.le_refl _) _) hown hgrow (hat.imp id (fun e => by omega))
              refine ⟨?_, ?mm⟩
              (repeat apply Exists.intro)
              refine ⟨?rr, rfl⟩
              case rr => exact ⟨1, g', cap', by omega, by go_num, by rfl, hgn, by unfold Hid; rw [l2k_s m (by omega), flat2_snoc]; exact HU3⟩
              case mm => simp [intOf]
          · have HQ := q_ok h1 hd h4
            have hgg := hide hg.out
            clear hg
            have oka := HQ.ok3 (gs4 (gs5 hgg.out)).2.2
            have okb := HQ.ok4 (gs5 hgg.out)
            have hT := hU.out.two (l2k_len m (by omega)) (j := 2) (by omega)
            have hT2 := hU.out.two (l2k_len m (by omega)) (j := 3) (by omega)
            have p0 : wr.cell? ⟨g, 4, none⟩ = some (.int .i64 (q3 m).1) := hT.1
            have p1 : wr.cell? ⟨g, 5, none⟩ = some (.int .i64 (q3 m).2) := hT.2
            have p2 : wr.cell? ⟨g, 6, none⟩ = some (.int .i64 (q4 m).1) := hT2.1
            have p3 : wr.cell? ⟨g, 7, none⟩ = some (.int .i64 (q4 m).2) := hT2.2
            have hlt := (hU.out.own.lt g rfl).2
            have HT := l04Two_any (q3 m) m.dx (q4 m) m.dy oka v4 okb v5
            clear hT hT2
            cases hq : dotG (q3 m) m.dx (q4 m) m.dy
            · have h6 : g6 m = false := gk2_g6 (k := 2) (by omega) (by show g6 m = false; unfold g6; rw [hq]; simp)
              obtain ⟨HA, HC⟩ := HX.out h6
              have HA := hide HA
              have HC := hide HC
              rw [hq, cnd_f, cnd_f] at HT
              clear hq h6
              go_wp2
              refine wp_region_made 19 _ _ (.cells #[.int .i64 0, .int .i64 0] 23) (.cells #[.int .i64 0, .int .i64 0] 23) (by kernel_rfl) (by kernel_rfl) rfl rfl (fun _ _ => by kernel_rfl) ?_
              simp only [List.take_succ_cons, List.take_zero, List.drop_succ_cons, List.drop_zero]
              repeat (refine wpSteady_step (fun K hK => ?_); go_simp; first | (refine hK _ ?_; clear hK K) | (apply Exists.intro; refine ⟨fun _ => ?_, hK _ ?_⟩; (first | (go_at_call 58; with_reducible exact keeps_of (HT _))); clear hK K))
              refine wpSteady_nil ?_
              refine ⟨?_, ?_⟩
              · intro gx w1 _ hx
                have hk := cell_blk hx
                have hf := frozen_blk hx
                exact ⟨(World.setCell (World.setCell w1 ⟨gx, 0, none⟩ (.int .i64 0)) ⟨gx, 1, none⟩ (.int .i64 0)), (by simp [go_sem, hk, hf]), (heap_set (heap_set hx 0 _) 1 _), (only_set ((only_set (only_refl w1 gx) 0 _)) 1 _)⟩
              intro gx w1 hgx hlx hb1 hx
              have hkx := cell_blk hx
              have hfx := frozen_blk hx
              clear hx
              try simp at hgx
              obtain ⟨hc1, hf1⟩ := bcell hb1
              have hw1 : Below w.heap.size w w1 := bl_call (by repeat (first | exact Below.refl _ _ | assumption | (refine bl_alloc ?_ (Nat.le_refl _) _) | (refine bl_set ?_ (by simp <;> omega) _))) hb1
              have hz1 : w.heap.size + 2 ≤ w1.heap.size := (by have hq := hb1.size; have hr := hw1.size; (try simp at hq); omega)
              have hza : w.heap.size < w1.heap.size := (by omega)
              have hzb : w.heap.size + 1 < w1.heap.size := (by omega)
              go_wp2
              refine bodyPost_ret (v := .tuple #[afV (invA m), .int .i64 (invC m)]) ?_ rfl ⟨rfl, (by repeat (first | (with_reducible refine bl_set ?_ (by simp <;> omega) _) | (with_reducible refine bl_alloc ?_ (Nat.le_refl _) _) | (with_reducible refine Below.drew ?_) | (with_reducible assumption) | (with_reducible exact Below.refl _ _)))⟩
              rw [HA.out, HC.out]; simp (maxDischargeDepth := 9) [results, Try.results35, go_sem, afV, affV, zeroA, *]
            · have hgn := hide (show gk2 m 2 = true by show g6 m = true; unfold g6; rw [hq, show g5 m = true from hgg.out]; rfl)
              have hdk := (dotF_v oka v4 okb v5 hq).1
              have HNg := l04Neg_any _ hdk
              rw [hq, cnd_t, cnd_t] at HT
              clear hq
              go_wp2
              refine wp_region_made 19 _ _ (.cells #[.int .i64 0, .int .i64 0] 23) (.cells #[.int .i64 (dotF (q3 m) m.dx (q4 m) m.dy).1, .int .i64 (dotF (q3 m) m.dx (q4 m) m.dy).2] 23) (by kernel_rfl) (by kernel_rfl) rfl rfl (fun _ _ => by kernel_rfl) ?_
              simp only [List.take_succ_cons, List.take_zero, List.drop_succ_cons, List.drop_zero]
              repeat (refine wpSteady_step (fun K hK => ?_); go_simp; first | (refine hK _ ?_; clear hK K) | (apply Exists.intro; refine ⟨fun _ => ?_, hK _ ?_⟩; (first | (go_at_call 58; with_reducible exact keeps_of (HT _))); clear hK K))
              refine wpSteady_nil ?_
              refine ⟨?_, ?_⟩
              · intro gx w1 _ hx
                have hk := cell_blk hx
                have hf := frozen_blk hx
                exact ⟨(World.setCell (World.setCell w1 ⟨gx, 0, none⟩ (.int .i64 (dotF (q3 m) m.dx (q4 m) m.dy).1)) ⟨gx, 1, none⟩ (.int .i64 (dotF (q3 m) m.dx (q4 m) m.dy).2)), (by simp [go_sem, hk, hf]), (heap_set (heap_set hx 0 _) 1 _), (only_set ((only_set (only_refl w1 gx) 0 _)) 1 _)⟩
              intro gx w1 hgx hlx hb1 hx
              have hkx := cell_blk hx
              have hfx := frozen_blk hx
              clear hx
              try simp at hgx
              obtain ⟨hc1, hf1⟩ := bcell hb1
              have hw1 : Below w.heap.size w w1 := bl_call (by repeat (first | exact Below.refl _ _ | assumption | (refine bl_alloc ?_ (Nat.le_refl _) _) | (refine bl_set ?_ (by simp <;> omega) _))) hb1
              have hz1 : w.heap.size + 2 ≤ w1.heap.size := (by have hq := hb1.size; have hr := hw1.size; (try simp at hq); omega)
              have hza : w.heap.size < w1.heap.size := (by omega)
              have hzb : w.heap.size + 1 < w1.heap.size := (by omega)
              obtain ⟨wX, rfl⟩ : ∃ wX, wX = w1 := ⟨_, rfl⟩
              have hux := hide (hU.out.later hb1)
              go_wp2_with fail
              (with_reducible refine (HNg _).mono ?_)
              rintro e wN ⟨rfl, hbN⟩
              have hun := hide (hux.out.later hbN)
              have hsN := hun.out.size
              simp at hsN
              go_wp2_with (at_builtin; refine wpList_append_lies _ (by rfl) (.tmp 84) (.tmp 87) _ (by rfl) wQ.heap.size 23 i0 _ 2 16 Try.underlying79 hi hzA hzB hzC rfl (by decide) _ _ _ (by rfl) ((hun.out.own).alloc _) ⟨wN.heap.size, 0, none⟩ 1 1 [.int .i64 (-(dotF (q3 m) m.dx (q4 m) m.dy).1), .int .i64 (dotF (q3 m) m.dx (q4 m) m.dy).2] (by rfl) rfl (World.news_of_block (heap_alloc_new wN _)) (by intro u hu; simp at hu; rcases hu with rfl | rfl <;> rfl) (by decide) (by simp only [maxLen]; omega) (by omega) (by simp; omega) (wN.heap.size + 1) (by simp) ?_; intro g' cap' w3 hown hgrow hat hlt3)
              have HU3 := hun.out.grown ((Below.refl _ _).alloc (Nat.le_refl _) _) hown hgrow (hat.imp id (fun e => by omega))
              refine ⟨?_, ?mm⟩
              (repeat apply Exists.intro)
              refine ⟨?rr, rfl⟩
              case rr => exact ⟨2, g', cap', by omega, by go_num, by rfl, hgn, by unfold Hid; rw [l2k_s m (by omega), flat2_snoc]; exact HU3⟩
              case mm => simp [intOf]
        · obtain rfl : k = 2 := by omega
          have h6 : g6 m = true := hg.out
          obtain ⟨HA, HC⟩ := HY.out h6
          have HA := hide HA
          have HC := hide HC
          have hlt := (hU.out.own.lt g rfl).2
          have HMk := l04Make_any ⟨q1 m, q2 m, q3 m, q4 m, n1F m, n2F m⟩ g cap wr hlt (own_cap hU.out.own) (fun j hj => (hU.out.own.cellAt j (by omega)).trans (by rw [show flat2 (l2k m 2) = (afCells ⟨q1 m, q2 m, q3 m, q4 m, n1F m, n2F m⟩).toList from rfl, Array.getElem?_toList]))
          simp only [afV, affV] at HMk
          go_wp2_with (first | (go_at_call 59; (with_reducible refine (HMk).mono ?_); rintro e w1 ⟨rfl, hb1⟩; obtain ⟨hc1, hf1⟩ := bcell hb1; have hw1 : Below w.heap.size w w1 := bl_call (by repeat (first | exact Below.refl _ _ | assumption | (refine bl_alloc ?_ (Nat.le_refl _) _) | (refine bl_set ?_ (by simp <;> omega) _))) hb1; have hz1 : w.heap.size + 2 ≤ w1.heap.size := (by have hq := hb1.size; have hr := hw1.size; (try simp at hq); omega); have hza : w.heap.size < w1.heap.size := (by omega); have hzb : w.heap.size + 1 < w1.heap.size := (by omega); have hz4 := hb1.size; (try simp at hz4); (try have hz5 := Nat.lt_of_succ_le hz4)))
          refine bodyPost_ret (v := .tuple #[afV (invA m), .int .i64 (invC m)]) ?_ rfl ⟨rfl, (by repeat (first | (with_reducible refine bl_set ?_ (by simp <;> omega) _) | (with_reducible refine bl_alloc ?_ (Nat.le_refl _) _) | (with_reducible refine Below.drew ?_) | (with_reducible assumption) | (with_reducible exact Below.refl _ _)))⟩
          rw [HA.out, HC.out]; simp (maxDischargeDepth := 9) [results, Try.results35, go_sem, afV, affV, *]
end Go.Proofs.Ytickgkfgmbaalaa
