/-
  CONTRACT of impl.InvertMap. Conditions: integers of 64 bits.
-/
import Derived.Test.YtickgkfgmbaalaaDoorMapI
namespace Go.Proofs.YtickgkfgmbaalaaDoor
open Go.RowKit Go.Sort
set_option linter.unusedVariables false
attribute [local go_sem] cell_grow frozen_grow
attribute [local go_sem] Oper.quietAt Oper.quietUpon
def q1 (m : Af) : F2 := divF m.yy (detF m)
def q2 (m : Af) : F2 := divF (negF m.xy) (detF m)
def q3 (m : Af) : F2 := divF (negF m.yx) (detF m)
def q4 (m : Af) : F2 := divF m.xx (detF m)
def g1 (m : Af) : Bool := decide (divK m.yy (detF m) = 0)
def g2 (m : Af) : Bool := g1 m && decide (divK (negF m.xy) (detF m) = 0)
def g3 (m : Af) : Bool := g2 m && decide (divK (negF m.yx) (detF m) = 0)
def g4 (m : Af) : Bool := g3 m && decide (divK m.xx (detF m) = 0)
def g5 (m : Af) : Bool := g4 m && dotG (q1 m) m.dx (q2 m) m.dy
def g6 (m : Af) : Bool := g5 m && dotG (q3 m) m.dx (q4 m) m.dy
/-- whether the map back is sought -/
def invO (m : Af) : Bool := okAf m && detG m && !decide ((detF m).1 = 0)
def invA (m : Af) : Af := if invO m && g6 m then invF m else zeroA
def invC (m : Af) : Int := if okAf m then (if detG m then (if (detF m).1 = 0 then 6 else bI (g6 m)) else 2) else 1
theorem g6_inv (m : Af) : (detG m && !decide ((detF m).1 = 0) && g6 m) = invG m := by
  unfold g6 g5 g4 g3 g2 g1 invG q1 q2 q3 q4
  simp only [Bool.and_assoc, decide_not]
theorem invF_q (m : Af) : invF m = ⟨q1 m, q2 m, q3 m, q4 m, negF (dotF (q1 m) m.dx (q2 m) m.dy), negF (dotF (q3 m) m.dx (q4 m) m.dy)⟩ := rfl
theorem detC_no {m : Af} (h : (okAf m && detG m) = false) : invC m = detC m ∧ detC m ≠ 0 := by
  unfold invC detC
  cases h2 : okAf m
  · exact ⟨rfl, Int.one_ne_zero⟩
  · rw [h2] at h
    have h3 : detG m = false := h
    rw [h3]
    exact ⟨rfl, by decide⟩
def afO (a b c d e f g h i j k l : Int) : Obj := .cells #[.int .i64 a, .int .i64 b, .int .i64 c, .int .i64 d, .int .i64 e, .int .i64 f, .int .i64 g, .int .i64 h, .int .i64 i, .int .i64 j, .int .i64 k, .int .i64 l] 25
theorem gs5 {m : Af} (h : g5 m = true) : g4 m = true := and_t1 h
theorem gs4 {m : Af} (h : g4 m = true) : g1 m = true ∧ g2 m = true ∧ g3 m = true := ⟨and_t1 (and_t1 (and_t1 h)), and_t1 (and_t1 h), and_t1 h⟩
theorem g_last {a b : Bool} (h : (a && b) = true) : b = true := by simp at h; exact h.2
structure QOk (m : Af) : Prop where
  ok1 : g1 m = true → okF (q1 m) = true
  ok2 : g2 m = true → okF (q2 m) = true
  ok3 : g3 m = true → okF (q3 m) = true
  ok4 : g4 m = true → okF (q4 m) = true
theorem q_ok {m : Af} (h : okAf m = true) (hd : okF (detF m) = true) (h0 : (detF m).1 ≠ 0) : QOk m := by
  obtain ⟨v0, v1, v2, v3, v4, v5⟩ := okAf_t h
  exact ⟨fun k => (divF_v v3 hd (of_decide_eq_true k)).2.1, fun k => (divF_v (okF_neg v1) hd (of_decide_eq_true (g_last k))).2.1, fun k => (divF_v (okF_neg v2) hd (of_decide_eq_true (g_last k))).2.1, fun k => (divF_v v0 hd (of_decide_eq_true (g_last k))).2.1⟩
theorem nbd {b : Bool} {p : F2} (h : b = true → okF p = true) : -9223372036854775808 < cnd b p.1 ∧ cnd b p.1 ≤ 9223372036854775807 := by
  cases b
  · exact ⟨by show (-9223372036854775808 : Int) < 0; decide, by show (0 : Int) ≤ 9223372036854775807; decide⟩
  · obtain ⟨_, _, h1, h2, _⟩ := okFr_t (h rfl)
    exact ⟨by show -9223372036854775808 < p.1; omega, by show p.1 ≤ 9223372036854775807; omega⟩
theorem I_cnd {b : Bool} {p : F2} (h : b = true → okF p = true) : I64 (cnd b p.1) := by
  have h0 : I64 0 := ⟨by decide, by decide⟩
  cases b
  · exact h0
  · exact okF_I (h rfl)
theorem hdot1 (m : Af) (Q : QOk m) (hx : okF m.dx = true) (hy : okF m.dy = true) (bw : Nat) (w : World) (hlt : bw < w.heap.size) (hst : w.heap[bw]? = some (fwO (bI (g4 m)))) :
    Calls Tryd.prog 34 #[.pointer (some ⟨bw, 0, none⟩), .agg #[.int .i64 (cnd (g1 m) (q1 m).1), .int .i64 (cnd (g1 m) (q1 m).2)], .agg #[.int .i64 m.dx.1, .int .i64 m.dx.2], .agg #[.int .i64 (cnd (g2 m) (q2 m).1), .int .i64 (cnd (g2 m) (q2 m).2)], .agg #[.int .i64 m.dy.1, .int .i64 m.dy.2]] w
      fun e w' => e = .returned (.agg #[.int .i64 (cnd (g5 m) (dotF (q1 m) m.dx (q2 m) m.dy).1), .int .i64 (cnd (g5 m) (dotF (q1 m) m.dx (q2 m) m.dy).2)]) ∧ Leaves bw (fwO (bI (g5 m))) w w' := by
  unfold g5
  cases h : g4 m
  · rw [h] at hst
    exact dot_gen bw false (cnd (g1 m) (q1 m).1, cnd (g1 m) (q1 m).2) m.dx (cnd (g2 m) (q2 m).1, cnd (g2 m) (q2 m).2) m.dy (I_cnd Q.ok1) (okF_I hx) (I_cnd Q.ok2) (okF_I hy) (fun h => Bool.noConfusion h) w hlt hst
  · obtain ⟨k1, k2, k3⟩ := gs4 h
    rw [h] at hst
    rw [k1, k2]
    exact dot_gen bw true (q1 m) m.dx (q2 m) m.dy (okF_I (Q.ok1 k1)) (okF_I hx) (okF_I (Q.ok2 k2)) (okF_I hy) (fun _ => ⟨Q.ok1 k1, hx, Q.ok2 k2, hy⟩) w hlt hst
theorem hdot2 (m : Af) (Q : QOk m) (hx : okF m.dx = true) (hy : okF m.dy = true) (bw : Nat) (w : World) (hlt : bw < w.heap.size) (hst : w.heap[bw]? = some (fwO (bI (g5 m)))) :
    Calls Tryd.prog 34 #[.pointer (some ⟨bw, 0, none⟩), .agg #[.int .i64 (cnd (g3 m) (q3 m).1), .int .i64 (cnd (g3 m) (q3 m).2)], .agg #[.int .i64 m.dx.1, .int .i64 m.dx.2], .agg #[.int .i64 (cnd (g4 m) (q4 m).1), .int .i64 (cnd (g4 m) (q4 m).2)], .agg #[.int .i64 m.dy.1, .int .i64 m.dy.2]] w
      fun e w' => e = .returned (.agg #[.int .i64 (cnd (g6 m) (dotF (q3 m) m.dx (q4 m) m.dy).1), .int .i64 (cnd (g6 m) (dotF (q3 m) m.dx (q4 m) m.dy).2)]) ∧ Leaves bw (fwO (bI (g6 m))) w w' := by
  unfold g6
  cases h : g5 m
  · rw [h] at hst
    exact dot_gen bw false (cnd (g3 m) (q3 m).1, cnd (g3 m) (q3 m).2) m.dx (cnd (g4 m) (q4 m).1, cnd (g4 m) (q4 m).2) m.dy (I_cnd Q.ok3) (okF_I hx) (I_cnd Q.ok4) (okF_I hy) (fun h => Bool.noConfusion h) w hlt hst
  · have k4 := gs5 h
    obtain ⟨k1, k2, k3⟩ := gs4 k4
    rw [h] at hst
    rw [k3, k4]
    exact dot_gen bw true (q3 m) m.dx (q4 m) m.dy (okF_I (Q.ok3 k3)) (okF_I hx) (okF_I (Q.ok4 k4)) (okF_I hy) (fun _ => ⟨Q.ok3 k3, hx, Q.ok4 k4, hy⟩) w hlt hst
theorem two_q (bw : Nat) (al : Bool) (p q : F2) (hp : okF p = true) (hq : okF q = true) (h0 : q.1 ≠ 0) (w : World) (hlt : bw < w.heap.size) (hst : w.heap[bw]? = some (fwO (bI al))) :
    Calls Tryd.prog 31 #[.pointer (some ⟨bw, 0, none⟩), .func (.func 32) #[] #[], .agg #[.int .i64 p.1, .int .i64 p.2], .agg #[.int .i64 q.1, .int .i64 q.2]] w
      fun e w' => e = .returned (.agg #[.int .i64 (cnd (al && decide (divK p q = 0)) (divF p q).1), .int .i64 (cnd (al && decide (divK p q = 0)) (divF p q).2)]) ∧ Leaves bw (fwO (bI (al && decide (divK p q = 0)))) w w' :=
  two_div bw al p q (okF_I hp) (okF_I hq) (fun _ => ⟨hp, hq, h0⟩) w hlt hst
attribute [local go_sem] wk_cell wk_frozen chAt chUpon
set_option maxRecDepth 100000 in
set_option maxHeartbeats 16000000 in
theorem inv_i (m : Af) (hin : AfIn m) (w : World) : Calls Tryd.prog 10 #[afV m] w fun e w' => e = .returned (.tuple #[afV (invA m), .int .i64 (invC m)]) ∧ Below w.heap.size w w' := by
  have HD := det_i m hin
  simp only [afV, affV] at HD ⊢
  cases h1 : okAf m && detG m
  · have HA := hide (show invA m = zeroA by unfold invA invO; rw [h1]; rfl)
    obtain ⟨eC, nC⟩ := detC_no h1
    have HC := hide eC
    have k1 : (detC m != 0) = true := by simpa using nC
    have k2 : (detC m == 0) = false := by simpa using nC
    clear eC nC
    go_enter Tryd.func10, Tryd.ntmps10
    go_wp2_with (first | (go_at_call 18; (with_reducible refine (HD _).mono ?_); rintro e w1 ⟨rfl, hb1⟩; obtain ⟨hc1, hf1⟩ := bcell hb1; have hw1 : Below w.heap.size w w1 := bl_call (by repeat (first | exact Below.refl _ _ | assumption | (refine bl_alloc ?_ (Nat.le_refl _) _) | (refine bl_set ?_ (by simp <;> omega) _))) hb1; have hz1 : w.heap.size + 2 ≤ w1.heap.size := (by have hq := hb1.size; have hr := hw1.size; (try simp at hq); omega); have hza : w.heap.size < w1.heap.size := (by omega); have hzb : w.heap.size + 1 < w1.heap.size := (by omega); have hz4 := hb1.size; (try simp at hz4); (try have hz5 := Nat.lt_of_succ_le hz4)))
    refine bodyPost_ret (v := .tuple #[afV (invA m), .int .i64 (invC m)]) ?_ rfl ⟨rfl, (by repeat (first | (with_reducible refine bl_set ?_ (by simp <;> omega) _) | (with_reducible refine bl_alloc ?_ (Nat.le_refl _) _) | (with_reducible refine Below.drew ?_) | (with_reducible assumption) | (with_reducible exact Below.refl _ _)))⟩
    rw [HA.out, HC.out]; simp (maxDischargeDepth := 9) [results, Tryd.results10, go_sem, afV, affV, zeroA, *]
  obtain ⟨h2, h3⟩ := Bool.and_eq_true_iff.1 h1
  have e1 : detV m = detF m := by unfold detV; rw [h2, h3]; rfl
  have e2 : detC m = 0 := by unfold detC; rw [h2, h3]; rfl
  rw [e1, e2] at HD
  clear e1 e2
  by_cases h4 : (detF m).1 = 0
  · have HA := hide (show invA m = zeroA by unfold invA invO; rw [h2, h3, decide_eq_true h4]; rfl)
    have HC := hide (show invC m = 6 by unfold invC; rw [h2, h3, h4]; rfl)
    go_enter Tryd.func10, Tryd.ntmps10
    go_wp2_with (first | (go_at_call 18; (with_reducible refine (HD _).mono ?_); rintro e w1 ⟨rfl, hb1⟩; obtain ⟨hc1, hf1⟩ := bcell hb1; have hw1 : Below w.heap.size w w1 := bl_call (by repeat (first | exact Below.refl _ _ | assumption | (refine bl_alloc ?_ (Nat.le_refl _) _) | (refine bl_set ?_ (by simp <;> omega) _))) hb1; have hz1 : w.heap.size + 2 ≤ w1.heap.size := (by have hq := hb1.size; have hr := hw1.size; (try simp at hq); omega); have hza : w.heap.size < w1.heap.size := (by omega); have hzb : w.heap.size + 1 < w1.heap.size := (by omega); have hz4 := hb1.size; (try simp at hz4); (try have hz5 := Nat.lt_of_succ_le hz4)))
    refine bodyPost_ret (v := .tuple #[afV (invA m), .int .i64 (invC m)]) ?_ rfl ⟨rfl, (by repeat (first | (with_reducible refine bl_set ?_ (by simp <;> omega) _) | (with_reducible refine bl_alloc ?_ (Nat.le_refl _) _) | (with_reducible refine Below.drew ?_) | (with_reducible assumption) | (with_reducible exact Below.refl _ _)))⟩
    rw [HA.out, HC.out]; simp (maxDischargeDepth := 9) [results, Tryd.results10, go_sem, afV, affV, zeroA, *]
  have k1 : ((detF m).1 == 0) = false := by simpa using h4
  have k2 : ((detF m).1 != 0) = true := by simpa using h4
  obtain ⟨v0, v1, v2, v3, v4, v5⟩ := okAf_t h2
  have hd : okF (detF m) = true := (dotF_v v0 v3 (okF_neg v1) v2 h3).1
  have HN1 := negFrac_any m.xy v1
  have HN2 := negFrac_any m.yx v2
  have HQ1 := fun bw => two_q bw true m.yy (detF m) v3 hd h4
  have HQ2 := fun bw => two_q bw (g1 m) (negF m.xy) (detF m) (okF_neg v1) hd h4
  have HQ3 := fun bw => two_q bw (g2 m) (negF m.yx) (detF m) (okF_neg v2) hd h4
  have HQ4 := fun bw => two_q bw (g3 m) m.xx (detF m) v0 hd h4
  have hO : invO m = true := by unfold invO; rw [h2, h3, decide_eq_false h4]; rfl
  have HO := hide hO
  clear hO
  simp only [Bool.true_and] at HQ1
  have t1 : (decide (divK m.yy (detF m) = 0)) = g1 m := rfl
  have t2 : (g1 m && decide (divK (negF m.xy) (detF m) = 0)) = g2 m := rfl
  have t3 : (g2 m && decide (divK (negF m.yx) (detF m) = 0)) = g3 m := rfl
  have t4 : (g3 m && decide (divK m.xx (detF m) = 0)) = g4 m := rfl
  have u1 : divF m.yy (detF m) = q1 m := rfl
  have u2 : divF (negF m.xy) (detF m) = q2 m := rfl
  have u3 : divF (negF m.yx) (detF m) = q3 m := rfl
  have u4 : divF m.xx (detF m) = q4 m := rfl
  rw [t1, u1] at HQ1
  rw [t2, u2] at HQ2
  rw [t3, u3] at HQ3
  rw [t4, u4] at HQ4
  simp only [negF] at HQ2 HQ3
  clear t1 t2 t3 t4 u1 u2 u3 u4 h1
  go_enter Tryd.func10, Tryd.ntmps10
  go_wp2_with (first | (go_at_call 18; (with_reducible refine (HD _).mono ?_); rintro e w1 ⟨rfl, hb1⟩; obtain ⟨hc1, hf1⟩ := bcell hb1; have hw1 : Below w.heap.size w w1 := bl_call (by repeat (first | exact Below.refl _ _ | assumption | (refine bl_alloc ?_ (Nat.le_refl _) _) | (refine bl_set ?_ (by simp <;> omega) _))) hb1; have hz1 : w.heap.size + 2 ≤ w1.heap.size := (by have hq := hb1.size; have hr := hw1.size; (try simp at hq); omega); have hza : w.heap.size < w1.heap.size := (by omega); have hzb : w.heap.size + 1 < w1.heap.size := (by omega); have hz4 := hb1.size; (try simp at hz4); (try have hz5 := Nat.lt_of_succ_le hz4); obtain ⟨wV, rfl⟩ : ∃ wV : World, wV = w1 := ⟨_, rfl⟩))
  have n1 : ¬ w.heap.size = wV.heap.size + 1 := by omega
  have n2 : w.heap.size < wV.heap.size + 1 + 1 := by omega
  have n3 : w.heap.size < wV.heap.size + 1 := by omega
  have n4 : ¬ w.heap.size = wV.heap.size := by omega
  have n5 : ¬ w.heap.size + 1 = wV.heap.size := by omega
  have n6 : ¬ w.heap.size + 1 = wV.heap.size + 1 := by omega
  refine wp_region_chain_made 23 [4, 8, 10, 14, 16, 21] (wV.heap.size + 1) fwO (bI true) _ _ (afO 0 0 0 0 0 0 0 0 0 0 0 0) (afO (cnd (g1 m) (q1 m).1) (cnd (g1 m) (q1 m).2) (cnd (g2 m) (q2 m).1) (cnd (g2 m) (q2 m).2) (cnd (g3 m) (q3 m).1) (cnd (g3 m) (q3 m).2) (cnd (g4 m) (q4 m).1) (cnd (g4 m) (q4 m).2) 0 0 0 0) (by kernel_rfl) (by kernel_rfl) (by kernel_rfl) rfl rfl (fun _ _ => by kernel_rfl) (by simp) ?_ ?_
  · have h := heap_alloc_new (wV.alloc (.cells #[.int .i64 (detF m).1, .int .i64 (detF m).2] 23)) (fwO (bI true))
    rw [show (wV.alloc (.cells #[.int .i64 (detF m).1, .int .i64 (detF m).2] 23)).heap.size = wV.heap.size + 1 by simp] at h
    exact h
  intro hW
  simp only [List.take_succ_cons, List.take_zero, List.drop_succ_cons, List.drop_zero]
  iterate 4 (refine wpCh_step rfl (fun K hK => ?_); go_simp; refine hK _ _ ?_; clear hK K)
  (refine wpCh_call rfl rfl (fun K hK => ?_); go_simp; apply Exists.intro; apply Exists.intro; apply And.intro)
  · intro p; go_at_call 31; with_reducible exact HQ1 _ _ (Nat.lt_of_lt_of_le hW (wk_size _ _ _ _)) (wk_at hW)
  apply hK; clear hK K
  iterate 3 (refine wpCh_step rfl (fun K hK => ?_); go_simp; refine hK _ _ ?_; clear hK K)
  (refine wpCh_step rfl (fun K hK => ?_); go_simp; apply Exists.intro; apply And.intro)
  · intro s p; go_at_call 33; with_reducible exact keeps_of (HN1 _)
  apply hK; clear hK K
  iterate 1 (refine wpCh_step rfl (fun K hK => ?_); go_simp; refine hK _ _ ?_; clear hK K)
  (refine wpCh_call rfl rfl (fun K hK => ?_); go_simp; apply Exists.intro; apply Exists.intro; apply And.intro)
  · intro p; go_at_call 31; with_reducible exact HQ2 _ _ (Nat.lt_of_lt_of_le hW (wk_size _ _ _ _)) (wk_at hW)
  apply hK; clear hK K
  iterate 3 (refine wpCh_step rfl (fun K hK => ?_); go_simp; refine hK _ _ ?_; clear hK K)
  (refine wpCh_step rfl (fun K hK => ?_); go_simp; apply Exists.intro; apply And.intro)
  · intro s p; go_at_call 33; with_reducible exact keeps_of (HN2 _)
  apply hK; clear hK K
  iterate 1 (refine wpCh_step rfl (fun K hK => ?_); go_simp; refine hK _ _ ?_; clear hK K)
  (refine wpCh_call rfl rfl (fun K hK => ?_); go_simp; apply Exists.intro; apply Exists.intro; apply And.intro)
  · intro p; go_at_call 31; with_reducible exact HQ3 _ _ (Nat.lt_of_lt_of_le hW (wk_size _ _ _ _)) (wk_at hW)
  apply hK; clear hK K
  iterate 4 (refine wpCh_step rfl (fun K hK => ?_); go_simp; refine hK _ _ ?_; clear hK K)
  (refine wpCh_call rfl rfl (fun K hK => ?_); go_simp; apply Exists.intro; apply Exists.intro; apply And.intro)
  · intro p; go_at_call 31; with_reducible exact HQ4 _ _ (Nat.lt_of_lt_of_le hW (wk_size _ _ _ _)) (wk_at hW)
  apply hK; clear hK K
  iterate 1 (refine wpCh_step rfl (fun K hK => ?_); go_simp; refine hK _ _ ?_; clear hK K)
  refine wpCh_nil ?_
  refine ⟨storeOK_row rfl (fun _ => rfl) (fun _ => rfl) (show _ = some 12 from by kernel_rfl) rfl (by simp [Value.oneCell']), ?_⟩
  intro g wF hg hl hL hx
  have hk := cell_blk hx
  have hf := frozen_blk hx
  clear hx
  obtain ⟨hcF, hfF⟩ := lcell hL
  have hsz := hL.1.size
  simp at hg hsz
  have hwF : Below w.heap.size w wF := below_leaves (by repeat (first | (with_reducible refine bl_set ?_ (by simp <;> omega) _) | (with_reducible refine bl_alloc ?_ (Nat.le_refl _) _) | (with_reducible refine Below.drew ?_) | (with_reducible assumption) | (with_reducible exact Below.refl _ _))) hL (by omega)
  have hS := hL.2
  clear hL hW
  have m1 : wV.heap.size + 1 < wF.heap.size := by omega
  have m2 : ¬ g = wV.heap.size + 1 := by omega
  have m3 : w.heap.size < wF.heap.size := by omega
  have m4 : w.heap.size + 1 < wF.heap.size := by omega
  have m5 : ¬ g = w.heap.size := by omega
  have m6 : ¬ g = w.heap.size + 1 := by omega
  have HQ := q_ok h2 hd h4
  go_wp2_with fail
  (with_reducible refine (hdot1 m HQ v4 v5 (wV.heap.size + 1) wF m1 hS).mono ?_)
  rintro e wG ⟨rfl, hLG⟩
  obtain ⟨hcG, hfG⟩ := lcell hLG
  have hszG := hLG.1.size
  have hkG : ∀ i, wG.cell? ⟨g, i, none⟩ = _ := fun i => (hcG g i hl m2).trans (hk i)
  have x8 : wG.cell? ⟨g, 8, none⟩ = some (.int .i64 0) := (hkG 8).trans rfl
  have x9 : wG.cell? ⟨g, 9, none⟩ = some (.int .i64 0) := (hkG 9).trans rfl
  have hfGg : ∀ i, wG.frozen? ⟨g, i, none⟩ = false := fun i => (hfG g i hl m2).trans (hf i)
  have hwG : Below w.heap.size w wG := below_leaves hwF hLG (by omega)
  have hSG := hLG.2
  have r1 : g < wG.heap.size := by omega
  have r2 : w.heap.size < wG.heap.size := by omega
  have r3 : w.heap.size + 1 < wG.heap.size := by omega
  have hb5 := nbd (b := g5 m) (p := dotF (q1 m) m.dx (q2 m) m.dy) (fun k => (dotF_v (HQ.ok1 (gs4 (gs5 k)).1) v4 (HQ.ok2 (gs4 (gs5 k)).2.1) v5 (g_last k)).1)
  have HN5 := negFrac_w _ (cnd (g5 m) (dotF (q1 m) m.dx (q2 m) m.dy).2) hb5.1 hb5.2
  clear hLG hS
  go_wp2_with (first | (go_at_call 33; (with_reducible refine (HN5 _).mono ?_); rintro e w1 ⟨rfl, hb1⟩; obtain ⟨hc1, hf1⟩ := bcell hb1; have hw1 : Below w.heap.size w w1 := bl_call (by repeat (first | exact Below.refl _ _ | assumption | (refine bl_alloc ?_ (Nat.le_refl _) _) | (refine bl_set ?_ (by simp <;> omega) _))) hb1; have hz1 : w.heap.size + 2 ≤ w1.heap.size := (by have hq := hb1.size; have hr := hw1.size; (try simp at hq); omega); have hza : w.heap.size < w1.heap.size := (by omega); have hzb : w.heap.size + 1 < w1.heap.size := (by omega); have hz4 := hb1.size; (try simp at hz4); (try have hz5 := Nat.lt_of_succ_le hz4); (try have hzxwG : wG.heap.size < w1.heap.size := (by omega)); (try have hzxwF : wF.heap.size < w1.heap.size := (by omega)); obtain ⟨wH, rfl⟩ : ∃ wH : World, wH = w1 := ⟨_, rfl⟩))
  have hSH : wH.heap[wV.heap.size + 1]? = some (fwO (bI (g5 m))) := (hb1.block _ (by omega)).trans hSG
  have m7 : ¬ wV.heap.size + 1 = g := by omega
  have HN6 := hide (hdot2 m HQ v4 v5 (wV.heap.size + 1))
  have hS2 := hide (show ∀ a b, ((wH.setCell ⟨g, 8, none⟩ a).setCell ⟨g, 9, none⟩ b).heap[wV.heap.size + 1]? = some (fwO (bI (g5 m))) from fun a b => (Below.heap_setCell _ _ _ _ m7).trans ((Below.heap_setCell _ _ _ _ m7).trans hSH))
  clear hSG hSH
  go_wp2_with fail
  (with_reducible refine (HN6.out _ (by simp; omega) (hS2.out _ _)).mono ?_)
  rintro e wI ⟨rfl, hLI⟩
  obtain ⟨hcI, hfI⟩ := lcell hLI
  have hszI := hLI.1.size
  simp at hszI
  have hwI : Below w.heap.size w wI := below_leaves (by repeat (first | (with_reducible refine bl_set ?_ (by simp <;> omega) _) | (with_reducible refine bl_alloc ?_ (Nat.le_refl _) _) | (with_reducible refine Below.drew ?_) | (with_reducible assumption) | (with_reducible exact Below.refl _ _))) hLI (by omega)
  have kS : wI.cell? ⟨wV.heap.size + 1, 0, none⟩ = some (.int .i64 (bI (g6 m))) := (cell_of_row wI _ 0 _ _ _ hLI.2).trans rfl
  have r4 : g < wI.heap.size := by omega
  have r5 : w.heap.size < wI.heap.size := by omega
  have r6 : w.heap.size + 1 < wI.heap.size := by omega
  have r7 : wV.heap.size + 1 < wI.heap.size := by omega
  have r8 : g < wH.heap.size := by omega
  have r9 : w.heap.size + 1 < wH.heap.size := by omega
  have hb6 := nbd (b := g6 m) (p := dotF (q3 m) m.dx (q4 m) m.dy) (fun k => (dotF_v (HQ.ok3 (gs4 (gs5 (and_t1 k))).2.2) v4 (HQ.ok4 (gs5 (and_t1 k))) v5 (g_last k)).1)
  have HN7 := negFrac_w _ (cnd (g6 m) (dotF (q3 m) m.dx (q4 m) m.dy).2) hb6.1 hb6.2
  clear hLI
  cases h6 : g6 m
  · have HA := hide (show invA m = zeroA by unfold invA; rw [HO.out, h6]; rfl)
    have HC := hide (show invC m = 2 by unfold invC; rw [h2, h3, if_pos rfl, if_pos rfl, if_neg h4, h6]; rfl)
    simp only [h6, bI_f, cnd_f] at kS HN7
    simp only [cnd_f]
    go_wp2_with (first | (go_at_call 33; (with_reducible refine (HN7 _).mono ?_); rintro e w1 ⟨rfl, hb1⟩; obtain ⟨hc1, hf1⟩ := bcell hb1; have hw1 : Below w.heap.size w w1 := bl_call (by repeat (first | exact Below.refl _ _ | assumption | (refine bl_alloc ?_ (Nat.le_refl _) _) | (refine bl_set ?_ (by simp <;> omega) _))) hb1; have hz1 : w.heap.size + 2 ≤ w1.heap.size := (by have hq := hb1.size; have hr := hw1.size; (try simp at hq); omega); have hza : w.heap.size < w1.heap.size := (by omega); have hzb : w.heap.size + 1 < w1.heap.size := (by omega); have hz4 := hb1.size; (try simp at hz4); (try have hz5 := Nat.lt_of_succ_le hz4); (try have hzxwI : wI.heap.size < w1.heap.size := (by omega)); (try have hzxwG : wG.heap.size < w1.heap.size := (by omega)); (try have hzxwF : wF.heap.size < w1.heap.size := (by omega)); obtain ⟨wJ, rfl⟩ : ∃ wJ : World, wJ = w1 := ⟨_, rfl⟩))
    go_region
    all_goals (try go_wp2)
    all_goals (refine bodyPost_ret (v := .tuple #[afV (invA m), .int .i64 (invC m)]) ?_ rfl ⟨rfl, (by repeat (first | (with_reducible refine bl_set ?_ (by simp <;> omega) _) | (with_reducible refine bl_alloc ?_ (Nat.le_refl _) _) | (with_reducible refine Below.drew ?_) | (with_reducible assumption) | (with_reducible exact Below.refl _ _)))⟩; rw [HA.out, HC.out]; simp (maxDischargeDepth := 9) [results, Tryd.results10, go_sem, afV, affV, zeroA, *])
  · have HC := hide (show invC m = 0 by unfold invC; rw [h2, h3, if_pos rfl, if_pos rfl, if_neg h4, h6]; rfl)
    have h5 := and_t1 h6
    obtain ⟨e1, e2, e3⟩ := gs4 (gs5 h5)
    have e4 := gs5 h5
    have HA := hide (show invA m = ⟨q1 m, q2 m, q3 m, q4 m, negF (dotF (q1 m) m.dx (q2 m) m.dy), negF (dotF (q3 m) m.dx (q4 m) m.dy)⟩ by unfold invA; rw [HO.out, h6]; exact invF_q m)
    rw [h6] at kS
    simp only [h6, h5, e1, e2, e3, e4, cnd_t, bI_t] at *
    go_wp2_with (first | (go_at_call 33; (with_reducible refine (HN7 _).mono ?_); rintro e w1 ⟨rfl, hb1⟩; obtain ⟨hc1, hf1⟩ := bcell hb1; have hw1 : Below w.heap.size w w1 := bl_call (by repeat (first | exact Below.refl _ _ | assumption | (refine bl_alloc ?_ (Nat.le_refl _) _) | (refine bl_set ?_ (by simp <;> omega) _))) hb1; have hz1 : w.heap.size + 2 ≤ w1.heap.size := (by have hq := hb1.size; have hr := hw1.size; (try simp at hq); omega); have hza : w.heap.size < w1.heap.size := (by omega); have hzb : w.heap.size + 1 < w1.heap.size := (by omega); have hz4 := hb1.size; (try simp at hz4); (try have hz5 := Nat.lt_of_succ_le hz4); (try have hzxwI : wI.heap.size < w1.heap.size := (by omega)); (try have hzxwG : wG.heap.size < w1.heap.size := (by omega)); (try have hzxwF : wF.heap.size < w1.heap.size := (by omega)); obtain ⟨wJ, rfl⟩ : ∃ wJ : World, wJ = w1 := ⟨_, rfl⟩))
    refine bodyPost_ret (v := .tuple #[afV (invA m), .int .i64 (invC m)]) ?_ rfl ⟨rfl, (by repeat (first | (with_reducible refine bl_set ?_ (by simp <;> omega) _) | (with_reducible refine bl_alloc ?_ (Nat.le_refl _) _) | (with_reducible refine Below.drew ?_) | (with_reducible assumption) | (with_reducible exact Below.refl _ _)))⟩
    rw [HA.out, HC.out]; simp (maxDischargeDepth := 9) [results, Tryd.results10, go_sem, afV, affV, negF, *]
end Go.Proofs.YtickgkfgmbaalaaDoor
