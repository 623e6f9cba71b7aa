/-
  CONTRACTS of the working with fractions, as InvertMap and ThenMap use it: dividing; dot where the working may have died (then nothing is asked of the fractions but 64 bits); the negative of any fraction. Conditions: integers of 64 bits, valid fractions while the working lives.
-/
import Derived.Test.YtickgkfgmbaalaaDoorMapA
namespace Go.Proofs.YtickgkfgmbaalaaDoor
open Go.RowKit Go.Sort
set_option linter.unusedVariables false
attribute [local go_sem] cell_grow frozen_grow
attribute [local go_sem] Oper.quietAt Oper.quietUpon
theorem div_cnd {p q : F2} (hp : okF p = true) (hq : okF q = true) (h0 : q.1 ≠ 0) : divN p.1 p.2 q.1 q.2 = cnd (decide (divK p q = 0)) (divF p q).1 ∧ divD p.1 p.2 q.1 q.2 = cnd (decide (divK p q = 0)) (divF p q).2 ∧ divC p.1 p.2 q.1 q.2 = bI (decide (divK p q = 0)) := by
  have e0 : (q.1 == 0) = false := by simpa using h0
  have eo : (okFr p.1 p.2 && okFr q.1 q.2) = true := ok2 hp hq
  have eK : divK p q = mkC (p.1 * q.2) (p.2 * q.1) := by
    show divC p.1 p.2 q.1 q.2 = _
    unfold divC; rw [eo, e0]; rfl
  have eN : divN p.1 p.2 q.1 q.2 = mkN (p.1 * q.2) (p.2 * q.1) := by unfold divN; rw [eo, e0]; rfl
  have eD : divD p.1 p.2 q.1 q.2 = mkD (p.1 * q.2) (p.2 * q.1) := by unfold divD; rw [eo, e0]; rfl
  have hD : p.2 * q.1 ≠ 0 := Int.mul_ne_zero (okFr_d hp) h0
  have f1 : (divF p q).1 = mkN (p.1 * q.2) (p.2 * q.1) := eN
  have f2 : (divF p q).2 = mkD (p.1 * q.2) (p.2 * q.1) := eD
  have eC : divC p.1 p.2 q.1 q.2 = mkC (p.1 * q.2) (p.2 * q.1) := eK
  rw [eN, eD, eC, f1, f2, eK]
  rcases mkC_02 (N := p.1 * q.2) hD with h | h
  · rw [h]; exact ⟨rfl, rfl, rfl⟩
  · obtain ⟨x1, x2⟩ := mk_bad (num := p.1 * q.2) (den := p.2 * q.1) (by rw [h]; decide)
    rw [h, x1, x2]; exact ⟨rfl, rfl, rfl⟩
theorem two_div (bw : Nat) (al : Bool) (p q : F2) (hp : I64 p.1) (hq : I64 q.1) (hv : al = true → okF p = true ∧ okF q = true ∧ q.1 ≠ 0) (w : World) (hlt : bw < w.heap.size) (hst : w.heap[bw]? = some (fwO (bI al))) :
    Calls Tryd.prog 31 #[.pointer (some ⟨bw, 0, none⟩), .func (.func 32) #[] #[], .agg #[.int .i64 p.1, .int .i64 p.2], .agg #[.int .i64 q.1, .int .i64 q.2]] w
      fun e w' => e = .returned (.agg #[.int .i64 (cnd (al && decide (divK p q = 0)) (divF p q).1), .int .i64 (cnd (al && decide (divK p q = 0)) (divF p q).2)]) ∧ Leaves bw (fwO (bI (al && decide (divK p q = 0)))) w w' := by
  cases al
  · exact two_divs bw 2 (by decide) p.1 p.2 q.1 q.2 w hlt hst
  · obtain ⟨v1, v2, v3⟩ := hv rfl
    have h := two_div0 bw p.1 p.2 q.1 q.2 hp hq w hlt hst
    obtain ⟨f1, f2, f3⟩ := div_cnd v1 v2 v3
    rw [f1, f2, f3] at h
    exact h
theorem two_add4 (bw : Nat) (al : Bool) (k1 k2 : Int) (x y : F2) (hp : al = true → k1 = 0 → okF x = true) (hq : al = true → k2 = 0 → okF y = true) (w : World) (hlt : bw < w.heap.size) (hst : w.heap[bw]? = some (fwB ((al && decide (k1 = 0)) && decide (k2 = 0)))) :
    Calls Tryd.prog 31 #[.pointer (some ⟨bw, 0, none⟩), .func (.func 36) #[] #[], .agg #[.int .i64 (cnd (al && decide (k1 = 0)) x.1), .int .i64 (cnd (al && decide (k1 = 0)) x.2)], .agg #[.int .i64 (cnd ((al && decide (k1 = 0)) && decide (k2 = 0)) y.1), .int .i64 (cnd ((al && decide (k1 = 0)) && decide (k2 = 0)) y.2)]] w
      fun e w' => e = .returned (.agg #[.int .i64 (cnd (al && (decide (k1 = 0) && decide (k2 = 0) && decide (addK x y = 0))) (addF x y).1), .int .i64 (cnd (al && (decide (k1 = 0) && decide (k2 = 0) && decide (addK x y = 0))) (addF x y).2)]) ∧ Leaves bw (fwB (al && (decide (k1 = 0) && decide (k2 = 0) && decide (addK x y = 0)))) w w' := by
  cases al
  · exact two_adds bw 2 (by decide) _ _ _ _ w hlt hst
  · exact two_add3 bw true k1 k2 x y (hp rfl) (hq rfl) w hlt hst
theorem and_t1 {a b : Bool} (h : (a && b) = true) : a = true := by simp at h; exact h.1
attribute [local go_sem] wk_cell wk_frozen chAt chUpon
set_option maxRecDepth 100000 in
set_option maxHeartbeats 4000000 in
theorem dot_gen (bw : Nat) (al : Bool) (a b c d : F2) (ia : I64 a.1) (ib : I64 b.1) (ic : I64 c.1) (id : I64 d.1) (hv : al = true → okF a = true ∧ okF b = true ∧ okF c = true ∧ okF d = true) (w : World) (hlt : bw < w.heap.size) (hst : w.heap[bw]? = some (fwB al)) :
    Calls Tryd.prog 34 #[.pointer (some ⟨bw, 0, none⟩), .agg #[.int .i64 a.1, .int .i64 a.2], .agg #[.int .i64 b.1, .int .i64 b.2], .agg #[.int .i64 c.1, .int .i64 c.2], .agg #[.int .i64 d.1, .int .i64 d.2]] w
      fun e w' => e = .returned (.agg #[.int .i64 (cnd (al && dotG a b c d) (dotF a b c d).1), .int .i64 (cnd (al && dotG a b c d) (dotF a b c d).2)]) ∧ Leaves bw (fwB (al && dotG a b c d)) w w' := by
  have n0 : ¬ w.heap.size = bw := by omega
  have n1 : ¬ w.heap.size + 1 = bw := by omega
  have n2 : ¬ w.heap.size + 1 + 1 = bw := by omega
  have n3 : ¬ w.heap.size + 1 + 1 + 1 = bw := by omega
  have n4 : ¬ w.heap.size + 1 + 1 + 1 + 1 = bw := by omega
  have l5 : bw < w.heap.size + 1 + 1 + 1 + 1 + 1 := by omega
  have HST := hide hst
  have HVV := hide hv
  clear hst hv
  go_enter Tryd.func34, Tryd.ntmps34
  go_wp2
  refine wp_region_chain_tail 10 [4, 8, 9] bw fwO (bI al) (by kernel_rfl) (by kernel_rfl) (by kernel_rfl) (by simp; omega) ?_ ?_
  · exact (((((Below.refl _ _).alloc (Nat.le_refl _) _).alloc (by simp) _).alloc (by simp <;> omega) _).alloc (by simp <;> omega) _).alloc (by simp <;> omega) _ |>.block bw hlt |>.trans HST.out
  intro hW
  simp only [List.take_succ_cons, List.take_zero, List.drop_succ_cons, List.drop_zero]
  iterate 4 (refine wpCh_step rfl (fun K hK => ?_); go_simp; refine hK _ _ ?_; clear hK K)
  refine wpCh_call rfl rfl (fun K hK => ?_); go_simp; apply Exists.intro; apply Exists.intro; apply And.intro
  · intro p; go_at_call 31; with_reducible exact two_mul bw al a b ia ib (fun h => ⟨(HVV.out h).1, (HVV.out h).2.1⟩) _ (Nat.lt_of_lt_of_le hW (wk_size _ _ _ _)) (wk_at hW)
  apply hK; clear hK K
  iterate 3 (refine wpCh_step rfl (fun K hK => ?_); go_simp; refine hK _ _ ?_; clear hK K)
  refine wpCh_call rfl rfl (fun K hK => ?_); go_simp; apply Exists.intro; apply Exists.intro; apply And.intro
  · intro p; go_at_call 31; with_reducible exact two_mul bw (al && decide (mulK a b = 0)) c d ic id (fun h => ⟨(HVV.out (and_t1 h)).2.2.1, (HVV.out (and_t1 h)).2.2.2⟩) _ (Nat.lt_of_lt_of_le hW (wk_size _ _ _ _)) (wk_at hW)
  apply hK; clear hK K
  refine wpCh_call rfl rfl (fun K hK => ?_); go_simp; apply Exists.intro; apply Exists.intro; apply And.intro
  · intro p; go_at_call 31; with_reducible exact two_add4 bw al (mulK a b) (mulK c d) (mulF a b) (mulF c d) (fun h k => (mulF_v (HVV.out h).1 (HVV.out h).2.1 k).1) (fun h k => (mulF_v (HVV.out h).2.2.1 (HVV.out h).2.2.2 k).1) _ (Nat.lt_of_lt_of_le hW (wk_size _ _ _ _)) (wk_at hW)
  apply hK; clear hK K
  refine wpCh_nil ?_
  intro wF hL
  have hsz := hL.1.size
  simp at hsz
  obtain ⟨hcF, hfF⟩ := lcell hL
  have m1 : w.heap.size + 1 + 1 + 1 + 1 < wF.heap.size := by omega
  have m2 : w.heap.size < wF.heap.size := by omega
  go_wp2
  refine bodyPost_ret (v := .agg #[.int .i64 (cnd (al && dotG a b c d) (dotF a b c d).1), .int .i64 (cnd (al && dotG a b c d) (dotF a b c d).2)]) ?_ rfl ⟨rfl, ?_⟩
  · simp (maxDischargeDepth := 9) [results, Tryd.results34, go_sem, dotG, dotF, *]
  · repeat (first | exact (leaves_below (by repeat (first | (with_reducible refine bl_set ?_ (by simp <;> omega) _) | (with_reducible refine bl_alloc ?_ (Nat.le_refl _) _) | (with_reducible refine Below.drew ?_) | (with_reducible assumption) | (with_reducible exact Below.refl _ _))) hlt HST.out).trans hL | (with_reducible refine Leaves.set ?_ hlt (by simp <;> omega) _) | (with_reducible refine Leaves.drew ?_) | (with_reducible refine Leaves.alloc ?_ hlt _))
theorem negFrac_w (a b : Int) (h0 : -9223372036854775808 < a) (h1 : a ≤ 9223372036854775807) (w : World) : Calls Tryd.prog 33 #[.agg #[.int .i64 a, .int .i64 b]] w fun e w' => e = .returned (.agg #[.int .i64 (-a), .int .i64 b]) ∧ Below w.heap.size w w' := by
  have hn := neg_wrap h0 h1
  go_enter Tryd.func33, Tryd.ntmps33
  go_wp2
  exact bodyPost_ret (v := .agg #[.int .i64 (-a), .int .i64 b]) (by simp [results, Tryd.results33, go_sem, *]) rfl ⟨rfl, (by repeat (first | (with_reducible refine bl_set ?_ (by simp <;> omega) _) | (with_reducible refine bl_alloc ?_ (Nat.le_refl _) _) | (with_reducible refine Below.drew ?_) | (with_reducible assumption) | (with_reducible exact Below.refl _ _)))⟩
end Go.Proofs.YtickgkfgmbaalaaDoor
