/-
  CONTRACTS of the determinant of a map (impl.DeterminantOf, spec.l04Det, spec.DeterminantOf), and the walk of the law FnExactDeterminantOf. Conditions: integers of 64 bits; for l04Det the map is valid.
-/
import Derived.Test.YtickgkfgmbaalaaDoorMapN
namespace Go.Proofs.YtickgkfgmbaalaaDoor
open Go.RowKit Go.Sort
set_option linter.unusedVariables false
attribute [local go_sem] cell_grow frozen_grow
attribute [local go_sem] Oper.quietAt Oper.quietUpon
theorem below_leaves {bw : Nat} {o : Obj} {w W wF : World} (h : Below w.heap.size w W) (hL : Leaves bw o W wF) (hlt : w.heap.size ≤ bw) : Below w.heap.size w wF :=
  ⟨hL.1.os.trans h.os, hL.1.tape.trans h.tape, hL.1.output.trans h.output, Nat.le_trans h.size hL.1.size, fun k hk => (hL.1.block k (Nat.lt_of_lt_of_le hk h.size) (by intro e; injection e with e; omega)).trans (h.block k hk)⟩
/-- what the determinant yields -/
def detV (m : Af) : F2 := if okAf m then (cnd (detG m) (detF m).1, cnd (detG m) (detF m).2) else (0, 0)
def detC (m : Af) : Int := if okAf m then bI (detG m) else 1
def fr2 (a b : Int) : Obj := .cells #[.int .i64 a, .int .i64 b] 23
theorem hdot (m : Af) (h1 : okAf m = true) (bw : Nat) (w : World) (hlt : bw < w.heap.size) (hst : w.heap[bw]? = some (fwO (bI true))) :
    Calls Tryd.prog 34 #[.pointer (some ⟨bw, 0, none⟩), .agg #[.int .i64 m.xx.1, .int .i64 m.xx.2], .agg #[.int .i64 m.yy.1, .int .i64 m.yy.2], .agg #[.int .i64 (-m.xy.1), .int .i64 m.xy.2], .agg #[.int .i64 m.yx.1, .int .i64 m.yx.2]] w
      fun e w' => e = .returned (.agg #[.int .i64 (cnd (detG m) (detF m).1), .int .i64 (cnd (detG m) (detF m).2)]) ∧ Leaves bw (fwO (bI (detG m))) w w' := by
  obtain ⟨v0, v1, v2, v3, v4, v5⟩ := okAf_t h1
  have h := dot_any bw true m.xx m.yy (negF m.xy) m.yx v0 v3 (okF_neg v1) v2 w hlt hst
  rw [Bool.true_and] at h
  exact h
attribute [local go_sem] wk_cell wk_frozen chAt chUpon
set_option maxRecDepth 100000 in
set_option maxHeartbeats 8000000 in
theorem det_i (m : Af) (hin : AfIn m) (w : World) : Calls Tryd.prog 18 #[afV m] w fun e w' => e = .returned (.tuple #[.agg #[.int .i64 (detV m).1, .int .i64 (detV m).2], .int .i64 (detC m)]) ∧ Below w.heap.size w w' := by
  have HVA := validAffine_i m hin
  simp only [afV, affV] at HVA ⊢
  cases h1 : okAf m
  · have HV := hide (show detV m = (0, 0) by unfold detV; rw [h1]; rfl)
    have HC := hide (show detC m = 1 by unfold detC; rw [h1]; rfl)
    go_enter Tryd.func18, Tryd.ntmps18
    go_wp2_with (first | (go_at_call 35; (with_reducible refine (HVA _).mono ?_); rintro e w1 ⟨rfl, hb1⟩; obtain ⟨hc1, hf1⟩ := bcell hb1; have hw1 : Below w.heap.size w w1 := bl_call (by repeat (first | exact Below.refl _ _ | assumption | (refine bl_alloc ?_ (Nat.le_refl _) _) | (refine bl_set ?_ (by simp <;> omega) _))) hb1; have hz1 : w.heap.size + 2 ≤ w1.heap.size := (by have hq := hb1.size; have hr := hw1.size; (try simp at hq); omega); have hza : w.heap.size < w1.heap.size := (by omega); have hzb : w.heap.size + 1 < w1.heap.size := (by omega); have hz4 := hb1.size; (try simp at hz4); (try have hz5 := Nat.lt_of_succ_le hz4)))
    refine bodyPost_ret (v := .tuple #[.agg #[.int .i64 (detV m).1, .int .i64 (detV m).2], .int .i64 (detC m)]) ?_ rfl ⟨rfl, (by repeat (first | (with_reducible refine bl_set ?_ (by simp <;> omega) _) | (with_reducible refine bl_alloc ?_ (Nat.le_refl _) _) | (with_reducible refine Below.drew ?_) | (with_reducible assumption) | (with_reducible exact Below.refl _ _)))⟩
    rw [HV.out, HC.out]; simp (maxDischargeDepth := 9) [results, Tryd.results18, go_sem, *]
  · obtain ⟨_, v1, _⟩ := okAf_t h1
    have HN := negFrac_any m.xy v1
    have HD := hdot m h1
    have HV := hide (show detV m = (cnd (detG m) (detF m).1, cnd (detG m) (detF m).2) by unfold detV; rw [h1]; rfl)
    have HC := hide (show detC m = bI (detG m) by unfold detC; rw [h1]; rfl)
    go_enter Tryd.func18, Tryd.ntmps18
    go_wp2_with (first | (go_at_call 35; (with_reducible refine (HVA _).mono ?_); rintro e w1 ⟨rfl, hb1⟩; obtain ⟨hc1, hf1⟩ := bcell hb1; have hw1 : Below w.heap.size w w1 := bl_call (by repeat (first | exact Below.refl _ _ | assumption | (refine bl_alloc ?_ (Nat.le_refl _) _) | (refine bl_set ?_ (by simp <;> omega) _))) hb1; have hz1 : w.heap.size + 2 ≤ w1.heap.size := (by have hq := hb1.size; have hr := hw1.size; (try simp at hq); omega); have hza : w.heap.size < w1.heap.size := (by omega); have hzb : w.heap.size + 1 < w1.heap.size := (by omega); have hz4 := hb1.size; (try simp at hz4); (try have hz5 := Nat.lt_of_succ_le hz4); obtain ⟨wV, rfl⟩ : ∃ wV : World, wV = w1 := ⟨_, rfl⟩))
    have n1 : ¬ w.heap.size = wV.heap.size := by omega
    have n2 : ¬ w.heap.size + 1 = wV.heap.size := by omega
    refine wp_region_chain_made 11 [10] wV.heap.size fwO (bI true) _ _ (fr2 0 0) (fr2 (cnd (detG m) (detF m).1) (cnd (detG m) (detF m).2)) (by kernel_rfl) (by kernel_rfl) (by kernel_rfl) rfl rfl (fun _ _ => by kernel_rfl) (by simp) (heap_alloc_new _ _) ?_
    intro hW
    simp only [List.take_succ_cons, List.take_zero, List.drop_succ_cons, List.drop_zero]
    iterate 7 (refine wpCh_step rfl (fun K hK => ?_); go_simp; refine hK _ _ ?_; clear hK K)
    refine wpCh_step rfl (fun K hK => ?_); go_simp; apply Exists.intro; apply And.intro
    · intro s p; go_at_call 33; with_reducible exact keeps_of (HN _)
    apply hK; clear hK K
    iterate 2 (refine wpCh_step rfl (fun K hK => ?_); go_simp; refine hK _ _ ?_; clear hK K)
    refine wpCh_call rfl rfl (fun K hK => ?_); go_simp; apply Exists.intro; apply Exists.intro; apply And.intro
    · intro p; go_at_call 34; with_reducible exact HD _ _ (Nat.lt_of_lt_of_le hW (wk_size _ _ _ _)) (wk_at hW)
    apply hK; clear hK K
    refine wpCh_nil ?_
    refine ⟨storeOK_row rfl (fun _ => rfl) (fun _ => rfl) (show _ = some 2 from by kernel_rfl) rfl (by simp [Value.oneCell']), ?_⟩
    intro g wF hg hl hL hx
    have hk := cell_blk hx
    have hf := frozen_blk hx
    clear hx
    obtain ⟨hcF, hfF⟩ := lcell hL
    have hsz := hL.1.size
    simp at hg hsz
    have hwF : Below w.heap.size w wF := below_leaves (by repeat (first | (with_reducible refine bl_set ?_ (by simp <;> omega) _) | (with_reducible refine bl_alloc ?_ (Nat.le_refl _) _) | (with_reducible refine Below.drew ?_) | (with_reducible assumption) | (with_reducible exact Below.refl _ _))) hL (by omega)
    have kS : wF.cell? ⟨wV.heap.size, 0, none⟩ = some (.int .i64 (bI (detG m))) := (cell_of_row wF _ 0 _ _ _ hL.2).trans rfl
    have m1 : w.heap.size + 1 < wF.heap.size := by omega
    have m2 : ¬ w.heap.size + 1 = g := by omega
    have m3 : ¬ g = w.heap.size + 1 := by omega
    have m4 : w.heap.size + 1 < wV.heap.size := by omega
    have m5 : wV.heap.size < wF.heap.size := by omega
    have m6 : ¬ g = wV.heap.size := by omega
    have m7 : ¬ w.heap.size + 1 = wV.heap.size := by omega
    have m8 : ¬ wV.heap.size = w.heap.size + 1 := by omega
    clear hL hW
    cases h2 : detG m
    · simp only [h2, bI_f, cnd_f] at HV HC hk kS
      go_wp2
      go_region
      all_goals (try go_wp2)
      all_goals (refine bodyPost_ret (v := .tuple #[.agg #[.int .i64 (detV m).1, .int .i64 (detV m).2], .int .i64 (detC m)]) ?_ rfl ⟨rfl, (by repeat (first | (with_reducible refine bl_set ?_ (by simp <;> omega) _) | (with_reducible refine bl_alloc ?_ (Nat.le_refl _) _) | (with_reducible refine Below.drew ?_) | (with_reducible assumption) | (with_reducible exact Below.refl _ _)))⟩; rw [HV.out, HC.out]; simp (maxDischargeDepth := 9) [results, Tryd.results18, go_sem, *])
    · simp only [h2, bI_t, cnd_t] at HV HC hk kS
      go_wp2
      refine bodyPost_ret (v := .tuple #[.agg #[.int .i64 (detV m).1, .int .i64 (detV m).2], .int .i64 (detC m)]) ?_ rfl ⟨rfl, (by repeat (first | (with_reducible refine bl_set ?_ (by simp <;> omega) _) | (with_reducible refine bl_alloc ?_ (Nat.le_refl _) _) | (with_reducible refine Below.drew ?_) | (with_reducible assumption) | (with_reducible exact Below.refl _ _)))⟩
      rw [HV.out, HC.out]; simp (maxDischargeDepth := 9) [results, Tryd.results18, go_sem, cnd_t, *]
end Go.Proofs.YtickgkfgmbaalaaDoor
