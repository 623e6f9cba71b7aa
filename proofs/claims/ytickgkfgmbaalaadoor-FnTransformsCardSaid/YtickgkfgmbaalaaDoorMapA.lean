/-
  CONTRACTS of impl.ApplyMap. Conditions: integers of 64 bits.
-/
import Derived.Test.YtickgkfgmbaalaaDoorMapDet
namespace Go.Proofs.YtickgkfgmbaalaaDoor
open Go.RowKit Go.Sort
set_option linter.unusedVariables false
attribute [local go_sem] cell_grow frozen_grow
attribute [local go_sem] Oper.quietAt Oper.quietUpon
def rowG (a b c : F2) (x y : Int) : Bool := movG a (x, 1) b (y, 1) c
def rowF (a b c : F2) (x y : Int) : F2 := movF a (x, 1) b (y, 1) c
def rowR (a b c : F2) (x y : Int) : Int := cnd (rowG a b c x y) (roundR (rowF a b c x y).1 (rowF a b c x y).2)
def appX (m : Af) (x y : Int) : Int := rowR m.xx m.xy m.dx x y
def appY (m : Af) (x y : Int) : Int := rowR m.yx m.yy m.dy x y
def appG (m : Af) (x y : Int) : Bool := rowG m.xx m.xy m.dx x y && rowG m.yx m.yy m.dy x y && okPt (appX m x y) (appY m x y)
def appO (m : Af) (x y : Int) : Bool := okAf m && okPt x y
def appV (m : Af) (x y : Int) : F2 := if appO m x y && appG m x y then (appX m x y, appY m x y) else (0, 0)
def appC (m : Af) (x y : Int) : Int := if appO m x y then bI (appG m x y) else 1
theorem okF_int {x : Int} (h0 : -262144 ≤ x) (h1 : x ≤ 262144) : okF (x, 1) = true := okFr_int (by omega) (by omega)
theorem row_v {a b c : F2} {x y : Int} (ha : okF a = true) (hb : okF b = true) (hc : okF c = true) (hp : okPt x y = true) (h : rowG a b c x y = true) : okF (rowF a b c x y) = true := by
  obtain ⟨x0, x1, y0, y1⟩ := okPt_t hp
  exact (movF_v ha (okF_int x0 x1) hb (okF_int y0 y1) hc h).1
theorem rowdot (a b : F2) (x y : Int) (ha : okF a = true) (hb : okF b = true) (hp : okPt x y = true) (al : Bool) (bw : Nat) (w : World) (hlt : bw < w.heap.size) (hst : w.heap[bw]? = some (fwO (bI al))) :
    Calls Tryd.prog 34 #[.pointer (some ⟨bw, 0, none⟩), .agg #[.int .i64 a.1, .int .i64 a.2], .agg #[.int .i64 x, .int .i64 1], .agg #[.int .i64 b.1, .int .i64 b.2], .agg #[.int .i64 y, .int .i64 1]] w
      fun e w' => e = .returned (.agg #[.int .i64 (cnd (al && dotG a (x, 1) b (y, 1)) (dotF a (x, 1) b (y, 1)).1), .int .i64 (cnd (al && dotG a (x, 1) b (y, 1)) (dotF a (x, 1) b (y, 1)).2)]) ∧ Leaves bw (fwO (bI (al && dotG a (x, 1) b (y, 1)))) w w' := by
  obtain ⟨x0, x1, y0, y1⟩ := okPt_t hp
  exact dot_any bw al a (x, 1) b (y, 1) ha (okF_int x0 x1) hb (okF_int y0 y1) w hlt hst
theorem two_mov (a b c d e : F2) (ha : okF a = true) (hb : okF b = true) (hc : okF c = true) (hd : okF d = true) (he : okF e = true) (al : Bool) (bw : Nat) (w : World) (hlt : bw < w.heap.size) (hst : w.heap[bw]? = some (fwO (bI (al && dotG a b c d)))) :
    Calls Tryd.prog 31 #[.pointer (some ⟨bw, 0, none⟩), .func (.func 36) #[] #[], .agg #[.int .i64 (cnd (al && dotG a b c d) (dotF a b c d).1), .int .i64 (cnd (al && dotG a b c d) (dotF a b c d).2)], .agg #[.int .i64 e.1, .int .i64 e.2]] w
      fun E w' => E = .returned (.agg #[.int .i64 (cnd (al && movG a b c d e) (movF a b c d e).1), .int .i64 (cnd (al && movG a b c d e) (movF a b c d e).2)]) ∧ Leaves bw (fwO (bI (al && movG a b c d e))) w w' := by
  unfold movG movF
  cases h1 : dotG a b c d
  · simp only [h1, Bool.and_false, Bool.false_and] at hst ⊢
    exact two_adds bw 2 (by decide) _ _ _ _ w hlt hst
  · have hv := (dotF_v ha hb hc hd h1).1
    simp only [h1, Bool.and_true, Bool.true_and] at hst ⊢
    cases al
    · exact two_adds bw 2 (by decide) _ _ _ _ w hlt hst
    · exact two_add bw true (dotF a b c d) e (okF_I hv) (okF_I he) (fun _ => ⟨hv, he⟩) w hlt hst
theorem rowmov (a b c : F2) (x y : Int) (ha : okF a = true) (hb : okF b = true) (hc : okF c = true) (hp : okPt x y = true) (al : Bool) (bw : Nat) (w : World) (hlt : bw < w.heap.size) (hst : w.heap[bw]? = some (fwO (bI (al && dotG a (x, 1) b (y, 1))))) :
    Calls Tryd.prog 31 #[.pointer (some ⟨bw, 0, none⟩), .func (.func 36) #[] #[], .agg #[.int .i64 (cnd (al && dotG a (x, 1) b (y, 1)) (dotF a (x, 1) b (y, 1)).1), .int .i64 (cnd (al && dotG a (x, 1) b (y, 1)) (dotF a (x, 1) b (y, 1)).2)], .agg #[.int .i64 c.1, .int .i64 c.2]] w
      fun E w' => E = .returned (.agg #[.int .i64 (cnd (al && rowG a b c x y) (rowF a b c x y).1), .int .i64 (cnd (al && rowG a b c x y) (rowF a b c x y).2)]) ∧ Leaves bw (fwO (bI (al && rowG a b c x y))) w w' := by
  obtain ⟨x0, x1, y0, y1⟩ := okPt_t hp
  exact two_mov a (x, 1) b (y, 1) c ha (okF_int x0 x1) hb (okF_int y0 y1) hc al bw w hlt hst
theorem appV_no {m : Af} {x y : Int} (h : (appO m x y && appG m x y) = false) : appV m x y = (0, 0) := by unfold appV; rw [h]; rfl
theorem appV_yes {m : Af} {x y : Int} (h : appO m x y = true) (h' : appG m x y = true) : appV m x y = (appX m x y, appY m x y) := by unfold appV; rw [h, h']; rfl
attribute [local go_sem] wk_cell wk_frozen chAt chUpon
set_option maxRecDepth 100000 in
set_option maxHeartbeats 16000000 in
theorem app_i (m : Af) (hin : AfIn m) (x y : Int) (w : World) : Calls Tryd.prog 17 #[afV m, .agg #[.int .i64 x, .int .i64 y]] w fun e w' => e = .returned (.tuple #[.agg #[.int .i64 (appV m x y).1, .int .i64 (appV m x y).2], .int .i64 (appC m x y)]) ∧ Below w.heap.size w w' := by
  have HVA := validAffine_i m hin
  simp only [afV, affV] at HVA ⊢
  cases h1 : okAf m
  · have HV := hide (appV_no (m := m) (x := x) (y := y) (by unfold appO; rw [h1]; rfl))
    have HC := hide (show appC m x y = 1 by unfold appC appO; rw [h1]; rfl)
    go_enter Tryd.func17, Tryd.ntmps17
    go_wp2_with (first | (go_at_call 35; (with_reducible refine (HVA _).mono ?_); rintro e w1 ⟨rfl, hb1⟩; obtain ⟨hc1, hf1⟩ := bcell hb1; have hw1 : Below w.heap.size w w1 := bl_call (by repeat (first | exact Below.refl _ _ | assumption | (refine bl_alloc ?_ (Nat.le_refl _) _) | (refine bl_set ?_ (by simp <;> omega) _))) hb1; have hz1 : w.heap.size + 3 ≤ w1.heap.size := (by have hq := hb1.size; have hr := hw1.size; (try simp at hq); omega); have hza : w.heap.size < w1.heap.size := (by omega); have hzb : w.heap.size + 1 < w1.heap.size := (by omega); have hzc : w.heap.size + 1 + 1 < w1.heap.size := (by omega); have hz4 := hb1.size; (try simp at hz4); (try have hz5 := Nat.lt_of_succ_le hz4)) | (go_at_call 44; (with_reducible refine (validPt_i _ _ _).mono ?_); rintro e w1 ⟨rfl, hb1⟩; obtain ⟨hc1, hf1⟩ := bcell hb1; have hw1 : Below w.heap.size w w1 := bl_call (by repeat (first | exact Below.refl _ _ | assumption | (refine bl_alloc ?_ (Nat.le_refl _) _) | (refine bl_set ?_ (by simp <;> omega) _))) hb1; have hz1 : w.heap.size + 3 ≤ w1.heap.size := (by have hq := hb1.size; have hr := hw1.size; (try simp at hq); omega); have hza : w.heap.size < w1.heap.size := (by omega); have hzb : w.heap.size + 1 < w1.heap.size := (by omega); have hzc : w.heap.size + 1 + 1 < w1.heap.size := (by omega); have hz4 := hb1.size; (try simp at hz4); (try have hz5 := Nat.lt_of_succ_le hz4)))
    refine bodyPost_ret (v := .tuple #[.agg #[.int .i64 (appV m x y).1, .int .i64 (appV m x y).2], .int .i64 (appC m x y)]) ?_ rfl ⟨rfl, (by repeat (first | (with_reducible refine bl_set ?_ (by simp <;> omega) _) | (with_reducible refine bl_alloc ?_ (Nat.le_refl _) _) | (with_reducible refine Below.drew ?_) | (with_reducible assumption) | (with_reducible exact Below.refl _ _)))⟩
    rw [HV.out, HC.out]; simp (maxDischargeDepth := 9) [results, Tryd.results17, go_sem, *]
  cases h2 : okPt x y
  · have HV := hide (appV_no (m := m) (x := x) (y := y) (by unfold appO; rw [h1, h2]; rfl))
    have HC := hide (show appC m x y = 1 by unfold appC appO; rw [h1, h2]; rfl)
    go_enter Tryd.func17, Tryd.ntmps17
    go_wp2_with (first | (go_at_call 35; (with_reducible refine (HVA _).mono ?_); rintro e w1 ⟨rfl, hb1⟩; obtain ⟨hc1, hf1⟩ := bcell hb1; have hw1 : Below w.heap.size w w1 := bl_call (by repeat (first | exact Below.refl _ _ | assumption | (refine bl_alloc ?_ (Nat.le_refl _) _) | (refine bl_set ?_ (by simp <;> omega) _))) hb1; have hz1 : w.heap.size + 3 ≤ w1.heap.size := (by have hq := hb1.size; have hr := hw1.size; (try simp at hq); omega); have hza : w.heap.size < w1.heap.size := (by omega); have hzb : w.heap.size + 1 < w1.heap.size := (by omega); have hzc : w.heap.size + 1 + 1 < w1.heap.size := (by omega); have hz4 := hb1.size; (try simp at hz4); (try have hz5 := Nat.lt_of_succ_le hz4); obtain ⟨wA, rfl⟩ : ∃ wA : World, wA = w1 := ⟨_, rfl⟩) | (go_at_call 44; (with_reducible refine (validPt_i _ _ _).mono ?_); rintro e w1 ⟨rfl, hb1⟩; obtain ⟨hc1, hf1⟩ := bcell hb1; have hw1 : Below w.heap.size w w1 := bl_call (by repeat (first | exact Below.refl _ _ | assumption | (refine bl_alloc ?_ (Nat.le_refl _) _) | (refine bl_set ?_ (by simp <;> omega) _))) hb1; have hz1 : w.heap.size + 3 ≤ w1.heap.size := (by have hq := hb1.size; have hr := hw1.size; (try simp at hq); omega); have hza : w.heap.size < w1.heap.size := (by omega); have hzb : w.heap.size + 1 < w1.heap.size := (by omega); have hzc : w.heap.size + 1 + 1 < w1.heap.size := (by omega); have hz4 := hb1.size; (try simp at hz4); (try have hz5 := Nat.lt_of_succ_le hz4); (try have hzxwA : wA.heap.size < w1.heap.size := (by omega))))
    refine bodyPost_ret (v := .tuple #[.agg #[.int .i64 (appV m x y).1, .int .i64 (appV m x y).2], .int .i64 (appC m x y)]) ?_ rfl ⟨rfl, (by repeat (first | (with_reducible refine bl_set ?_ (by simp <;> omega) _) | (with_reducible refine bl_alloc ?_ (Nat.le_refl _) _) | (with_reducible refine Below.drew ?_) | (with_reducible assumption) | (with_reducible exact Below.refl _ _)))⟩
    rw [HV.out, HC.out]; simp (maxDischargeDepth := 9) [results, Tryd.results17, go_sem, *]
  obtain ⟨v0, v1, v2, v3, v4, v5⟩ := okAf_t h1
  have HO := hide (show appO m x y = true by unfold appO; rw [h1, h2]; rfl)
  have HD1 := rowdot m.xx m.xy x y v0 v1 h2 true
  have HM1 := rowmov m.xx m.xy m.dx x y v0 v1 v4 h2 true
  have HD2 := rowdot m.yx m.yy x y v2 v3 h2 (rowG m.xx m.xy m.dx x y)
  have HM2 := rowmov m.yx m.yy m.dy x y v2 v3 v5 h2 (rowG m.xx m.xy m.dx x y)
  have HF1 := hide (fun h => row_v v0 v1 v4 h2 (h : rowG m.xx m.xy m.dx x y = true))
  have HF2 := hide (fun h => row_v v2 v3 v5 h2 (h : rowG m.yx m.yy m.dy x y = true))
  simp only [Bool.true_and] at HD1 HM1
  have HXe := hide (show appX m x y = cnd (rowG m.xx m.xy m.dx x y) (roundR (rowF m.xx m.xy m.dx x y).1 (rowF m.xx m.xy m.dx x y).2) from rfl)
  have HYe := hide (show appY m x y = cnd (rowG m.yx m.yy m.dy x y) (roundR (rowF m.yx m.yy m.dy x y).1 (rowF m.yx m.yy m.dy x y).2) from rfl)
  go_enter Tryd.func17, Tryd.ntmps17
  go_wp2_with (first | (go_at_call 35; (with_reducible refine (HVA _).mono ?_); rintro e w1 ⟨rfl, hb1⟩; obtain ⟨hc1, hf1⟩ := bcell hb1; have hw1 : Below w.heap.size w w1 := bl_call (by repeat (first | exact Below.refl _ _ | assumption | (refine bl_alloc ?_ (Nat.le_refl _) _) | (refine bl_set ?_ (by simp <;> omega) _))) hb1; have hz1 : w.heap.size + 3 ≤ w1.heap.size := (by have hq := hb1.size; have hr := hw1.size; (try simp at hq); omega); have hza : w.heap.size < w1.heap.size := (by omega); have hzb : w.heap.size + 1 < w1.heap.size := (by omega); have hzc : w.heap.size + 1 + 1 < w1.heap.size := (by omega); have hz4 := hb1.size; (try simp at hz4); (try have hz5 := Nat.lt_of_succ_le hz4); obtain ⟨wA, rfl⟩ : ∃ wA : World, wA = w1 := ⟨_, rfl⟩) | (go_at_call 44; (with_reducible refine (validPt_i _ _ _).mono ?_); rintro e w1 ⟨rfl, hb1⟩; obtain ⟨hc1, hf1⟩ := bcell hb1; have hw1 : Below w.heap.size w w1 := bl_call (by repeat (first | exact Below.refl _ _ | assumption | (refine bl_alloc ?_ (Nat.le_refl _) _) | (refine bl_set ?_ (by simp <;> omega) _))) hb1; have hz1 : w.heap.size + 3 ≤ w1.heap.size := (by have hq := hb1.size; have hr := hw1.size; (try simp at hq); omega); have hza : w.heap.size < w1.heap.size := (by omega); have hzb : w.heap.size + 1 < w1.heap.size := (by omega); have hzc : w.heap.size + 1 + 1 < w1.heap.size := (by omega); have hz4 := hb1.size; (try simp at hz4); (try have hz5 := Nat.lt_of_succ_le hz4); (try have hzxwA : wA.heap.size < w1.heap.size := (by omega)); obtain ⟨wV, rfl⟩ : ∃ wV : World, wV = w1 := ⟨_, rfl⟩))
  have n1 : ¬ w.heap.size = wV.heap.size := by omega
  have n2 : ¬ w.heap.size + 1 = wV.heap.size := by omega
  have n3 : ¬ w.heap.size + 1 + 1 = wV.heap.size := by omega
  have n4 : w.heap.size < wV.heap.size + 1 := by omega
  have n5 : w.heap.size + 1 < wV.heap.size + 1 := by omega
  have n6 : w.heap.size < wA.heap.size := by omega
  have n7 : w.heap.size + 1 < wA.heap.size := by omega
  refine wp_region_chain_made 16 [12, 15] wV.heap.size fwO (bI true) _ _ (fr2 0 0) (fr2 (cnd (rowG m.xx m.xy m.dx x y) (rowF m.xx m.xy m.dx x y).1) (cnd (rowG m.xx m.xy m.dx x y) (rowF m.xx m.xy m.dx x y).2)) (by kernel_rfl) (by kernel_rfl) (by kernel_rfl) rfl rfl (fun _ _ => by kernel_rfl) (by simp) (heap_alloc_new _ _) ?_
  intro hW
  simp only [List.take_succ_cons, List.take_zero, List.drop_succ_cons, List.drop_zero]
  iterate 6 (refine wpCh_step rfl (fun K hK => ?_); go_simp; refine hK _ _ ?_; clear hK K)
  (refine wpCh_step rfl (fun K hK => ?_); go_simp; apply Exists.intro; apply And.intro)
  · intro s p; go_at_call 41; with_reducible exact keeps_of (whole_any _ _)
  apply hK; clear hK K
  iterate 4 (refine wpCh_step rfl (fun K hK => ?_); go_simp; refine hK _ _ ?_; clear hK K)
  (refine wpCh_step rfl (fun K hK => ?_); go_simp; apply Exists.intro; apply And.intro)
  · intro s p; go_at_call 41; with_reducible exact keeps_of (whole_any _ _)
  apply hK; clear hK K
  (refine wpCh_call rfl rfl (fun K hK => ?_); go_simp; apply Exists.intro; apply Exists.intro; apply And.intro)
  · intro p; go_at_call 34; with_reducible exact HD1 _ _ (Nat.lt_of_lt_of_le hW (wk_size _ _ _ _)) (wk_at hW)
  apply hK; clear hK K
  iterate 2 (refine wpCh_step rfl (fun K hK => ?_); go_simp; refine hK _ _ ?_; clear hK K)
  (refine wpCh_call rfl rfl (fun K hK => ?_); go_simp; apply Exists.intro; apply Exists.intro; apply And.intro)
  · intro p; go_at_call 31; with_reducible exact HM1 _ _ (Nat.lt_of_lt_of_le hW (wk_size _ _ _ _)) (wk_at hW)
  apply hK; clear hK K
  refine wpCh_nil ?_
  refine ⟨storeOK_row rfl (fun _ => rfl) (fun _ => rfl) (show _ = some 2 from by kernel_rfl) rfl (by simp [Value.oneCell']), ?_⟩
  intro g wF hg hl hL hx
  have hk := cell_blk hx
  have hf := frozen_blk hx
  clear hx
  obtain ⟨hcF, hfF⟩ := lcell hL
  have hsz := hL.1.size
  simp at hg hsz
  have hwF : Below w.heap.size w wF := below_leaves (by repeat (first | (with_reducible refine bl_set ?_ (by simp <;> omega) _) | (with_reducible refine bl_alloc ?_ (Nat.le_refl _) _) | (with_reducible refine Below.drew ?_) | (with_reducible assumption) | (with_reducible exact Below.refl _ _))) hL (by omega)
  have hS := hL.2
  clear hL hW
  have m1 : wV.heap.size < wF.heap.size := by omega
  have m2 : ¬ g = wV.heap.size := by omega
  have m3 : w.heap.size < wF.heap.size := by omega
  have m4 : w.heap.size + 1 < wF.heap.size := by omega
  go_wp2
  refine wp_region_chain_made 16 [12, 15] wV.heap.size fwO (bI (rowG m.xx m.xy m.dx x y)) _ _ (fr2 0 0) (fr2 (cnd (rowG m.xx m.xy m.dx x y && rowG m.yx m.yy m.dy x y) (rowF m.yx m.yy m.dy x y).1) (cnd (rowG m.xx m.xy m.dx x y && rowG m.yx m.yy m.dy x y) (rowF m.yx m.yy m.dy x y).2)) (by kernel_rfl) (by kernel_rfl) (by kernel_rfl) rfl rfl (fun _ _ => by kernel_rfl) m1 hS ?_
  intro hW
  simp only [List.take_succ_cons, List.take_zero, List.drop_succ_cons, List.drop_zero]
  iterate 6 (refine wpCh_step rfl (fun K hK => ?_); go_simp; refine hK _ _ ?_; clear hK K)
  (refine wpCh_step rfl (fun K hK => ?_); go_simp; apply Exists.intro; apply And.intro)
  · intro s p; go_at_call 41; with_reducible exact keeps_of (whole_any _ _)
  apply hK; clear hK K
  iterate 4 (refine wpCh_step rfl (fun K hK => ?_); go_simp; refine hK _ _ ?_; clear hK K)
  (refine wpCh_step rfl (fun K hK => ?_); go_simp; apply Exists.intro; apply And.intro)
  · intro s p; go_at_call 41; with_reducible exact keeps_of (whole_any _ _)
  apply hK; clear hK K
  (refine wpCh_call rfl rfl (fun K hK => ?_); go_simp; apply Exists.intro; apply Exists.intro; apply And.intro)
  · intro p; go_at_call 34; with_reducible exact HD2 _ _ (Nat.lt_of_lt_of_le hW (wk_size _ _ _ _)) (wk_at hW)
  apply hK; clear hK K
  iterate 2 (refine wpCh_step rfl (fun K hK => ?_); go_simp; refine hK _ _ ?_; clear hK K)
  (refine wpCh_call rfl rfl (fun K hK => ?_); go_simp; apply Exists.intro; apply Exists.intro; apply And.intro)
  · intro p; go_at_call 31; with_reducible exact HM2 _ _ (Nat.lt_of_lt_of_le hW (wk_size _ _ _ _)) (wk_at hW)
  apply hK; clear hK K
  refine wpCh_nil ?_
  refine ⟨storeOK_row rfl (fun _ => rfl) (fun _ => rfl) (show _ = some 2 from by kernel_rfl) rfl (by simp [Value.oneCell']), ?_⟩
  intro g2 wG hg2 hl2 hL2 hx2
  have hk2 := cell_blk hx2
  have hf2 := frozen_blk hx2
  clear hx2
  obtain ⟨hcG, hfG⟩ := lcell hL2
  have hsz2 := hL2.1.size
  have hwG : Below w.heap.size w wG := below_leaves hwF hL2 (by omega)
  have kS : wG.cell? ⟨wV.heap.size, 0, none⟩ = some (.int .i64 (bI (rowG m.xx m.xy m.dx x y && rowG m.yx m.yy m.dy x y))) := (cell_of_row wG _ 0 _ _ _ hL2.2).trans rfl
  clear hL2 hW
  have r1 : wV.heap.size < wG.heap.size := by omega
  have r2 : ¬ g2 = wV.heap.size := by omega
  have r3 : w.heap.size + 1 + 1 < wG.heap.size := by omega
  have r4 : w.heap.size + 1 + 1 < wF.heap.size := by omega
  have r5 : w.heap.size + 1 + 1 < wV.heap.size := by omega
  have r6 : w.heap.size + 1 + 1 < wV.heap.size + 1 := by omega
  have r7 : w.heap.size + 1 + 1 < wA.heap.size := by omega
  have r8 : ¬ g2 = w.heap.size + 1 + 1 := by omega
  have r9 : ¬ w.heap.size + 1 + 1 = g2 := by omega
  have ra : ¬ wV.heap.size = w.heap.size + 1 + 1 := by omega
  have rb : g < wG.heap.size := by omega
  cases h3 : rowG m.xx m.xy m.dx x y && rowG m.yx m.yy m.dy x y
  · have HV := hide (appV_no (m := m) (x := x) (y := y) (by unfold appG; rw [h3]; simp))
    have HC := hide (show appC m x y = 2 by unfold appC appG; rw [HO.out, h3]; rfl)
    simp only [h3, bI_f, cnd_f] at hk2 kS
    go_wp2
    go_region
    all_goals (try go_wp2)
    all_goals (refine bodyPost_ret (v := .tuple #[.agg #[.int .i64 (appV m x y).1, .int .i64 (appV m x y).2], .int .i64 (appC m x y)]) ?_ rfl ⟨rfl, (by repeat (first | (with_reducible refine bl_set ?_ (by simp <;> omega) _) | (with_reducible refine bl_alloc ?_ (Nat.le_refl _) _) | (with_reducible refine Below.drew ?_) | (with_reducible assumption) | (with_reducible exact Below.refl _ _)))⟩; rw [HV.out, HC.out]; simp (maxDischargeDepth := 9) [results, Tryd.results17, go_sem, *])
  · obtain ⟨h4, h5⟩ := (Bool.and_eq_true_iff.1 h3)
    have f1 := HF1.out h4
    have f2 := HF2.out h5
    have HR1 := roundFrac_i (rowF m.xx m.xy m.dx x y).1 (rowF m.xx m.xy m.dx x y).2 (okF_I f1).1 (okF_I f1).2
    have HR2 := roundFrac_i (rowF m.yx m.yy m.dy x y).1 (rowF m.yx m.yy m.dy x y).2 (okF_I f2).1 (okF_I f2).2
    have HX := HXe.out
    have HY := HYe.out
    rw [h3] at hk2 kS
    rw [h4] at hk HX
    rw [h5] at HY
    simp only [bI_t, cnd_t] at hk hk2 kS HX HY
    rw [← HX] at HR1
    rw [← HY] at HR2
    clear HX HY f1 f2
    go_wp2
    refine wp_region_made 5 _ _ (.cells #[.int .i64 0, .int .i64 0] 41) (.cells #[.int .i64 (appX m x y), .int .i64 (appY m x y)] 41) (by kernel_rfl) (by kernel_rfl) rfl rfl (fun _ _ => by kernel_rfl) ?_
    simp only [List.take_succ_cons, List.take_zero, List.drop_succ_cons, List.drop_zero]
    repeat (refine wpSteady_step (fun K hK => ?_); go_simp; first | (refine hK _ ?_; clear hK K) | (apply Exists.intro; refine ⟨fun _ => ?_, hK _ ?_⟩; (first | (go_at_call 45; with_reducible exact keeps_of (HR1 _)) | (go_at_call 45; with_reducible exact keeps_of (HR2 _))); clear hK K))
    refine wpSteady_nil ?_
    refine ⟨?_, ?_⟩
    · intro gz w1 _ hx
      have hk := cell_blk hx
      have hf := frozen_blk hx
      exact ⟨(World.setCell (World.setCell w1 ⟨gz, 0, none⟩ (.int .i64 (appX m x y))) ⟨gz, 1, none⟩ (.int .i64 (appY m x y))), (by simp [go_sem, hk, hf]), (heap_set (heap_set hx 0 _) 1 _), (only_set ((only_set (only_refl w1 gz) 0 _)) 1 _)⟩
    intro gz w1 hgz hlz hb1 hx
    have hkz := cell_blk hx
    have hfz := frozen_blk hx
    clear hx
    try simp at hgz
    obtain ⟨hc1, hf1⟩ := bcell hb1
    have hw1 : Below w.heap.size w w1 := bl_call (by repeat (first | exact Below.refl _ _ | assumption | (refine bl_alloc ?_ (Nat.le_refl _) _) | (refine bl_set ?_ (by simp <;> omega) _))) hb1
    have hz1 : w.heap.size + 3 ≤ w1.heap.size := (by have hq := hb1.size; have hr := hw1.size; (try simp at hq); omega)
    have hza : w.heap.size < w1.heap.size := (by omega)
    have hzb : w.heap.size + 1 < w1.heap.size := (by omega)
    have hzc : w.heap.size + 1 + 1 < w1.heap.size := (by omega)
    obtain ⟨wR, rfl⟩ : ∃ wR : World, wR = w1 := ⟨_, rfl⟩
    have s1 : wG.heap.size ≤ wR.heap.size := by omega
    have s2 : w.heap.size + 1 + 1 < wR.heap.size := by omega
    have s3 : ¬ gz = w.heap.size + 1 + 1 := by omega
    have s4 : ¬ w.heap.size + 1 + 1 = gz := by omega
    cases h6 : okPt (appX m x y) (appY m x y)
    · have HV := hide (appV_no (m := m) (x := x) (y := y) (by unfold appG; rw [h6]; simp))
      have HC := hide (show appC m x y = 2 by unfold appC appG; rw [HO.out, h6, Bool.and_false]; rfl)
      go_wp2_with (first | (go_at_call 44; (with_reducible refine (validPt_i _ _ _).mono ?_); rintro e w1 ⟨rfl, hb1⟩; obtain ⟨hc1, hf1⟩ := bcell hb1; have hw1 : Below w.heap.size w w1 := bl_call (by repeat (first | exact Below.refl _ _ | assumption | (refine bl_alloc ?_ (Nat.le_refl _) _) | (refine bl_set ?_ (by simp <;> omega) _))) hb1; have hz1 : w.heap.size + 3 ≤ w1.heap.size := (by have hq := hb1.size; have hr := hw1.size; (try simp at hq); omega); have hza : w.heap.size < w1.heap.size := (by omega); have hzb : w.heap.size + 1 < w1.heap.size := (by omega); have hzc : w.heap.size + 1 + 1 < w1.heap.size := (by omega); have hz4 := hb1.size; (try simp at hz4); (try have hz5 := Nat.lt_of_succ_le hz4); (try have hzxwR : wR.heap.size < w1.heap.size := (by omega))))
      refine bodyPost_ret (v := .tuple #[.agg #[.int .i64 (appV m x y).1, .int .i64 (appV m x y).2], .int .i64 (appC m x y)]) ?_ rfl ⟨rfl, (by repeat (first | (with_reducible refine bl_set ?_ (by simp <;> omega) _) | (with_reducible refine bl_alloc ?_ (Nat.le_refl _) _) | (with_reducible refine Below.drew ?_) | (with_reducible assumption) | (with_reducible exact Below.refl _ _)))⟩
      rw [HV.out, HC.out]; simp (maxDischargeDepth := 9) [results, Tryd.results17, go_sem, *]
    · have HG : appG m x y = true := by unfold appG; rw [h3, h6]; rfl
      have HV := hide (appV_yes HO.out HG)
      have HC := hide (show appC m x y = 0 by unfold appC; rw [HO.out, HG]; rfl)
      clear HG
      go_wp2_with (first | (go_at_call 44; (with_reducible refine (validPt_i _ _ _).mono ?_); rintro e w1 ⟨rfl, hb1⟩; obtain ⟨hc1, hf1⟩ := bcell hb1; have hw1 : Below w.heap.size w w1 := bl_call (by repeat (first | exact Below.refl _ _ | assumption | (refine bl_alloc ?_ (Nat.le_refl _) _) | (refine bl_set ?_ (by simp <;> omega) _))) hb1; have hz1 : w.heap.size + 3 ≤ w1.heap.size := (by have hq := hb1.size; have hr := hw1.size; (try simp at hq); omega); have hza : w.heap.size < w1.heap.size := (by omega); have hzb : w.heap.size + 1 < w1.heap.size := (by omega); have hzc : w.heap.size + 1 + 1 < w1.heap.size := (by omega); have hz4 := hb1.size; (try simp at hz4); (try have hz5 := Nat.lt_of_succ_le hz4); (try have hzxwR : wR.heap.size < w1.heap.size := (by omega))))
      refine bodyPost_ret (v := .tuple #[.agg #[.int .i64 (appV m x y).1, .int .i64 (appV m x y).2], .int .i64 (appC m x y)]) ?_ rfl ⟨rfl, (by repeat (first | (with_reducible refine bl_set ?_ (by simp <;> omega) _) | (with_reducible refine bl_alloc ?_ (Nat.le_refl _) _) | (with_reducible refine Below.drew ?_) | (with_reducible assumption) | (with_reducible exact Below.refl _ _)))⟩
      rw [HV.out, HC.out]; simp (maxDischargeDepth := 9) [results, Tryd.results17, go_sem, *]
end Go.Proofs.YtickgkfgmbaalaaDoor
