/-
  CONTRACTS of the reference's l04Row, l04Apply, ApplyMap, and the walk of the law FnExactApplyMap. Conditions: integers of 64 bits; for l04Row and l04Apply valid values.
-/
import Derived.Test.YtickgkfgmbaalaaMapA
import Derived.Test.YtickgkfgmbaalaaEqPt
import Derived.Deep.RegionWith
namespace Go.Proofs.Ytickgkfgmbaalaa
open Go.RowKit Go.Sort
set_option linter.unusedVariables false
attribute [local go_sem] cell_grow frozen_grow
attribute [local go_sem] Oper.quietAt Oper.quietUpon
theorem addN_I (p q : F2) : I64 (addN p.1 p.2 q.1 q.2) := by
  obtain ⟨e1, _⟩ := rN_cnd (p.1 * q.2 + q.1 * p.2) (p.2 * q.2) (okFr p.1 p.2 && okFr q.1 q.2)
  have e : addN p.1 p.2 q.1 q.2 = cnd (true && decide (addK p q = 0)) (addF p q).1 := e1
  rw [e]
  exact cnd_IK (addF_I p q)
theorem roundR_cnd (p q : F2) : roundR (addN p.1 p.2 q.1 q.2) (addD p.1 p.2 q.1 q.2) = cnd (decide (addK p q = 0)) (roundR (addF p q).1 (addF p q).2) := by
  obtain ⟨e1, e2⟩ := rN_cnd (p.1 * q.2 + q.1 * p.2) (p.2 * q.2) (okFr p.1 p.2 && okFr q.1 q.2)
  have f1 : addN p.1 p.2 q.1 q.2 = cnd (decide (addK p q = 0)) (addF p q).1 := e1
  have f2 : addD p.1 p.2 q.1 q.2 = cnd (decide (addK p q = 0)) (addF p q).2 := e2
  rw [f1, f2]
  cases decide (addK p q = 0)
  · rfl
  · rfl
theorem rowtwo (a b : F2) (x y : Int) (ha : okF a = true) (hb : okF b = true) (hp : okPt x y = true) (w : World) :
    Calls Try.prog 58 #[.agg #[.int .i64 a.1, .int .i64 a.2], .agg #[.int .i64 x, .int .i64 1], .agg #[.int .i64 b.1, .int .i64 b.2], .agg #[.int .i64 y, .int .i64 1]] w
      fun e w' => e = .returned (.tuple #[.agg #[.int .i64 (cnd (dotG a (x, 1) b (y, 1)) (dotF a (x, 1) b (y, 1)).1), .int .i64 (cnd (dotG a (x, 1) b (y, 1)) (dotF a (x, 1) b (y, 1)).2)], .bool (dotG a (x, 1) b (y, 1))]) ∧ Below w.heap.size w w' := by
  obtain ⟨x0, x1, y0, y1⟩ := okPt_t hp
  exact l04Two_any a (x, 1) b (y, 1) ha (okF_int x0 x1) hb (okF_int y0 y1) w
set_option maxRecDepth 100000 in
set_option maxHeartbeats 8000000 in
theorem l04Row_any (a b c : F2) (x y : Int) (ha : okF a = true) (hb : okF b = true) (hc : okF c = true) (hp : okPt x y = true) (w : World) :
    Calls Try.prog 74 #[.agg #[.int .i64 a.1, .int .i64 a.2], .agg #[.int .i64 b.1, .int .i64 b.2], .agg #[.int .i64 c.1, .int .i64 c.2], .agg #[.int .i64 x, .int .i64 y]] w
      fun e w' => e = .returned (.tuple #[.int .i64 (rowR a b c x y), .bool (rowG a b c x y)]) ∧ Below w.heap.size w w' := by
  have HT := rowtwo a b x y ha hb hp
  cases hd : dotG a (x, 1) b (y, 1)
  · have HG := hide (show rowG a b c x y = false by unfold rowG movG; rw [hd]; rfl)
    have HV := hide (show rowR a b c x y = 0 by unfold rowR; rw [HG.out]; rfl)
    rw [hd, cnd_f, cnd_f] at HT
    go_enter Try.func74, Try.ntmps74
    go_wp2
    refine wp_region_made 12 _ _ (.cells #[.int .i64 0, .int .i64 0] 23) (.cells #[.int .i64 0, .int .i64 0] 23) (by kernel_rfl) (by kernel_rfl) rfl rfl (fun _ _ => by kernel_rfl) ?_
    simp only [List.take_succ_cons, List.take_zero, List.drop_succ_cons, List.drop_zero]
    repeat (refine wpSteady_step (fun K hK => ?_); go_simp; first | (refine hK _ ?_; clear hK K) | (apply Exists.intro; refine ⟨fun _ => ?_, hK _ ?_⟩; (first | (go_at_call 64; with_reducible exact keeps_of (l04Int_any _ _)) | (go_at_call 58; with_reducible exact keeps_of (HT _))); clear hK K))
    refine wpSteady_nil ?_
    refine ⟨?_, ?_⟩
    · intro gz w1 _ hx
      have hk := cell_blk hx
      have hf := frozen_blk hx
      exact ⟨(World.setCell (World.setCell w1 ⟨gz, 0, none⟩ (.int .i64 0)) ⟨gz, 1, none⟩ (.int .i64 0)), (by simp [go_sem, hk, hf]), (heap_set (heap_set hx 0 _) 1 _), (only_set ((only_set (only_refl w1 gz) 0 _)) 1 _)⟩
    intro gz w1 hgz hlz hb1 hx
    have hkz := cell_blk hx
    have hfz := frozen_blk hx
    clear hx
    try simp at hgz
    obtain ⟨hc1, hf1⟩ := bcell hb1
    have hw1 : Below w.heap.size w w1 := bl_call (by repeat (first | exact Below.refl _ _ | assumption | (refine bl_alloc ?_ (Nat.le_refl _) _) | (refine bl_set ?_ (by simp <;> omega) _))) hb1
    have hz1 : w.heap.size + 4 ≤ w1.heap.size := (by have hq := hb1.size; have hr := hw1.size; (try simp at hq); omega)
    have hza : w.heap.size < w1.heap.size := (by omega)
    have hzb : w.heap.size + 1 < w1.heap.size := (by omega)
    have hzc : w.heap.size + 1 + 1 < w1.heap.size := (by omega)
    have hzd : w.heap.size + 1 + 1 + 1 < w1.heap.size := (by omega)
    go_wp2
    refine bodyPost_ret (v := .tuple #[.int .i64 (rowR a b c x y), .bool (rowG a b c x y)]) ?_ rfl ⟨rfl, (by repeat (first | (with_reducible refine bl_set ?_ (by simp <;> omega) _) | (with_reducible refine bl_alloc ?_ (Nat.le_refl _) _) | (with_reducible refine Below.drew ?_) | (with_reducible assumption) | (with_reducible exact Below.refl _ _)))⟩
    rw [HV.out, HG.out]; simp (maxDischargeDepth := 9) [results, Try.results74, go_sem, *]
  · obtain ⟨x0, x1, y0, y1⟩ := okPt_t hp
    have hv := (dotF_v ha (okF_int x0 x1) hb (okF_int y0 y1) hd).1
    have HA := addFrac_s (dotF a (x, 1) b (y, 1)).1 (dotF a (x, 1) b (y, 1)).2 c.1 c.2 (okF_I hv).1 (okF_I hv).2 (okF_I hc).1 (okF_I hc).2
    have HG := hide (show rowG a b c x y = decide (addK (dotF a (x, 1) b (y, 1)) c = 0) by unfold rowG movG; rw [hd]; rfl)
    have HV := hide (show rowR a b c x y = roundR (addN (dotF a (x, 1) b (y, 1)).1 (dotF a (x, 1) b (y, 1)).2 c.1 c.2) (addD (dotF a (x, 1) b (y, 1)).1 (dotF a (x, 1) b (y, 1)).2 c.1 c.2) by rw [roundR_cnd]; unfold rowR; rw [HG.out]; rfl)
    have HI := addN_I (dotF a (x, 1) b (y, 1)) c
    have HR := roundFrac_s (addN (dotF a (x, 1) b (y, 1)).1 (dotF a (x, 1) b (y, 1)).2 c.1 c.2) (addD (dotF a (x, 1) b (y, 1)).1 (dotF a (x, 1) b (y, 1)).2 c.1 c.2) HI.1 HI.2
    rw [hd, cnd_t, cnd_t] at HT
    clear HI
    go_enter Try.func74, Try.ntmps74
    go_wp2
    refine wp_region_made 12 _ _ (.cells #[.int .i64 0, .int .i64 0] 23) (.cells #[.int .i64 (dotF a (x, 1) b (y, 1)).1, .int .i64 (dotF a (x, 1) b (y, 1)).2] 23) (by kernel_rfl) (by kernel_rfl) rfl rfl (fun _ _ => by kernel_rfl) ?_
    simp only [List.take_succ_cons, List.take_zero, List.drop_succ_cons, List.drop_zero]
    repeat (refine wpSteady_step (fun K hK => ?_); go_simp; first | (refine hK _ ?_; clear hK K) | (apply Exists.intro; refine ⟨fun _ => ?_, hK _ ?_⟩; (first | (go_at_call 64; with_reducible exact keeps_of (l04Int_any _ _)) | (go_at_call 58; with_reducible exact keeps_of (HT _))); clear hK K))
    refine wpSteady_nil ?_
    refine ⟨?_, ?_⟩
    · intro gz w1 _ hx
      have hk := cell_blk hx
      have hf := frozen_blk hx
      exact ⟨(World.setCell (World.setCell w1 ⟨gz, 0, none⟩ (.int .i64 (dotF a (x, 1) b (y, 1)).1)) ⟨gz, 1, none⟩ (.int .i64 (dotF a (x, 1) b (y, 1)).2)), (by simp [go_sem, hk, hf]), (heap_set (heap_set hx 0 _) 1 _), (only_set ((only_set (only_refl w1 gz) 0 _)) 1 _)⟩
    intro gz w1 hgz hlz hb1 hx
    have hkz := cell_blk hx
    have hfz := frozen_blk hx
    clear hx
    try simp at hgz
    obtain ⟨hc1, hf1⟩ := bcell hb1
    have hw1 : Below w.heap.size w w1 := bl_call (by repeat (first | exact Below.refl _ _ | assumption | (refine bl_alloc ?_ (Nat.le_refl _) _) | (refine bl_set ?_ (by simp <;> omega) _))) hb1
    have hz1 : w.heap.size + 4 ≤ w1.heap.size := (by have hq := hb1.size; have hr := hw1.size; (try simp at hq); omega)
    have hza : w.heap.size < w1.heap.size := (by omega)
    have hzb : w.heap.size + 1 < w1.heap.size := (by omega)
    have hzc : w.heap.size + 1 + 1 < w1.heap.size := (by omega)
    have hzd : w.heap.size + 1 + 1 + 1 < w1.heap.size := (by omega)
    go_wp2_with (first | (go_at_call 72; (with_reducible refine (HA _).mono ?_); rintro e w1 ⟨rfl, hb1⟩; obtain ⟨hc1, hf1⟩ := bcell hb1; have hw1 : Below w.heap.size w w1 := bl_call (by repeat (first | exact Below.refl _ _ | assumption | (refine bl_alloc ?_ (Nat.le_refl _) _) | (refine bl_set ?_ (by simp <;> omega) _))) hb1; have hz1 : w.heap.size + 4 ≤ w1.heap.size := (by have hq := hb1.size; have hr := hw1.size; (try simp at hq); omega); have hza : w.heap.size < w1.heap.size := (by omega); have hzb : w.heap.size + 1 < w1.heap.size := (by omega); have hzc : w.heap.size + 1 + 1 < w1.heap.size := (by omega); have hzd : w.heap.size + 1 + 1 + 1 < w1.heap.size := (by omega); have hz4 := hb1.size; (try simp at hz4); (try have hz5 := Nat.lt_of_succ_le hz4); obtain ⟨wR, rfl⟩ : ∃ wR : World, wR = w1 := ⟨_, rfl⟩) | (go_at_call 83; (with_reducible refine (HR _).mono ?_); rintro e w1 ⟨rfl, hb1⟩; obtain ⟨hc1, hf1⟩ := bcell hb1; have hw1 : Below w.heap.size w w1 := bl_call (by repeat (first | exact Below.refl _ _ | assumption | (refine bl_alloc ?_ (Nat.le_refl _) _) | (refine bl_set ?_ (by simp <;> omega) _))) hb1; have hz1 : w.heap.size + 4 ≤ w1.heap.size := (by have hq := hb1.size; have hr := hw1.size; (try simp at hq); omega); have hza : w.heap.size < w1.heap.size := (by omega); have hzb : w.heap.size + 1 < w1.heap.size := (by omega); have hzc : w.heap.size + 1 + 1 < w1.heap.size := (by omega); have hzd : w.heap.size + 1 + 1 + 1 < w1.heap.size := (by omega); have hz4 := hb1.size; (try simp at hz4); (try have hz5 := Nat.lt_of_succ_le hz4); (try have hzxwR : wR.heap.size < w1.heap.size := (by omega))))
    refine bodyPost_ret (v := .tuple #[.int .i64 (rowR a b c x y), .bool (rowG a b c x y)]) ?_ rfl ⟨rfl, (by repeat (first | (with_reducible refine bl_set ?_ (by simp <;> omega) _) | (with_reducible refine bl_alloc ?_ (Nat.le_refl _) _) | (with_reducible refine Below.drew ?_) | (with_reducible assumption) | (with_reducible exact Below.refl _ _)))⟩
    rw [HV.out, HG.out]; simp (maxDischargeDepth := 9) [results, Try.results74, go_sem, addK, *]; try rfl
set_option maxRecDepth 100000 in
set_option maxHeartbeats 8000000 in
theorem l04Apply_any (m : Af) (x y : Int) (hok : okAf m = true) (hp : okPt x y = true) (b : Nat) (w : World) (hb : b < w.heap.size) (hm : w.heap[b]? = some (.cells (afCells m) 25 (0, 0))) : Calls Try.prog 53 #[.pointer (some ⟨b, 0, none⟩), .agg #[.int .i64 x, .int .i64 y]] w
      fun e w' => e = .returned (.tuple #[.agg #[.int .i64 (appX m x y), .int .i64 (appY m x y)], .bool (appG m x y)]) ∧ Below w.heap.size w w' := by
  obtain ⟨v0, v1, v2, v3, v4, v5⟩ := okAf_t hok
  have H1 := l04Row_any m.xx m.xy m.dx x y v0 v1 v4 hp
  have H2 := l04Row_any m.yx m.yy m.dy x y v2 v3 v5 hp
  have HG := hide (show appG m x y = (rowG m.xx m.xy m.dx x y && rowG m.yx m.yy m.dy x y && okPt (appX m x y) (appY m x y)) from rfl)
  have hx : rowR m.xx m.xy m.dx x y = appX m x y := rfl
  have hy : rowR m.yx m.yy m.dy x y = appY m x y := rfl
  rw [hx] at H1
  rw [hy] at H2
  clear hx hy
  have hc := cell_of_row w b
  have c0 : w.cell? ⟨b, 0, none⟩ = some (.int .i64 m.xx.1) := (hc 0 _ _ _ hm).trans rfl
  have c1 : w.cell? ⟨b, 1, none⟩ = some (.int .i64 m.xx.2) := (hc 1 _ _ _ hm).trans rfl
  have c2 : w.cell? ⟨b, 2, none⟩ = some (.int .i64 m.xy.1) := (hc 2 _ _ _ hm).trans rfl
  have c3 : w.cell? ⟨b, 3, none⟩ = some (.int .i64 m.xy.2) := (hc 3 _ _ _ hm).trans rfl
  have c4 : w.cell? ⟨b, 4, none⟩ = some (.int .i64 m.yx.1) := (hc 4 _ _ _ hm).trans rfl
  have c5 : w.cell? ⟨b, 5, none⟩ = some (.int .i64 m.yx.2) := (hc 5 _ _ _ hm).trans rfl
  have c6 : w.cell? ⟨b, 6, none⟩ = some (.int .i64 m.yy.1) := (hc 6 _ _ _ hm).trans rfl
  have c7 : w.cell? ⟨b, 7, none⟩ = some (.int .i64 m.yy.2) := (hc 7 _ _ _ hm).trans rfl
  have c8 : w.cell? ⟨b, 8, none⟩ = some (.int .i64 m.dx.1) := (hc 8 _ _ _ hm).trans rfl
  have c9 : w.cell? ⟨b, 9, none⟩ = some (.int .i64 m.dx.2) := (hc 9 _ _ _ hm).trans rfl
  have ca : w.cell? ⟨b, 10, none⟩ = some (.int .i64 m.dy.1) := (hc 10 _ _ _ hm).trans rfl
  have cb : w.cell? ⟨b, 11, none⟩ = some (.int .i64 m.dy.2) := (hc 11 _ _ _ hm).trans rfl
  have l1 : b < w.heap.size + 1 := by omega
  have l2 : b < w.heap.size + 1 + 1 := by omega
  clear hc hm
  cases h1 : rowG m.xx m.xy m.dx x y
  · rw [h1] at H1 HG
    go_enter Try.func53, Try.ntmps53
    go_wp2
    refine wp_region_quiet_below (by kernel_rfl) (by kernel_rfl) ?_
    repeat (first | go_big_quiet_step (((go_at_call 74; with_reducible exact Calls.regrown_of (H1 _)))) | quiet_step (((go_at_call 74; with_reducible exact Calls.regrown_of (H1 _)))))
    refine wpQuiet_nil ?_
    intro w1 hw1
    obtain ⟨pq, hpq⟩ := hw1
    have hb1 := below_of hpq
    clear hpq pq
    have hz4 := hb1.size
    (try simp at hz4)
    obtain ⟨hc1, hf1⟩ := bcell hb1
    have hw1 : Below w.heap.size w w1 := bl_call (by repeat (first | exact Below.refl _ _ | assumption | (refine bl_alloc ?_ (Nat.le_refl _) _) | (refine bl_set ?_ (by simp <;> omega) _))) hb1
    have hz1 : w.heap.size + 2 ≤ w1.heap.size := (by have hq := hb1.size; have hr := hw1.size; (try simp at hq); omega)
    have hza : w.heap.size < w1.heap.size := (by omega)
    have hzb : w.heap.size + 1 < w1.heap.size := (by omega)
    go_wp2
    obtain ⟨wA, rfl⟩ : ∃ wA : World, wA = w1 := ⟨_, rfl⟩
    have l3 : b < wA.heap.size := by omega
    refine wp_region_quiet_below (by kernel_rfl) (by kernel_rfl) ?_
    repeat (first | go_big_quiet_step (((go_at_call 74; with_reducible exact Calls.regrown_of (H2 _)))) | quiet_step (((go_at_call 74; with_reducible exact Calls.regrown_of (H2 _)))))
    refine wpQuiet_nil ?_
    intro w1 hw1
    obtain ⟨pq, hpq⟩ := hw1
    have hb1 := below_of hpq
    clear hpq pq
    have hz4 := hb1.size
    (try simp at hz4)
    obtain ⟨hc1, hf1⟩ := bcell hb1
    have hw1 : Below w.heap.size w w1 := bl_call (by repeat (first | exact Below.refl _ _ | assumption | (refine bl_alloc ?_ (Nat.le_refl _) _) | (refine bl_set ?_ (by simp <;> omega) _))) hb1
    have hz1 : w.heap.size + 2 ≤ w1.heap.size := (by have hq := hb1.size; have hr := hw1.size; (try simp at hq); omega)
    have hza : w.heap.size < w1.heap.size := (by omega)
    have hzb : w.heap.size + 1 < w1.heap.size := (by omega)
    go_wp2
    obtain ⟨wB, rfl⟩ : ∃ wB : World, wB = w1 := ⟨_, rfl⟩
    have l5 : w.heap.size + 1 < wA.heap.size := by omega
    have l6 : w.heap.size + 1 < wB.heap.size := by omega
    have l7 : ¬ wB.heap.size = w.heap.size + 1 := by omega
    have l8 : ¬ w.heap.size + 1 = wB.heap.size := by omega
    have l9 : w.heap.size + 1 < wB.heap.size + 1 := by omega
    go_region
    all_goals (try go_wp2)
    all_goals (refine bodyPost_ret (v := .tuple #[.agg #[.int .i64 (appX m x y), .int .i64 (appY m x y)], .bool (appG m x y)]) ?_ rfl ⟨rfl, (by repeat (first | (with_reducible refine bl_set ?_ (by simp <;> omega) _) | (with_reducible refine bl_alloc ?_ (Nat.le_refl _) _) | (with_reducible refine Below.drew ?_) | (with_reducible assumption) | (with_reducible exact Below.refl _ _)))⟩; rw [HG.out]; simp (maxDischargeDepth := 9) [results, Try.results53, go_sem, *])
  cases h2 : rowG m.yx m.yy m.dy x y
  · rw [h1] at H1 HG
    rw [h2] at H2 HG
    go_enter Try.func53, Try.ntmps53
    go_wp2
    refine wp_region_quiet_below (by kernel_rfl) (by kernel_rfl) ?_
    repeat (first | go_big_quiet_step (((go_at_call 74; with_reducible exact Calls.regrown_of (H1 _)))) | quiet_step (((go_at_call 74; with_reducible exact Calls.regrown_of (H1 _)))))
    refine wpQuiet_nil ?_
    intro w1 hw1
    obtain ⟨pq, hpq⟩ := hw1
    have hb1 := below_of hpq
    clear hpq pq
    have hz4 := hb1.size
    (try simp at hz4)
    obtain ⟨hc1, hf1⟩ := bcell hb1
    have hw1 : Below w.heap.size w w1 := bl_call (by repeat (first | exact Below.refl _ _ | assumption | (refine bl_alloc ?_ (Nat.le_refl _) _) | (refine bl_set ?_ (by simp <;> omega) _))) hb1
    have hz1 : w.heap.size + 2 ≤ w1.heap.size := (by have hq := hb1.size; have hr := hw1.size; (try simp at hq); omega)
    have hza : w.heap.size < w1.heap.size := (by omega)
    have hzb : w.heap.size + 1 < w1.heap.size := (by omega)
    go_wp2
    obtain ⟨wA, rfl⟩ : ∃ wA : World, wA = w1 := ⟨_, rfl⟩
    have l3 : b < wA.heap.size := by omega
    refine wp_region_quiet_below (by kernel_rfl) (by kernel_rfl) ?_
    repeat (first | go_big_quiet_step (((go_at_call 74; with_reducible exact Calls.regrown_of (H2 _)))) | quiet_step (((go_at_call 74; with_reducible exact Calls.regrown_of (H2 _)))))
    refine wpQuiet_nil ?_
    intro w1 hw1
    obtain ⟨pq, hpq⟩ := hw1
    have hb1 := below_of hpq
    clear hpq pq
    have hz4 := hb1.size
    (try simp at hz4)
    obtain ⟨hc1, hf1⟩ := bcell hb1
    have hw1 : Below w.heap.size w w1 := bl_call (by repeat (first | exact Below.refl _ _ | assumption | (refine bl_alloc ?_ (Nat.le_refl _) _) | (refine bl_set ?_ (by simp <;> omega) _))) hb1
    have hz1 : w.heap.size + 2 ≤ w1.heap.size := (by have hq := hb1.size; have hr := hw1.size; (try simp at hq); omega)
    have hza : w.heap.size < w1.heap.size := (by omega)
    have hzb : w.heap.size + 1 < w1.heap.size := (by omega)
    go_wp2
    obtain ⟨wB, rfl⟩ : ∃ wB : World, wB = w1 := ⟨_, rfl⟩
    have l5 : w.heap.size + 1 < wA.heap.size := by omega
    have l6 : w.heap.size + 1 < wB.heap.size := by omega
    have l7 : ¬ wB.heap.size = w.heap.size + 1 := by omega
    have l8 : ¬ w.heap.size + 1 = wB.heap.size := by omega
    have l9 : w.heap.size + 1 < wB.heap.size + 1 := by omega
    go_region
    all_goals (try go_wp2)
    all_goals (refine bodyPost_ret (v := .tuple #[.agg #[.int .i64 (appX m x y), .int .i64 (appY m x y)], .bool (appG m x y)]) ?_ rfl ⟨rfl, (by repeat (first | (with_reducible refine bl_set ?_ (by simp <;> omega) _) | (with_reducible refine bl_alloc ?_ (Nat.le_refl _) _) | (with_reducible refine Below.drew ?_) | (with_reducible assumption) | (with_reducible exact Below.refl _ _)))⟩; rw [HG.out]; simp (maxDischargeDepth := 9) [results, Try.results53, go_sem, *])
  · rw [h1] at H1 HG
    rw [h2] at H2 HG
    go_enter Try.func53, Try.ntmps53
    go_wp2
    refine wp_region_quiet_below (by kernel_rfl) (by kernel_rfl) ?_
    repeat (first | go_big_quiet_step (((go_at_call 74; with_reducible exact Calls.regrown_of (H1 _)))) | quiet_step (((go_at_call 74; with_reducible exact Calls.regrown_of (H1 _)))))
    refine wpQuiet_nil ?_
    intro w1 hw1
    obtain ⟨pq, hpq⟩ := hw1
    have hb1 := below_of hpq
    clear hpq pq
    have hz4 := hb1.size
    (try simp at hz4)
    obtain ⟨hc1, hf1⟩ := bcell hb1
    have hw1 : Below w.heap.size w w1 := bl_call (by repeat (first | exact Below.refl _ _ | assumption | (refine bl_alloc ?_ (Nat.le_refl _) _) | (refine bl_set ?_ (by simp <;> omega) _))) hb1
    have hz1 : w.heap.size + 2 ≤ w1.heap.size := (by have hq := hb1.size; have hr := hw1.size; (try simp at hq); omega)
    have hza : w.heap.size < w1.heap.size := (by omega)
    have hzb : w.heap.size + 1 < w1.heap.size := (by omega)
    go_wp2
    obtain ⟨wA, rfl⟩ : ∃ wA : World, wA = w1 := ⟨_, rfl⟩
    have l3 : b < wA.heap.size := by omega
    refine wp_region_quiet_below (by kernel_rfl) (by kernel_rfl) ?_
    repeat (first | go_big_quiet_step (((go_at_call 74; with_reducible exact Calls.regrown_of (H2 _)))) | quiet_step (((go_at_call 74; with_reducible exact Calls.regrown_of (H2 _)))))
    refine wpQuiet_nil ?_
    intro w1 hw1
    obtain ⟨pq, hpq⟩ := hw1
    have hb1 := below_of hpq
    clear hpq pq
    have hz4 := hb1.size
    (try simp at hz4)
    obtain ⟨hc1, hf1⟩ := bcell hb1
    have hw1 : Below w.heap.size w w1 := bl_call (by repeat (first | exact Below.refl _ _ | assumption | (refine bl_alloc ?_ (Nat.le_refl _) _) | (refine bl_set ?_ (by simp <;> omega) _))) hb1
    have hz1 : w.heap.size + 2 ≤ w1.heap.size := (by have hq := hb1.size; have hr := hw1.size; (try simp at hq); omega)
    have hza : w.heap.size < w1.heap.size := (by omega)
    have hzb : w.heap.size + 1 < w1.heap.size := (by omega)
    go_wp2
    obtain ⟨wB, rfl⟩ : ∃ wB : World, wB = w1 := ⟨_, rfl⟩
    have l5 : w.heap.size + 1 < wA.heap.size := by omega
    have l6 : w.heap.size + 1 < wB.heap.size := by omega
    have l7 : ¬ wB.heap.size = w.heap.size + 1 := by omega
    have l8 : ¬ w.heap.size + 1 = wB.heap.size := by omega
    have l9 : w.heap.size + 1 < wB.heap.size + 1 := by omega
    have hD : Below w.heap.size w (wB.alloc (.cells #[.int .i64 (appX m x y), .int .i64 (appY m x y)] 48)).drew := (by repeat (first | (with_reducible refine bl_set ?_ (by simp <;> omega) _) | (with_reducible refine bl_alloc ?_ (Nat.le_refl _) _) | (with_reducible refine Below.drew ?_) | (with_reducible assumption) | (with_reducible exact Below.refl _ _)))
    go_region_with (first | (go_at_call 52; (with_reducible refine (l03Ok_any _ _ _).mono ?_); rintro e w1 ⟨rfl, hb1⟩; obtain ⟨hc1, hf1⟩ := bcell hb1; have hw1 : Below w.heap.size w w1 := bl_call (by repeat (first | exact Below.refl _ _ | assumption | (refine bl_alloc ?_ (Nat.le_refl _) _) | (refine bl_set ?_ (by simp <;> omega) _))) hb1; have hz1 : w.heap.size + 3 ≤ w1.heap.size := (by have hq := hb1.size; have hr := hw1.size; (try simp at hq); omega); have hza : w.heap.size < w1.heap.size := (by omega); have hzb : w.heap.size + 1 < w1.heap.size := (by omega); have hzc : w.heap.size + 1 + 1 < w1.heap.size := (by omega); have hz4 := hb1.size; (try simp at hz4); (try have hz5 := Nat.lt_of_succ_le hz4); (try have hzxwB : wB.heap.size < w1.heap.size := (by omega))))
    all_goals (try go_wp2)
    all_goals (refine bodyPost_ret (v := .tuple #[.agg #[.int .i64 (appX m x y), .int .i64 (appY m x y)], .bool (appG m x y)]) ?_ rfl ⟨rfl, (by repeat (first | (with_reducible refine bl_set ?_ (by simp <;> omega) _) | (with_reducible refine bl_alloc ?_ (Nat.le_refl _) _) | (with_reducible refine Below.drew ?_) | (with_reducible assumption) | (with_reducible exact Below.refl _ _)))⟩; rw [HG.out]; simp (maxDischargeDepth := 9) [results, Try.results53, go_sem, *])
end Go.Proofs.Ytickgkfgmbaalaa
