/-
  CONTRACT of the reference's ApplyMap, and the walk of the law FnExactApplyMap. Conditions: integers of 64 bits.
-/
import Derived.Test.YtickgkfgmbaalaaMapB
namespace Go.Proofs.Ytickgkfgmbaalaa
open Go.RowKit Go.Sort
set_option linter.unusedVariables false
attribute [local go_sem] cell_grow frozen_grow
attribute [local go_sem] Oper.quietAt Oper.quietUpon
abbrev bxM (m : Af) : Obj := .cells #[.int .i64 m.xx.1, .int .i64 m.xx.2, .int .i64 m.xy.1, .int .i64 m.xy.2, .int .i64 m.yx.1, .int .i64 m.yx.2, .int .i64 m.yy.1, .int .i64 m.yy.2, .int .i64 m.dx.1, .int .i64 m.dx.2, .int .i64 m.dy.1, .int .i64 m.dy.2] 25
theorem heap_alloc_3 (w : World) (o o' o'' : Obj) : (((w.alloc o).alloc o').alloc o'').heap[w.heap.size]? = some o := (((((Below.refl (w.alloc o).heap.size (w.alloc o)).alloc (Nat.le_refl _) o').alloc (by simp) o'').block w.heap.size (by simp)).trans (heap_alloc_new w o))
theorem l04Ok_box3 (m : Af) (hin : AfIn m) (o o' : Obj) (w : World) : Calls Try.prog 42 #[.pointer (some ⟨w.heap.size, 0, none⟩)] (((w.alloc (bxM m)).alloc o).alloc o') fun e w' => e = .returned (.bool (okAf m)) ∧ Below (((w.alloc (bxM m)).alloc o).alloc o').heap.size (((w.alloc (bxM m)).alloc o).alloc o') w' :=
  l04Ok_any m hin _ _ (by simp <;> omega) (heap_alloc_3 _ _ _ _)
theorem l04Apply_box (m : Af) (x y : Int) (hok : okAf m = true) (hp : okPt x y = true) (o o' : Obj) (w wO W : World) (hO : Below (((w.alloc (bxM m)).alloc o).alloc o').heap.size (((w.alloc (bxM m)).alloc o).alloc o') wO) (hW : Below wO.heap.size wO W) :
    Calls Try.prog 53 #[.pointer (some ⟨w.heap.size, 0, none⟩), .agg #[.int .i64 x, .int .i64 y]] W
      fun e w' => e = .returned (.tuple #[.agg #[.int .i64 (appX m x y), .int .i64 (appY m x y)], .bool (appG m x y)]) ∧ Below W.heap.size W w' := by
  have h1 := hO.size
  have h2 := hW.size
  simp at h1
  exact l04Apply_any m x y hok hp _ _ (by omega) ((hW.block _ (by omega)).trans ((hO.block _ (by simp <;> omega)).trans (heap_alloc_3 _ _ _ _)))
theorem appV_no' {m : Af} {x y : Int} (h : (appO m x y && appG m x y) = false) : appV m x y = (0, 0) := by unfold appV; rw [h]; rfl
theorem appV_yes' {m : Af} {x y : Int} (h : appO m x y = true) (h' : appG m x y = true) : appV m x y = (appX m x y, appY m x y) := by unfold appV; rw [h, h']; rfl
set_option maxRecDepth 100000 in
set_option maxHeartbeats 8000000 in
theorem app_s (m : Af) (hin : AfIn m) (x y : Int) (w : World) : Calls Try.prog 31 #[afV m, .agg #[.int .i64 x, .int .i64 y]] w fun e w' => e = .returned (.tuple #[.agg #[.int .i64 (appV m x y).1, .int .i64 (appV m x y).2], .int .i64 (appC m x y)]) ∧ Below w.heap.size w w' := by
  have HK := l04Ok_box3 m hin
  unfold bxM at HK
  simp only [afV, affV]
  cases h1 : okAf m
  · have HV := hide (appV_no' (m := m) (x := x) (y := y) (by unfold appO; rw [h1]; rfl))
    have HC := hide (show appC m x y = 1 by unfold appC appO; rw [h1]; rfl)
    go_enter Try.func31, Try.ntmps31
    go_wp2_with (first | (go_at_call 42; (with_reducible refine (HK _ _ _).mono ?_); rintro e w1 ⟨rfl, hb1⟩; obtain ⟨hc1, hf1⟩ := bcell hb1; have hw1 : Below w.heap.size w w1 := bl_call (by repeat (first | exact Below.refl _ _ | assumption | (refine bl_alloc ?_ (Nat.le_refl _) _) | (refine bl_set ?_ (by simp <;> omega) _))) hb1; have hz1 : w.heap.size + 3 ≤ w1.heap.size := (by have hq := hb1.size; have hr := hw1.size; (try simp at hq); omega); have hza : w.heap.size < w1.heap.size := (by omega); have hzb : w.heap.size + 1 < w1.heap.size := (by omega); have hzc : w.heap.size + 1 + 1 < w1.heap.size := (by omega); have hz4 := hb1.size; (try simp at hz4); (try have hz5 := Nat.lt_of_succ_le hz4)) | (go_at_call 52; (with_reducible refine (l03Ok_any _ _ _).mono ?_); rintro e w1 ⟨rfl, hb1⟩; obtain ⟨hc1, hf1⟩ := bcell hb1; have hw1 : Below w.heap.size w w1 := bl_call (by repeat (first | exact Below.refl _ _ | assumption | (refine bl_alloc ?_ (Nat.le_refl _) _) | (refine bl_set ?_ (by simp <;> omega) _))) hb1; have hz1 : w.heap.size + 3 ≤ w1.heap.size := (by have hq := hb1.size; have hr := hw1.size; (try simp at hq); omega); have hza : w.heap.size < w1.heap.size := (by omega); have hzb : w.heap.size + 1 < w1.heap.size := (by omega); have hzc : w.heap.size + 1 + 1 < w1.heap.size := (by omega); have hz4 := hb1.size; (try simp at hz4); (try have hz5 := Nat.lt_of_succ_le hz4)))
    refine bodyPost_ret (v := .tuple #[.agg #[.int .i64 (appV m x y).1, .int .i64 (appV m x y).2], .int .i64 (appC m x y)]) ?_ rfl ⟨rfl, (by repeat (first | (with_reducible refine bl_set ?_ (by simp <;> omega) _) | (with_reducible refine bl_alloc ?_ (Nat.le_refl _) _) | (with_reducible refine Below.drew ?_) | (with_reducible assumption) | (with_reducible exact Below.refl _ _)))⟩
    rw [HV.out, HC.out]; simp (maxDischargeDepth := 9) [results, Try.results31, go_sem, *]
  cases h2 : okPt x y
  · have HV := hide (appV_no' (m := m) (x := x) (y := y) (by unfold appO; rw [h1, h2]; rfl))
    have HC := hide (show appC m x y = 1 by unfold appC appO; rw [h1, h2]; rfl)
    go_enter Try.func31, Try.ntmps31
    go_wp2_with (first | (go_at_call 42; (with_reducible refine (HK _ _ _).mono ?_); rintro e w1 ⟨rfl, hb1⟩; obtain ⟨hc1, hf1⟩ := bcell hb1; have hw1 : Below w.heap.size w w1 := bl_call (by repeat (first | exact Below.refl _ _ | assumption | (refine bl_alloc ?_ (Nat.le_refl _) _) | (refine bl_set ?_ (by simp <;> omega) _))) hb1; have hz1 : w.heap.size + 3 ≤ w1.heap.size := (by have hq := hb1.size; have hr := hw1.size; (try simp at hq); omega); have hza : w.heap.size < w1.heap.size := (by omega); have hzb : w.heap.size + 1 < w1.heap.size := (by omega); have hzc : w.heap.size + 1 + 1 < w1.heap.size := (by omega); have hz4 := hb1.size; (try simp at hz4); (try have hz5 := Nat.lt_of_succ_le hz4); obtain ⟨wO, rfl⟩ : ∃ wO : World, wO = w1 := ⟨_, rfl⟩) | (go_at_call 52; (with_reducible refine (l03Ok_any _ _ _).mono ?_); rintro e w1 ⟨rfl, hb1⟩; obtain ⟨hc1, hf1⟩ := bcell hb1; have hw1 : Below w.heap.size w w1 := bl_call (by repeat (first | exact Below.refl _ _ | assumption | (refine bl_alloc ?_ (Nat.le_refl _) _) | (refine bl_set ?_ (by simp <;> omega) _))) hb1; have hz1 : w.heap.size + 3 ≤ w1.heap.size := (by have hq := hb1.size; have hr := hw1.size; (try simp at hq); omega); have hza : w.heap.size < w1.heap.size := (by omega); have hzb : w.heap.size + 1 < w1.heap.size := (by omega); have hzc : w.heap.size + 1 + 1 < w1.heap.size := (by omega); have hz4 := hb1.size; (try simp at hz4); (try have hz5 := Nat.lt_of_succ_le hz4); (try have hzxwO : wO.heap.size < w1.heap.size := (by omega))))
    refine bodyPost_ret (v := .tuple #[.agg #[.int .i64 (appV m x y).1, .int .i64 (appV m x y).2], .int .i64 (appC m x y)]) ?_ rfl ⟨rfl, (by repeat (first | (with_reducible refine bl_set ?_ (by simp <;> omega) _) | (with_reducible refine bl_alloc ?_ (Nat.le_refl _) _) | (with_reducible refine Below.drew ?_) | (with_reducible assumption) | (with_reducible exact Below.refl _ _)))⟩
    rw [HV.out, HC.out]; simp (maxDischargeDepth := 9) [results, Try.results31, go_sem, *]
  have HO := hide (show appO m x y = true by unfold appO; rw [h1, h2]; rfl)
  have HA := l04Apply_box m x y h1 h2
  unfold bxM at HA
  cases h3 : appG m x y
  · have HV := hide (appV_no' (m := m) (x := x) (y := y) (by rw [h3]; simp))
    have HC := hide (show appC m x y = 2 by unfold appC; rw [HO.out, h3]; rfl)
    rw [h3] at HA
    go_enter Try.func31, Try.ntmps31
    go_wp2_with (first | (go_at_call 42; (with_reducible refine (HK _ _ _).mono ?_); rintro e w1 ⟨rfl, hb1⟩; obtain ⟨hc1, hf1⟩ := bcell hb1; have hw1 : Below w.heap.size w w1 := bl_call (by repeat (first | exact Below.refl _ _ | assumption | (refine bl_alloc ?_ (Nat.le_refl _) _) | (refine bl_set ?_ (by simp <;> omega) _))) hb1; have hz1 : w.heap.size + 3 ≤ w1.heap.size := (by have hq := hb1.size; have hr := hw1.size; (try simp at hq); omega); have hza : w.heap.size < w1.heap.size := (by omega); have hzb : w.heap.size + 1 < w1.heap.size := (by omega); have hzc : w.heap.size + 1 + 1 < w1.heap.size := (by omega); have hz4 := hb1.size; (try simp at hz4); (try have hz5 := Nat.lt_of_succ_le hz4); obtain ⟨wO, rfl⟩ : ∃ wO : World, wO = w1 := ⟨_, rfl⟩) | (go_at_call 52; (with_reducible refine (l03Ok_any _ _ _).mono ?_); rintro e w1 ⟨rfl, hb1⟩; obtain ⟨hc1, hf1⟩ := bcell hb1; have hw1 : Below w.heap.size w w1 := bl_call (by repeat (first | exact Below.refl _ _ | assumption | (refine bl_alloc ?_ (Nat.le_refl _) _) | (refine bl_set ?_ (by simp <;> omega) _))) hb1; have hz1 : w.heap.size + 3 ≤ w1.heap.size := (by have hq := hb1.size; have hr := hw1.size; (try simp at hq); omega); have hza : w.heap.size < w1.heap.size := (by omega); have hzb : w.heap.size + 1 < w1.heap.size := (by omega); have hzc : w.heap.size + 1 + 1 < w1.heap.size := (by omega); have hz4 := hb1.size; (try simp at hz4); (try have hz5 := Nat.lt_of_succ_le hz4); (try have hzxwO : wO.heap.size < w1.heap.size := (by omega)); obtain ⟨wP, rfl⟩ : ∃ wP : World, wP = w1 := ⟨_, rfl⟩) | (go_at_call 53; (with_reducible refine (HA _ _ _ wO _ (by assumption) (by assumption)).mono ?_); rintro e w1 ⟨rfl, hb1⟩; obtain ⟨hc1, hf1⟩ := bcell hb1; have hw1 : Below w.heap.size w w1 := bl_call (by repeat (first | exact Below.refl _ _ | assumption | (refine bl_alloc ?_ (Nat.le_refl _) _) | (refine bl_set ?_ (by simp <;> omega) _))) hb1; have hz1 : w.heap.size + 3 ≤ w1.heap.size := (by have hq := hb1.size; have hr := hw1.size; (try simp at hq); omega); have hza : w.heap.size < w1.heap.size := (by omega); have hzb : w.heap.size + 1 < w1.heap.size := (by omega); have hzc : w.heap.size + 1 + 1 < w1.heap.size := (by omega); have hz4 := hb1.size; (try simp at hz4); (try have hz5 := Nat.lt_of_succ_le hz4); (try have hzxwO : wO.heap.size < w1.heap.size := (by omega)); (try have hzxwP : wP.heap.size < w1.heap.size := (by omega))))
    refine bodyPost_ret (v := .tuple #[.agg #[.int .i64 (appV m x y).1, .int .i64 (appV m x y).2], .int .i64 (appC m x y)]) ?_ rfl ⟨rfl, (by repeat (first | (with_reducible refine bl_set ?_ (by simp <;> omega) _) | (with_reducible refine bl_alloc ?_ (Nat.le_refl _) _) | (with_reducible refine Below.drew ?_) | (with_reducible assumption) | (with_reducible exact Below.refl _ _)))⟩
    rw [HV.out, HC.out]; simp (maxDischargeDepth := 9) [results, Try.results31, go_sem, *]
  · have HV := hide (appV_yes' HO.out h3)
    have HC := hide (show appC m x y = 0 by unfold appC; rw [HO.out, h3]; rfl)
    rw [h3] at HA
    go_enter Try.func31, Try.ntmps31
    go_wp2_with (first | (go_at_call 42; (with_reducible refine (HK _ _ _).mono ?_); rintro e w1 ⟨rfl, hb1⟩; obtain ⟨hc1, hf1⟩ := bcell hb1; have hw1 : Below w.heap.size w w1 := bl_call (by repeat (first | exact Below.refl _ _ | assumption | (refine bl_alloc ?_ (Nat.le_refl _) _) | (refine bl_set ?_ (by simp <;> omega) _))) hb1; have hz1 : w.heap.size + 3 ≤ w1.heap.size := (by have hq := hb1.size; have hr := hw1.size; (try simp at hq); omega); have hza : w.heap.size < w1.heap.size := (by omega); have hzb : w.heap.size + 1 < w1.heap.size := (by omega); have hzc : w.heap.size + 1 + 1 < w1.heap.size := (by omega); have hz4 := hb1.size; (try simp at hz4); (try have hz5 := Nat.lt_of_succ_le hz4); obtain ⟨wO, rfl⟩ : ∃ wO : World, wO = w1 := ⟨_, rfl⟩) | (go_at_call 52; (with_reducible refine (l03Ok_any _ _ _).mono ?_); rintro e w1 ⟨rfl, hb1⟩; obtain ⟨hc1, hf1⟩ := bcell hb1; have hw1 : Below w.heap.size w w1 := bl_call (by repeat (first | exact Below.refl _ _ | assumption | (refine bl_alloc ?_ (Nat.le_refl _) _) | (refine bl_set ?_ (by simp <;> omega) _))) hb1; have hz1 : w.heap.size + 3 ≤ w1.heap.size := (by have hq := hb1.size; have hr := hw1.size; (try simp at hq); omega); have hza : w.heap.size < w1.heap.size := (by omega); have hzb : w.heap.size + 1 < w1.heap.size := (by omega); have hzc : w.heap.size + 1 + 1 < w1.heap.size := (by omega); have hz4 := hb1.size; (try simp at hz4); (try have hz5 := Nat.lt_of_succ_le hz4); (try have hzxwO : wO.heap.size < w1.heap.size := (by omega)); obtain ⟨wP, rfl⟩ : ∃ wP : World, wP = w1 := ⟨_, rfl⟩) | (go_at_call 53; (with_reducible refine (HA _ _ _ wO _ (by assumption) (by assumption)).mono ?_); rintro e w1 ⟨rfl, hb1⟩; obtain ⟨hc1, hf1⟩ := bcell hb1; have hw1 : Below w.heap.size w w1 := bl_call (by repeat (first | exact Below.refl _ _ | assumption | (refine bl_alloc ?_ (Nat.le_refl _) _) | (refine bl_set ?_ (by simp <;> omega) _))) hb1; have hz1 : w.heap.size + 3 ≤ w1.heap.size := (by have hq := hb1.size; have hr := hw1.size; (try simp at hq); omega); have hza : w.heap.size < w1.heap.size := (by omega); have hzb : w.heap.size + 1 < w1.heap.size := (by omega); have hzc : w.heap.size + 1 + 1 < w1.heap.size := (by omega); have hz4 := hb1.size; (try simp at hz4); (try have hz5 := Nat.lt_of_succ_le hz4); (try have hzxwO : wO.heap.size < w1.heap.size := (by omega)); (try have hzxwP : wP.heap.size < w1.heap.size := (by omega))))
    refine bodyPost_ret (v := .tuple #[.agg #[.int .i64 (appV m x y).1, .int .i64 (appV m x y).2], .int .i64 (appC m x y)]) ?_ rfl ⟨rfl, (by repeat (first | (with_reducible refine bl_set ?_ (by simp <;> omega) _) | (with_reducible refine bl_alloc ?_ (Nat.le_refl _) _) | (with_reducible refine Below.drew ?_) | (with_reducible assumption) | (with_reducible exact Below.refl _ _)))⟩
    rw [HV.out, HC.out]; simp (maxDischargeDepth := 9) [results, Try.results31, go_sem, *]
set_option maxRecDepth 100000 in
set_option maxHeartbeats 8000000 in
theorem fnApplyMap (m : Af) (x y : Int) (hin : AfIn m) (wx : (Lit.int .i64 x).wf = true) (wy : (Lit.int .i64 y).wf = true) (w : World) : Calls Try.prog 10 #[afV m, .agg #[.int .i64 x, .int .i64 y]] w fun E w' => E = .returned (.bool true) ∧ Below w.heap.size w w' := by
  have HT := toAffine_any m.xx.1 m.xx.2 m.xy.1 m.xy.2 m.yx.1 m.yx.2 m.yy.1 m.yy.2 m.dx.1 m.dx.2 m.dy.1 m.dy.2
  have HS := app_s m hin x y
  have HI := app_i m hin x y
  have he := eqP_self (appV m x y).1 (appV m x y).2
  simp only [afV, affV] at HT HS HI ⊢
  go_enter Try.func10, Try.ntmps10
  go_wp2
  refine wp_region_made 8 _ _ (.cells #[.int .i64 0, .int .i64 0] 48) (.cells #[.int .i64 (appV m x y).1, .int .i64 (appV m x y).2] 48) (by kernel_rfl) (by kernel_rfl) rfl rfl (fun _ _ => by kernel_rfl) ?_
  simp only [List.take_succ_cons, List.take_zero, List.drop_succ_cons, List.drop_zero]
  repeat (refine wpSteady_step (fun K hK => ?_); go_simp; first | (refine hK _ ?_; clear hK K) | (apply Exists.intro; refine ⟨fun _ => ?_, hK _ ?_⟩; (first | (go_at_call 17; with_reducible exact keeps_of (HT _)) | (go_at_call 32; with_reducible exact keeps_of (toPt_any _ _ _)) | (go_at_call 31; with_reducible exact keeps_of (HS _))); clear hK K))
  refine wpSteady_nil ?_
  refine ⟨?_, ?_⟩
  · intro gx w1 _ hx
    have hk := cell_blk hx
    have hf := frozen_blk hx
    exact ⟨(World.setCell (World.setCell w1 ⟨gx, 0, none⟩ (.int .i64 (appV m x y).1)) ⟨gx, 1, none⟩ (.int .i64 (appV m x y).2)), (by simp [go_sem, hk, hf]), (heap_set (heap_set hx 0 _) 1 _), (only_set ((only_set (only_refl w1 gx) 0 _)) 1 _)⟩
  intro gx w1 hgx hlx hb1 hx
  have hkx := cell_blk hx
  have hfx := frozen_blk hx
  clear hx
  try simp at hgx
  obtain ⟨hc1, hf1⟩ := bcell hb1
  have hw1 : Below w.heap.size w w1 := bl_call (by repeat (first | exact Below.refl _ _ | assumption | (refine bl_alloc ?_ (Nat.le_refl _) _) | (refine bl_set ?_ (by simp <;> omega) _))) hb1
  have hz1 : w.heap.size + 2 ≤ w1.heap.size := (by have hq := hb1.size; have hr := hw1.size; (try simp at hq); omega)
  have hza : w.heap.size < w1.heap.size := (by omega)
  have hzb : w.heap.size + 1 < w1.heap.size := (by omega)
  go_wp2
  refine wp_region_made 8 _ _ (.cells #[.int .i64 0, .int .i64 0] 48) (.cells #[.int .i64 (appV m x y).1, .int .i64 (appV m x y).2] 48) (by kernel_rfl) (by kernel_rfl) rfl rfl (fun _ _ => by kernel_rfl) ?_
  simp only [List.take_succ_cons, List.take_zero, List.drop_succ_cons, List.drop_zero]
  repeat (refine wpSteady_step (fun K hK => ?_); go_simp; first | (refine hK _ ?_; clear hK K) | (apply Exists.intro; refine ⟨fun _ => ?_, hK _ ?_⟩; (first | (go_at_call 17; with_reducible exact keeps_of (HT _)) | (go_at_call 32; with_reducible exact keeps_of (toPt_any _ _ _)) | (go_at_call 33; with_reducible exact keeps_of (HI _))); clear hK K))
  refine wpSteady_nil ?_
  refine ⟨?_, ?_⟩
  · intro gy w1 _ hx
    have hk := cell_blk hx
    have hf := frozen_blk hx
    exact ⟨(World.setCell (World.setCell w1 ⟨gy, 0, none⟩ (.int .i64 (appV m x y).1)) ⟨gy, 1, none⟩ (.int .i64 (appV m x y).2)), (by simp [go_sem, hk, hf]), (heap_set (heap_set hx 0 _) 1 _), (only_set ((only_set (only_refl w1 gy) 0 _)) 1 _)⟩
  intro gy w1 hgy hly hb1 hx
  have hky := cell_blk hx
  have hfy := frozen_blk hx
  clear hx
  try simp at hgy
  obtain ⟨hc1, hf1⟩ := bcell hb1
  have hw1 : Below w.heap.size w w1 := bl_call (by repeat (first | exact Below.refl _ _ | assumption | (refine bl_alloc ?_ (Nat.le_refl _) _) | (refine bl_set ?_ (by simp <;> omega) _))) hb1
  have hz1 : w.heap.size + 2 ≤ w1.heap.size := (by have hq := hb1.size; have hr := hw1.size; (try simp at hq); omega)
  have hza : w.heap.size < w1.heap.size := (by omega)
  have hzb : w.heap.size + 1 < w1.heap.size := (by omega)
  go_wp2_with (go_at_call 34; (with_reducible refine (eqPt_any _ _ _ _ _).mono ?_); rintro e w1 ⟨rfl, hb1⟩; obtain ⟨hc1, hf1⟩ := bcell hb1; have hw1 : Below w.heap.size w w1 := bl_call (by repeat (first | exact Below.refl _ _ | assumption | (refine bl_alloc ?_ (Nat.le_refl _) _) | (refine bl_set ?_ (by simp <;> omega) _))) hb1; have hz1 : w.heap.size + 2 ≤ w1.heap.size := (by have hq := hb1.size; have hr := hw1.size; (try simp at hq); omega); have hza : w.heap.size < w1.heap.size := (by omega); have hzb : w.heap.size + 1 < w1.heap.size := (by omega); have hz4 := hb1.size; (try simp at hz4); (try have hz5 := Nat.lt_of_succ_le hz4))
  go_ret
  exact ⟨rfl, (by repeat (first | exact Below.refl _ _ | assumption | (refine bl_alloc ?_ (Nat.le_refl _) _) | (refine bl_set ?_ (by simp <;> omega) _)))⟩
end Go.Proofs.Ytickgkfgmbaalaa
