/-
  CONTRACT of impl.ThenMap. Conditions: integers of 64 bits.
-/
import Derived.Test.YtickgkfgmbaalaaDoorMapJ
namespace Go.Proofs.YtickgkfgmbaalaaDoor
open Go.RowKit Go.Sort
set_option linter.unusedVariables false
attribute [local go_sem] cell_grow frozen_grow
attribute [local go_sem] Oper.quietAt Oper.quietUpon
def tA1 (a b : Af) : Bool := dotG b.xx a.xx b.xy a.yx
def tA2 (a b : Af) : Bool := tA1 a b && dotG b.xx a.xy b.xy a.yy
def tA3 (a b : Af) : Bool := tA2 a b && dotG b.yx a.xx b.yy a.yx
def tA4 (a b : Af) : Bool := tA3 a b && dotG b.yx a.xy b.yy a.yy
def tB5 (a b : Af) : Bool := tA4 a b && dotG b.xx a.dx b.xy a.dy
def tA5 (a b : Af) : Bool := tA4 a b && movG b.xx a.dx b.xy a.dy b.dx
def tB6 (a b : Af) : Bool := tA5 a b && dotG b.yx a.dx b.yy a.dy
def tA6 (a b : Af) : Bool := tA5 a b && movG b.yx a.dx b.yy a.dy b.dy
theorem tA6_G (a b : Af) : tA6 a b = thenG a b := rfl
/-- whether the two maps are valid; what comes out -/
def thO (a b : Af) : Bool := okAf a && okAf b
def thA (a b : Af) : Af := if thO a b && tA6 a b then thenF a b else zeroA
def thC (a b : Af) : Int := if thO a b then bI (tA6 a b) else 1
theorem thd (bw : Nat) (al al' : Bool) (p q r s : F2) (hal : al' = (al && dotG p q r s)) (hp : okF p = true) (hq : okF q = true) (hr : okF r = true) (hs : okF s = true) (w : World) (hlt : bw < w.heap.size) (hst : w.heap[bw]? = some (fwO (bI al))) :
    Calls Tryd.prog 34 #[.pointer (some ⟨bw, 0, none⟩), .agg #[.int .i64 p.1, .int .i64 p.2], .agg #[.int .i64 q.1, .int .i64 q.2], .agg #[.int .i64 r.1, .int .i64 r.2], .agg #[.int .i64 s.1, .int .i64 s.2]] w
      fun e w' => e = .returned (.agg #[.int .i64 (cnd al' (dotF p q r s).1), .int .i64 (cnd al' (dotF p q r s).2)]) ∧ Leaves bw (fwO (bI al')) w w' := by
  subst hal
  exact dot_any bw al p q r s hp hq hr hs w hlt hst
theorem thm (bw : Nat) (al alB al' : Bool) (p q r s t : F2) (hB : alB = (al && dotG p q r s)) (hal : al' = (al && movG p q r s t)) (hp : okF p = true) (hq : okF q = true) (hr : okF r = true) (hs : okF s = true) (ht : okF t = true) (w : World) (hlt : bw < w.heap.size) (hst : w.heap[bw]? = some (fwO (bI alB))) :
    Calls Tryd.prog 31 #[.pointer (some ⟨bw, 0, none⟩), .func (.func 36) #[] #[], .agg #[.int .i64 (cnd alB (dotF p q r s).1), .int .i64 (cnd alB (dotF p q r s).2)], .agg #[.int .i64 t.1, .int .i64 t.2]] w
      fun e w' => e = .returned (.agg #[.int .i64 (cnd al' (movF p q r s t).1), .int .i64 (cnd al' (movF p q r s t).2)]) ∧ Leaves bw (fwO (bI al')) w w' := by
  subst hB hal
  exact two_mov p q r s t hp hq hr hs ht al bw w hlt hst
attribute [local go_sem] wk_cell wk_frozen chAt chUpon
set_option maxRecDepth 100000 in
set_option maxHeartbeats 16000000 in
theorem then_i (a b : Af) (ha : AfIn a) (hb : AfIn b) (w : World) : Calls Tryd.prog 11 #[afV a, afV b] w fun e w' => e = .returned (.tuple #[afV (thA a b), .int .i64 (thC a b)]) ∧ Below w.heap.size w w' := by
  have HVA := validAffine_i a ha
  have HVB := validAffine_i b hb
  simp only [afV, affV] at HVA HVB ⊢
  cases h1 : okAf a
  · have HA := hide (show thA a b = zeroA by unfold thA thO; rw [h1]; rfl)
    have HC := hide (show thC a b = 1 by unfold thC thO; rw [h1]; rfl)
    go_enter Tryd.func11, Tryd.ntmps11
    go_wp2_with (first | (go_at_call 35; (with_reducible refine (HVA _).mono ?_); rintro e w1 ⟨rfl, hb1⟩; obtain ⟨hc1, hf1⟩ := bcell hb1; have hw1 : Below w.heap.size w w1 := bl_call (by repeat (first | exact Below.refl _ _ | assumption | (refine bl_alloc ?_ (Nat.le_refl _) _) | (refine bl_set ?_ (by simp <;> omega) _))) hb1; have hz1 : w.heap.size + 3 ≤ w1.heap.size := (by have hq := hb1.size; have hr := hw1.size; (try simp at hq); omega); have hza : w.heap.size < w1.heap.size := (by omega); have hzb : w.heap.size + 1 < w1.heap.size := (by omega); have hzc : w.heap.size + 1 + 1 < w1.heap.size := (by omega); have hz4 := hb1.size; (try simp at hz4); (try have hz5 := Nat.lt_of_succ_le hz4)) | (go_at_call 35; (with_reducible refine (HVB _).mono ?_); rintro e w1 ⟨rfl, hb1⟩; obtain ⟨hc1, hf1⟩ := bcell hb1; have hw1 : Below w.heap.size w w1 := bl_call (by repeat (first | exact Below.refl _ _ | assumption | (refine bl_alloc ?_ (Nat.le_refl _) _) | (refine bl_set ?_ (by simp <;> omega) _))) hb1; have hz1 : w.heap.size + 3 ≤ w1.heap.size := (by have hq := hb1.size; have hr := hw1.size; (try simp at hq); omega); have hza : w.heap.size < w1.heap.size := (by omega); have hzb : w.heap.size + 1 < w1.heap.size := (by omega); have hzc : w.heap.size + 1 + 1 < w1.heap.size := (by omega); have hz4 := hb1.size; (try simp at hz4); (try have hz5 := Nat.lt_of_succ_le hz4)))
    refine bodyPost_ret (v := .tuple #[afV (thA a b), .int .i64 (thC a b)]) ?_ rfl ⟨rfl, (by repeat (first | (with_reducible refine bl_set ?_ (by simp <;> omega) _) | (with_reducible refine bl_alloc ?_ (Nat.le_refl _) _) | (with_reducible refine Below.drew ?_) | (with_reducible assumption) | (with_reducible exact Below.refl _ _)))⟩
    rw [HA.out, HC.out]; simp (maxDischargeDepth := 9) [results, Tryd.results11, go_sem, afV, affV, zeroA, *]
  cases h2 : okAf b
  · have HA := hide (show thA a b = zeroA by unfold thA thO; rw [h1, h2]; rfl)
    have HC := hide (show thC a b = 1 by unfold thC thO; rw [h1, h2]; rfl)
    go_enter Tryd.func11, Tryd.ntmps11
    go_wp2_with (first | (go_at_call 35; (with_reducible refine (HVA _).mono ?_); rintro e w1 ⟨rfl, hb1⟩; obtain ⟨hc1, hf1⟩ := bcell hb1; have hw1 : Below w.heap.size w w1 := bl_call (by repeat (first | exact Below.refl _ _ | assumption | (refine bl_alloc ?_ (Nat.le_refl _) _) | (refine bl_set ?_ (by simp <;> omega) _))) hb1; have hz1 : w.heap.size + 3 ≤ w1.heap.size := (by have hq := hb1.size; have hr := hw1.size; (try simp at hq); omega); have hza : w.heap.size < w1.heap.size := (by omega); have hzb : w.heap.size + 1 < w1.heap.size := (by omega); have hzc : w.heap.size + 1 + 1 < w1.heap.size := (by omega); have hz4 := hb1.size; (try simp at hz4); (try have hz5 := Nat.lt_of_succ_le hz4)) | (go_at_call 35; (with_reducible refine (HVB _).mono ?_); rintro e w1 ⟨rfl, hb1⟩; obtain ⟨hc1, hf1⟩ := bcell hb1; have hw1 : Below w.heap.size w w1 := bl_call (by repeat (first | exact Below.refl _ _ | assumption | (refine bl_alloc ?_ (Nat.le_refl _) _) | (refine bl_set ?_ (by simp <;> omega) _))) hb1; have hz1 : w.heap.size + 3 ≤ w1.heap.size := (by have hq := hb1.size; have hr := hw1.size; (try simp at hq); omega); have hza : w.heap.size < w1.heap.size := (by omega); have hzb : w.heap.size + 1 < w1.heap.size := (by omega); have hzc : w.heap.size + 1 + 1 < w1.heap.size := (by omega); have hz4 := hb1.size; (try simp at hz4); (try have hz5 := Nat.lt_of_succ_le hz4)))
    refine bodyPost_ret (v := .tuple #[afV (thA a b), .int .i64 (thC a b)]) ?_ rfl ⟨rfl, (by repeat (first | (with_reducible refine bl_set ?_ (by simp <;> omega) _) | (with_reducible refine bl_alloc ?_ (Nat.le_refl _) _) | (with_reducible refine Below.drew ?_) | (with_reducible assumption) | (with_reducible exact Below.refl _ _)))⟩
    rw [HA.out, HC.out]; simp (maxDischargeDepth := 9) [results, Tryd.results11, go_sem, afV, affV, zeroA, *]
  have HO := hide (show thO a b = true by unfold thO; rw [h1, h2]; rfl)
  obtain ⟨a0, a1, a2, a3, a4, a5⟩ := okAf_t h1
  obtain ⟨b0, b1, b2, b3, b4, b5⟩ := okAf_t h2
  have HD1 := fun bw => thd bw (true) (tA1 a b) b.xx a.xx b.xy a.yx (Bool.true_and _).symm b0 a0 b1 a2
  have HD2 := fun bw => thd bw (tA1 a b) (tA2 a b) b.xx a.xy b.xy a.yy rfl b0 a1 b1 a3
  have HD3 := fun bw => thd bw (tA2 a b) (tA3 a b) b.yx a.xx b.yy a.yx rfl b2 a0 b3 a2
  have HD4 := fun bw => thd bw (tA3 a b) (tA4 a b) b.yx a.xy b.yy a.yy rfl b2 a1 b3 a3
  have HD5 := fun bw => thd bw (tA4 a b) (tB5 a b) b.xx a.dx b.xy a.dy rfl b0 a4 b1 a5
  have HD6 := fun bw => thd bw (tA5 a b) (tB6 a b) b.yx a.dx b.yy a.dy rfl b2 a4 b3 a5
  have HM5 := fun bw => thm bw (tA4 a b) (tB5 a b) (tA5 a b) b.xx a.dx b.xy a.dy b.dx rfl rfl b0 a4 b1 a5 b4
  have HM6 := fun bw => thm bw (tA5 a b) (tB6 a b) (tA6 a b) b.yx a.dx b.yy a.dy b.dy rfl rfl b2 a4 b3 a5 b5
  go_enter Tryd.func11, Tryd.ntmps11
  go_wp2_with (first | (go_at_call 35; (with_reducible refine (HVA _).mono ?_); rintro e w1 ⟨rfl, hb1⟩; obtain ⟨hc1, hf1⟩ := bcell hb1; have hw1 : Below w.heap.size w w1 := bl_call (by repeat (first | exact Below.refl _ _ | assumption | (refine bl_alloc ?_ (Nat.le_refl _) _) | (refine bl_set ?_ (by simp <;> omega) _))) hb1; have hz1 : w.heap.size + 3 ≤ w1.heap.size := (by have hq := hb1.size; have hr := hw1.size; (try simp at hq); omega); have hza : w.heap.size < w1.heap.size := (by omega); have hzb : w.heap.size + 1 < w1.heap.size := (by omega); have hzc : w.heap.size + 1 + 1 < w1.heap.size := (by omega); have hz4 := hb1.size; (try simp at hz4); (try have hz5 := Nat.lt_of_succ_le hz4); obtain ⟨wA, rfl⟩ : ∃ wA : World, wA = w1 := ⟨_, rfl⟩) | (go_at_call 35; (with_reducible refine (HVB _).mono ?_); rintro e w1 ⟨rfl, hb1⟩; obtain ⟨hc1, hf1⟩ := bcell hb1; have hw1 : Below w.heap.size w w1 := bl_call (by repeat (first | exact Below.refl _ _ | assumption | (refine bl_alloc ?_ (Nat.le_refl _) _) | (refine bl_set ?_ (by simp <;> omega) _))) hb1; have hz1 : w.heap.size + 3 ≤ w1.heap.size := (by have hq := hb1.size; have hr := hw1.size; (try simp at hq); omega); have hza : w.heap.size < w1.heap.size := (by omega); have hzb : w.heap.size + 1 < w1.heap.size := (by omega); have hzc : w.heap.size + 1 + 1 < w1.heap.size := (by omega); have hz4 := hb1.size; (try simp at hz4); (try have hz5 := Nat.lt_of_succ_le hz4); (try have hzxwA : wA.heap.size < w1.heap.size := (by omega)); obtain ⟨wV, rfl⟩ : ∃ wV : World, wV = w1 := ⟨_, rfl⟩))
  have n1 : ¬ w.heap.size = wV.heap.size := by omega
  have n2 : ¬ w.heap.size + 1 = wV.heap.size := by omega
  have n3 : ¬ w.heap.size + 1 + 1 = wV.heap.size := by omega
  have n4 : w.heap.size < wV.heap.size + 1 := by omega
  have n5 : w.heap.size + 1 < wV.heap.size + 1 := by omega
  have n6 : w.heap.size < wA.heap.size := by omega
  have n7 : w.heap.size + 1 < wA.heap.size := by omega
  refine wp_region_chain_made 69 [9, 19, 29, 39, 50, 53, 64, 67] wV.heap.size fwO (bI true) _ _ (afO 0 0 0 0 0 0 0 0 0 0 0 0) (afO (cnd (tA1 a b) (dotF b.xx a.xx b.xy a.yx).1) (cnd (tA1 a b) (dotF b.xx a.xx b.xy a.yx).2) (cnd (tA2 a b) (dotF b.xx a.xy b.xy a.yy).1) (cnd (tA2 a b) (dotF b.xx a.xy b.xy a.yy).2) (cnd (tA3 a b) (dotF b.yx a.xx b.yy a.yx).1) (cnd (tA3 a b) (dotF b.yx a.xx b.yy a.yx).2) (cnd (tA4 a b) (dotF b.yx a.xy b.yy a.yy).1) (cnd (tA4 a b) (dotF b.yx a.xy b.yy a.yy).2) (cnd (tA5 a b) (movF b.xx a.dx b.xy a.dy b.dx).1) (cnd (tA5 a b) (movF b.xx a.dx b.xy a.dy b.dx).2) (cnd (tA6 a b) (movF b.yx a.dx b.yy a.dy b.dy).1) (cnd (tA6 a b) (movF b.yx a.dx b.yy a.dy b.dy).2)) (by kernel_rfl) (by kernel_rfl) (by kernel_rfl) rfl rfl (fun _ _ => by kernel_rfl) (by simp) (heap_alloc_new _ _) ?_
  intro hW
  simp only [List.append, List.take_succ_cons, List.take_zero, List.drop_succ_cons, List.drop_zero]
  iterate 9 (refine wpCh_step rfl (fun K hK => ?_); go_simp; refine hK _ _ ?_; clear hK K)
  (refine wpCh_call rfl rfl (fun K hK => ?_); go_simp; apply Exists.intro; apply Exists.intro; apply And.intro)
  · intro p; go_at_call 34; with_reducible exact HD1 _ _ (Nat.lt_of_lt_of_le hW (wk_size _ _ _ _)) (wk_at hW)
  apply hK; clear hK K
  iterate 9 (refine wpCh_step rfl (fun K hK => ?_); go_simp; refine hK _ _ ?_; clear hK K)
  (refine wpCh_call rfl rfl (fun K hK => ?_); go_simp; apply Exists.intro; apply Exists.intro; apply And.intro)
  · intro p; go_at_call 34; with_reducible exact HD2 _ _ (Nat.lt_of_lt_of_le hW (wk_size _ _ _ _)) (wk_at hW)
  apply hK; clear hK K
  iterate 9 (refine wpCh_step rfl (fun K hK => ?_); go_simp; refine hK _ _ ?_; clear hK K)
  (refine wpCh_call rfl rfl (fun K hK => ?_); go_simp; apply Exists.intro; apply Exists.intro; apply And.intro)
  · intro p; go_at_call 34; with_reducible exact HD3 _ _ (Nat.lt_of_lt_of_le hW (wk_size _ _ _ _)) (wk_at hW)
  apply hK; clear hK K
  iterate 9 (refine wpCh_step rfl (fun K hK => ?_); go_simp; refine hK _ _ ?_; clear hK K)
  (refine wpCh_call rfl rfl (fun K hK => ?_); go_simp; apply Exists.intro; apply Exists.intro; apply And.intro)
  · intro p; go_at_call 34; with_reducible exact HD4 _ _ (Nat.lt_of_lt_of_le hW (wk_size _ _ _ _)) (wk_at hW)
  apply hK; clear hK K
  iterate 10 (refine wpCh_step rfl (fun K hK => ?_); go_simp; refine hK _ _ ?_; clear hK K)
  (refine wpCh_call rfl rfl (fun K hK => ?_); go_simp; apply Exists.intro; apply Exists.intro; apply And.intro)
  · intro p; go_at_call 34; with_reducible exact HD5 _ _ (Nat.lt_of_lt_of_le hW (wk_size _ _ _ _)) (wk_at hW)
  apply hK; clear hK K
  iterate 2 (refine wpCh_step rfl (fun K hK => ?_); go_simp; refine hK _ _ ?_; clear hK K)
  (refine wpCh_call rfl rfl (fun K hK => ?_); go_simp; apply Exists.intro; apply Exists.intro; apply And.intro)
  · intro p; go_at_call 31; with_reducible exact HM5 _ _ (Nat.lt_of_lt_of_le hW (wk_size _ _ _ _)) (wk_at hW)
  apply hK; clear hK K
  iterate 10 (refine wpCh_step rfl (fun K hK => ?_); go_simp; refine hK _ _ ?_; clear hK K)
  (refine wpCh_call rfl rfl (fun K hK => ?_); go_simp; apply Exists.intro; apply Exists.intro; apply And.intro)
  · intro p; go_at_call 34; with_reducible exact HD6 _ _ (Nat.lt_of_lt_of_le hW (wk_size _ _ _ _)) (wk_at hW)
  apply hK; clear hK K
  iterate 2 (refine wpCh_step rfl (fun K hK => ?_); go_simp; refine hK _ _ ?_; clear hK K)
  (refine wpCh_call rfl rfl (fun K hK => ?_); go_simp; apply Exists.intro; apply Exists.intro; apply And.intro)
  · intro p; go_at_call 31; with_reducible exact HM6 _ _ (Nat.lt_of_lt_of_le hW (wk_size _ _ _ _)) (wk_at hW)
  apply hK; clear hK K
  iterate 1 (refine wpCh_step rfl (fun K hK => ?_); go_simp; refine hK _ _ ?_; clear hK K)
  refine wpCh_nil ?_
  refine ⟨storeOK_row rfl (fun _ => rfl) (fun _ => rfl) (show _ = some 12 from by kernel_rfl) rfl (by simp [Value.oneCell']), ?_⟩
  intro g wF hg hl hL hx
  have hk := cell_blk hx
  have hf := frozen_blk hx
  clear hx
  obtain ⟨hcF, hfF⟩ := lcell hL
  have hsz := hL.1.size
  simp at hg hsz
  have hwF : Below w.heap.size w wF := below_leaves (by repeat (first | (with_reducible refine bl_set ?_ (by simp <;> omega) _) | (with_reducible refine bl_alloc ?_ (Nat.le_refl _) _) | (with_reducible refine Below.drew ?_) | (with_reducible assumption) | (with_reducible exact Below.refl _ _))) hL (by omega)
  have kS : wF.cell? ⟨wV.heap.size, 0, none⟩ = some (.int .i64 (bI (tA6 a b))) := (cell_of_row wF _ 0 _ _ _ hL.2).trans rfl
  clear hL hW
  have m1 : wV.heap.size < wF.heap.size := by omega
  have m2 : ¬ g = wV.heap.size := by omega
  have m3 : w.heap.size + 1 + 1 < wF.heap.size := by omega
  have m4 : ¬ w.heap.size + 1 + 1 = g := by omega
  have m5 : ¬ g = w.heap.size + 1 + 1 := by omega
  have m6 : w.heap.size + 1 + 1 < wV.heap.size := by omega
  have m7 : ¬ wV.heap.size = w.heap.size + 1 + 1 := by omega
  cases h6 : tA6 a b
  · have HA := hide (show thA a b = zeroA by unfold thA; rw [HO.out, h6]; rfl)
    have HC := hide (show thC a b = 2 by unfold thC; rw [HO.out, h6]; rfl)
    simp only [h6, bI_f] at kS
    go_wp2
    go_region
    all_goals (try go_wp2)
    all_goals
      refine bodyPost_ret (v := .tuple #[afV (thA a b), .int .i64 (thC a b)]) ?_ rfl ⟨rfl, (by repeat (first | (with_reducible refine bl_set ?_ (by simp <;> omega) _) | (with_reducible refine bl_alloc ?_ (Nat.le_refl _) _) | (with_reducible refine Below.drew ?_) | (with_reducible assumption) | (with_reducible exact Below.refl _ _)))⟩
      rw [HA.out, HC.out]; simp (maxDischargeDepth := 9) [results, Tryd.results11, go_sem, afV, affV, zeroA, *]
  · have HA := hide (show thA a b = thenF a b by unfold thA; rw [HO.out, h6]; rfl)
    have HC := hide (show thC a b = 0 by unfold thC; rw [HO.out, h6]; rfl)
    have e5 : tA5 a b = true := and_t1 h6
    have e4 : tA4 a b = true := and_t1 e5
    have e3 : tA3 a b = true := and_t1 e4
    have e2 : tA2 a b = true := and_t1 e3
    have e1 : tA1 a b = true := and_t1 e2
    simp only [h6, bI_t] at kS
    simp only [e1, e2, e3, e4, e5, h6, cnd_t] at hk
    clear HD1 HD2 HD3 HD4 HD5 HD6 HM5 HM6
    go_wp2
    refine bodyPost_ret (v := .tuple #[afV (thA a b), .int .i64 (thC a b)]) ?_ rfl ⟨rfl, (by repeat (first | (with_reducible refine bl_set ?_ (by simp <;> omega) _) | (with_reducible refine bl_alloc ?_ (Nat.le_refl _) _) | (with_reducible refine Below.drew ?_) | (with_reducible assumption) | (with_reducible exact Below.refl _ _)))⟩
    rw [HA.out, HC.out]; simp (maxDischargeDepth := 9) [results, Tryd.results11, go_sem, afV, affV, thenF, *]
end Go.Proofs.YtickgkfgmbaalaaDoor
