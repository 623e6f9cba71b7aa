/-
  CONTRACTS of NameLinear (packages impl and spec), and the walk of the law FnExactNameLinear. Conditions: a text of at most 1048576 bytes.
-/
import Derived.Test.YthellegojnndlaaTerm
namespace Go.Proofs.Ythellegojnndlaa
open Go.RowKit Go.Sort
set_option linter.unusedVariables false
attribute [local go_sem] cell_grow frozen_grow
/-- what NameLinear yields -/
def nlT (s : ByteArray) : List T3 := if isNm s then [(s, 1, 1)] else []
def nlD (s : ByteArray) : Int := if isNm s then 1 else 0
def nlC (s : ByteArray) : Int := if isNm s then 0 else 1
/-- what a call that makes an expression leaves -/
def LinPost (w : World) (a b c : Int) (L : List T3) (e : Ending) (w' : World) : Prop := ∃ v, e = .returned (.tuple #[.agg #[.int .i64 a, .int .i64 b, v], .int .i64 c]) ∧ TermsOwn w' v L ∧ (∀ g, v.ownBlock = some g → w.heap.size ≤ g ∧ g < w'.heap.size) ∧ Below w.heap.size w w'
theorem TermsOwn.none (w : World) : TermsOwn w (.slice .none 0 0) [] := ⟨.none, 0, rfl, fun h => absurd h (by simp)⟩
theorem own_term1 (w : World) (s : ByteArray) (a b : Int) (t : TypeId) (g : Nat) (h : w.heap.size = g) : TermsOwn (w.alloc (.cells #[.string s, .int .i64 a, .int .i64 b] t)) (.slice (some ⟨g, 0, none⟩) 1 1) [(s, a, b)] := by
  subst h
  have hh := heap_alloc_new w (.cells #[.string s, .int .i64 a, .int .i64 b] t)
  refine ⟨_, 1, rfl, fun _ => ⟨w.heap.size, rfl, by simp, fun j hj => ?_, fun j => ug_frozen hh j⟩⟩
  obtain rfl : j = 0 := by simp at hj; omega
  exact ⟨(ug_cell hh _).trans rfl, (ug_cell hh _).trans rfl, (ug_cell hh _).trans rfl⟩
theorem whole_l (n : Int) (w : World) : Calls Try.prog 81 #[.int .i64 n] w fun e w' => e = .returned (.agg #[.int .i64 n, .int .i64 1]) ∧ Below w.heap.size w w' := by
  go_enter Try.func81, Try.ntmps81
  go_wp2
  refine bodyPost_ret (v := .agg #[.int .i64 n, .int .i64 1]) ?_ rfl ⟨rfl, (by repeat (first | exact Below.refl _ _ | assumption | (refine bl_alloc ?_ (Nat.le_refl _) _) | (refine bl_set ?_ (by simp <;> omega) _)))⟩
  simp [results, Try.results81, go_sem, *]
set_option maxRecDepth 100000 in
set_option maxHeartbeats 4000000 in
theorem nameLinear_i (s : ByteArray) (hm : s.size ≤ maxLen) (w : World) : Calls Try.prog 34 #[.string s] w (LinPost w 0 (nlD s) (nlC s) (nlT s)) := by
  have HN := isName_i s hm
  cases h : isNm s
  · have hD := hide (show nlD s = 0 by unfold nlD; rw [h]; rfl)
    have hC := hide (show nlC s = 1 by unfold nlC; rw [h]; rfl)
    have hT := hide (show nlT s = [] by unfold nlT; rw [h]; rfl)
    rw [h] at HN
    go_enter Try.func34, Try.ntmps34
    go_wp2_with (first | (go_at_call 80; (with_reducible refine (HN _).mono ?_); rintro e w1 ⟨rfl, rfl⟩))
    refine bodyPost_ret (v := .tuple #[.agg #[.int .i64 0, .int .i64 (nlD s), .slice none 0 0], .int .i64 (nlC s)]) ?_ rfl ⟨_, rfl, by rw [hT.out]; exact TermsOwn.none _, fun g hg => by simp [Value.ownBlock] at hg, (by repeat (first | exact Below.refl _ _ | assumption | (refine bl_alloc ?_ (Nat.le_refl _) _) | (refine bl_set ?_ (by simp <;> omega) _)))⟩
    rw [hD.out, hC.out]; simp [results, Try.results34, go_sem, *]
  · have hD := hide (show nlD s = 1 by unfold nlD; rw [h]; rfl)
    have hC := hide (show nlC s = 0 by unfold nlC; rw [h]; rfl)
    have hT := hide (show nlT s = [(s, 1, 1)] by unfold nlT; rw [h]; rfl)
    rw [h] at HN
    go_enter Try.func34, Try.ntmps34
    go_wp2_with (first | (go_at_call 80; (with_reducible refine (HN _).mono ?_); rintro e w1 ⟨rfl, rfl⟩) | (go_at_call 81; (with_reducible refine (whole_l _ _).mono ?_); rintro e w1 ⟨rfl, hb1⟩; obtain ⟨hc1, hf1⟩ := bcell hb1; have hw1 : Below w.heap.size w w1 := bl_call (by repeat (first | exact Below.refl _ _ | assumption | (refine bl_alloc ?_ (Nat.le_refl _) _) | (refine bl_set ?_ (by simp <;> omega) _))) hb1; have hz1 : w.heap.size + 1 ≤ w1.heap.size := (by have hq := hb1.size; have hr := hw1.size; (try simp at hq); omega); have hza : w.heap.size < w1.heap.size := (by omega); have hz4 := hb1.size; (try simp at hz4); (try have hz5 := Nat.lt_of_succ_le hz4)))
    refine bodyPost_ret (v := .tuple #[.agg #[.int .i64 0, .int .i64 (nlD s), .slice (some ⟨w1.heap.size, 0, none⟩) 1 1], .int .i64 (nlC s)]) ?_ rfl ⟨_, rfl, by rw [hT.out]; exact own_term1 _ _ _ _ _ _ (by simp), fun g hg => by simp [Value.ownBlock] at hg ⊢; omega, (by repeat (first | (with_reducible refine bl_set ?_ (by simp <;> omega) _) | (with_reducible refine bl_alloc ?_ (Nat.le_refl _) _) | (with_reducible refine Below.drew ?_) | (with_reducible assumption) | (with_reducible exact Below.refl _ _)))⟩
    rw [hD.out, hC.out]; simp (maxDischargeDepth := 9) [results, Try.results34, go_sem, *]
theorem one_l (w : World) : Calls Try.prog 79 #[] w fun e w' => e = .returned (.agg #[.int .i64 1, .int .i64 1]) ∧ Below w.heap.size w w' := by
  go_enter Try.func79, Try.ntmps79
  go_wp2
  refine bodyPost_ret (v := .agg #[.int .i64 1, .int .i64 1]) ?_ rfl ⟨rfl, (by repeat (first | exact Below.refl _ _ | assumption | (refine bl_alloc ?_ (Nat.le_refl _) _) | (refine bl_set ?_ (by simp <;> omega) _)))⟩
  simp [results, Try.results79, go_sem, *]
set_option maxRecDepth 100000 in
set_option maxHeartbeats 4000000 in
theorem nameLinear_s (s : ByteArray) (hm : s.size ≤ maxLen) (w : World) : Calls Try.prog 33 #[.string s] w (LinPost w 0 (nlD s) (nlC s) (nlT s)) := by
  have HN := isName_s s hm
  cases h : isNm s
  · have hD := hide (show nlD s = 0 by unfold nlD; rw [h]; rfl)
    have hC := hide (show nlC s = 1 by unfold nlC; rw [h]; rfl)
    have hT := hide (show nlT s = [] by unfold nlT; rw [h]; rfl)
    rw [h] at HN
    go_enter Try.func33, Try.ntmps33
    go_wp2_with (first | (go_at_call 78; (with_reducible refine (HN _).mono ?_); rintro e w1 ⟨rfl, rfl⟩))
    refine bodyPost_ret (v := .tuple #[.agg #[.int .i64 0, .int .i64 (nlD s), .slice none 0 0], .int .i64 (nlC s)]) ?_ rfl ⟨_, rfl, by rw [hT.out]; exact TermsOwn.none _, fun g hg => by simp [Value.ownBlock] at hg, (by repeat (first | exact Below.refl _ _ | assumption | (refine bl_alloc ?_ (Nat.le_refl _) _) | (refine bl_set ?_ (by simp <;> omega) _)))⟩
    rw [hD.out, hC.out]; simp [results, Try.results33, go_sem, *]
  · have hD := hide (show nlD s = 1 by unfold nlD; rw [h]; rfl)
    have hC := hide (show nlC s = 0 by unfold nlC; rw [h]; rfl)
    have hT := hide (show nlT s = [(s, 1, 1)] by unfold nlT; rw [h]; rfl)
    rw [h] at HN
    go_enter Try.func33, Try.ntmps33
    go_wp2_with (first | (go_at_call 78; (with_reducible refine (HN _).mono ?_); rintro e w1 ⟨rfl, rfl⟩) | (go_at_call 79; (with_reducible refine (one_l _).mono ?_); rintro e w1 ⟨rfl, hb1⟩; obtain ⟨hc1, hf1⟩ := bcell hb1; have hw1 : Below w.heap.size w w1 := bl_call (by repeat (first | exact Below.refl _ _ | assumption | (refine bl_alloc ?_ (Nat.le_refl _) _) | (refine bl_set ?_ (by simp <;> omega) _))) hb1; have hz1 : w.heap.size + 1 ≤ w1.heap.size := (by have hq := hb1.size; have hr := hw1.size; (try simp at hq); omega); have hza : w.heap.size < w1.heap.size := (by omega); have hz4 := hb1.size; (try simp at hz4); (try have hz5 := Nat.lt_of_succ_le hz4)))
    refine bodyPost_ret (v := .tuple #[.agg #[.int .i64 0, .int .i64 (nlD s), .slice (some ⟨w1.heap.size, 0, none⟩) 1 1], .int .i64 (nlC s)]) ?_ rfl ⟨_, rfl, by rw [hT.out]; exact own_term1 _ _ _ _ _ _ (by simp), fun g hg => by simp [Value.ownBlock] at hg ⊢; omega, (by repeat (first | (with_reducible refine bl_set ?_ (by simp <;> omega) _) | (with_reducible refine bl_alloc ?_ (Nat.le_refl _) _) | (with_reducible refine Below.drew ?_) | (with_reducible assumption) | (with_reducible exact Below.refl _ _)))⟩
    rw [hD.out, hC.out]; simp (maxDischargeDepth := 9) [results, Try.results33, go_sem, *]
theorem TermsOwn.form {w : World} {v : Value} {L : List T3} (h : TermsOwn w v L) : ∃ A c, v = .slice A L.length c := by
  obtain ⟨A, c, rfl, _⟩ := h
  exact ⟨A, c, rfl⟩
set_option maxRecDepth 100000 in
set_option maxHeartbeats 8000000 in
theorem fnNameLinear (s : ByteArray) (hm : s.size ≤ maxLen) (w : World) : Calls Try.prog 10 #[.string s] w fun e w' => e = .returned (.bool true) ∧ Below w.heap.size w w' := by
  by_cases hs : 1048576 < s.size
  · go_enter Try.func10, Try.ntmps10
    go_wp2
    go_ret
    exact ⟨rfl, Below.refl _ _⟩
  · have HS := nameLinear_s s hm
    have HI := nameLinear_i s hm
    have hl : (nlT s).length ≤ 2097152 := by unfold nlT; split <;> simp
    generalize nlT s = L at *
    generalize nlD s = D at *
    generalize nlC s = C at *
    go_enter Try.func10, Try.ntmps10
    go_wp2_with fail
    (with_reducible refine (HS _).mono ?_)
    rintro e w1 ⟨v1, rfl, hS1, hg1, hb1⟩
    obtain ⟨A1, c1, e1⟩ := hS1.form
    subst e1
    have z1 := hb1.size
    go_wp2_with fail
    (with_reducible refine (HI _).mono ?_)
    rintro e w2 ⟨v2, rfl, hS2, hg2, hb2⟩
    obtain ⟨A2, c2, e2⟩ := hS2.form
    subst e2
    obtain ⟨hc2, hf2⟩ := bcell hb2
    have z2 := hb2.size
    simp at z2
    have y2 : w1.heap.size < w2.heap.size := by omega
    have hE1 := eqLinear_any 0 D _ _ L (w2.alloc (.cells #[.int .i64 0, .int .i64 D, .slice A2 L.length c2] 49)) (hS2.at.later ((Below.refl _ _).alloc (Nat.le_refl _) _)) ((hS1.at.later ((Below.refl _ _).alloc (Nat.le_refl _) (.cells #[.int .i64 0, .int .i64 D, .slice A1 L.length c1] 49))).later hb2 |>.later ((Below.refl _ _).alloc (Nat.le_refl _) _)) hl
    go_wp2_with fail
    (with_reducible refine hE1.mono ?_)
    rintro e w3 ⟨rfl, hb3⟩
    have z3 := hb3.size
    simp at z3
    have o1 : w3.heap[w1.heap.size]? = some (.cells #[.int .i64 0, .int .i64 D, .slice A1 L.length c1] 49 (0, 0)) := (hb3.block _ (by simp; omega)).trans ((ug_old _ _ (by omega)).trans ((hb2.block _ (by simp)).trans (ug_new _ _ rfl)))
    have o2 : w3.heap[w2.heap.size]? = some (.cells #[.int .i64 0, .int .i64 D, .slice A2 L.length c2] 49 (0, 0)) := (hb3.block _ (by simp)).trans (ug_new _ _ rfl)
    have S2 : TermsOwn w3 (.slice A2 L.length c2) L := (hS2.later ((Below.refl _ _).alloc (Nat.le_refl _) _)).later hb3
    have S1 : TermsAt w3 (.slice A1 L.length c1) L := (((hS1.at.later ((Below.refl _ _).alloc (Nat.le_refl _) (.cells #[.int .i64 0, .int .i64 D, .slice A1 L.length c1] 49))).later hb2).later ((Below.refl _ _).alloc (Nat.le_refl _) _)).later hb3
    have b3 : Below w.heap.size w w3 := (((hb1.alloc z1 _).trans (hb2.mono (by simp; omega))).alloc (by omega) _).trans (hb3.mono (by simp; omega))
    have n2 : ∀ g, (Value.slice A2 L.length c2).ownBlock = some g → w1.heap.size < g ∧ g < w2.heap.size := fun g hg => by have := hg2 g hg; simp at this; omega
    have k1 := ug_cell o1
    have k2 := ug_cell o2
    clear hb1 hb2 hb3 hc2 hf2 hE1 hS1 hS2 hg2
    have HM : Calls Try.prog 36 #[.agg #[.int .i64 0, .int .i64 D, .slice A2 L.length c2], .int .i64 1] w3 _ := markLinear_any 0 D _ L 1 (by decide) (by decide) w3 S2 hl
    go_wp2_with fail
    (with_reducible refine HM.mono ?_)
    rintro e w4 ⟨rfl, ho, z4, q1, q2, q3, hk⟩
    have o3 : w4.heap[w1.heap.size]? = some (.cells #[.int .i64 0, .int .i64 D, .slice A1 L.length c1] 49 (0, 0)) := (hk _ (by omega) (fun e => by have := n2 _ e; omega)).trans o1
    have o4 : w4.heap[w2.heap.size]? = some (.cells #[.int .i64 0, .int .i64 D, .slice A2 L.length c2] 49 (0, 0)) := (hk _ (by omega) (fun e => by have := n2 _ e; omega)).trans o2
    have S3 : TermsAt w4 (.slice A1 L.length c1) L := S1.kept z4 (fun g hg hlt => hk g hlt (fun e => by have a := hg1 g hg; have b := n2 _ e; omega))
    have b4 : Below w.heap.size w w4 := ⟨q1.trans b3.os, q2.trans b3.tape, q3.trans b3.output, Nat.le_trans b3.size z4, fun k hk2 => (hk k (by omega) (fun e => by have := n2 _ e; omega)).trans (b3.block k hk2)⟩
    have k3 := ug_cell o3
    have k4 := ug_cell o4
    clear k1 k2 o1 o2 S1 S2 b3 HM hk q1 q2 q3
    have HH : Calls Try.prog 37 #[.agg #[.int .i64 0, .int .i64 D, .slice A2 L.length c2], .int .i64 1] w4 _ := heldLinear_any 0 D _ L.length 1 (by decide) (by decide) w4 ho hl
    go_wp2_with fail
    (with_reducible refine HH.mono ?_)
    rintro e w5 ⟨rfl, hb5⟩
    have z5 := hb5.size
    go_wp2_with fail
    (with_reducible refine (HI _).mono ?_)
    rintro e w6 ⟨v6, rfl, hS6, hg6, hb6⟩
    obtain ⟨A6, c6, e6⟩ := hS6.form
    subst e6
    have z6 := hb6.size
    have o5 : (w6.alloc (.cells #[.int .i64 0, .int .i64 D, .slice A6 L.length c6] 49)).heap[w1.heap.size]? = some (.cells #[.int .i64 0, .int .i64 D, .slice A1 L.length c1] 49 (0, 0)) := (ug_old _ _ (by omega)).trans ((hb6.block _ (by omega)).trans ((hb5.block _ (by omega)).trans o3))
    have o6 : (w6.alloc (.cells #[.int .i64 0, .int .i64 D, .slice A6 L.length c6] 49)).heap[w2.heap.size]? = some (.cells #[.int .i64 0, .int .i64 D, .slice A2 L.length c2] 49 (0, 0)) := (ug_old _ _ (by omega)).trans ((hb6.block _ (by omega)).trans ((hb5.block _ (by omega)).trans o4))
    have S6 : TermsAt (w6.alloc (.cells #[.int .i64 0, .int .i64 D, .slice A6 L.length c6] 49)) (.slice A1 L.length c1) L := ((S3.later hb5).later hb6).later ((Below.refl _ _).alloc (Nat.le_refl _) _)
    have hE2 := eqLinear_any 0 D _ _ L (w6.alloc (.cells #[.int .i64 0, .int .i64 D, .slice A6 L.length c6] 49)) (hS6.at.later ((Below.refl _ _).alloc (Nat.le_refl _) _)) S6 hl
    have k5 := ug_cell o5
    have k6 := ug_cell o6
    go_wp2_with fail
    (with_reducible refine hE2.mono ?_)
    rintro e w7 ⟨rfl, hb7⟩
    have z7 := hb7.size
    simp at z7
    have o8 : w7.heap[w2.heap.size]? = some (.cells #[.int .i64 0, .int .i64 D, .slice A2 L.length c2] 49 (0, 0)) := (hb7.block _ (by simp; omega)).trans o6
    have k8 := ug_cell o8
    have HH2 : Calls Try.prog 37 #[.agg #[.int .i64 0, .int .i64 D, .slice A2 L.length c2], .int .i64 1] w7 _ := heldLinear_any 0 D _ L.length 1 (by decide) (by decide) w7 ((((ho.later hb5).later hb6).later ((Below.refl _ _).alloc (Nat.le_refl _) _)).later hb7) hl
    have b7 : Below w.heap.size w w7 := (((b4.trans (hb5.mono (by omega))).trans (hb6.mono (by omega))).alloc (by omega) _).trans (hb7.mono (by simp; omega))
    clear k5 k6 o5 o6 S6 S3 hE2 HH o3 o4 k3 k4
    go_wp2_with fail
    (with_reducible refine HH2.mono ?_)
    rintro e w8 ⟨rfl, hb8⟩
    go_wp2
    go_ret
    exact ⟨rfl, b7.trans (hb8.mono (by omega))⟩
end Go.Proofs.Ythellegojnndlaa
