/-
  CONTRACTS of ValidSystem (packages impl and spec) and of l05System, l05Ok behind a pointer into a row. Conditions: what the slices hold.
-/
import Derived.Test.YthojgmhionekbaaSysC
import Derived.Test.YthojgmhionekbaaLinW
import Derived.BigRegion
namespace Go.Proofs.Ythojgmhionekbaa
open Go.RowKit Go.Sort
set_option linter.unusedVariables false
attribute [local go_sem] cell_grow frozen_grow
/-- what makes a system valid -/
def rowOk (r : R4) : Bool := isNm r.1 && linOk r.2.1 r.2.2.1 r.2.2.2
def ordR (R : List R4) : Nat → Bool
  | 0 => true
  | k + 1 => lessB (R.getD k r4d).1 (R.getD (k + 1) r4d).1
def rowsOk (R : List R4) (n : Nat) : Bool := allN (fun k => rowOk (R.getD k r4d) && ordR R k) n
def freeT (R : List R4) (L : List T3) (n : Nat) : Bool := allN (fun j => decide (fdR R (L.getD j t3d).1 < 0)) n
def freeR (R : List R4) (n : Nat) : Bool := allN (fun k => freeT R (R.getD k r4d).2.2.2 (R.getD k r4d).2.2.2.length) n
def sysOk (R : List R4) : Bool := decide (R.length ≤ 24) && rowsOk R R.length && freeR R R.length
theorem rows_bad {R : List R4} {k : Nat} (hk : k < R.length) (h : (rowOk (R.getD k r4d) && ordR R k) = false) : sysOk R = false := by
  unfold sysOk rowsOk
  rw [allN_f (p := fun k => rowOk (R.getD k r4d) && ordR R k) h _ hk, Bool.and_false, Bool.false_and]
theorem free_bad {R : List R4} {k j : Nat} (hk : k < R.length) (hj : j < (R.getD k r4d).2.2.2.length) (h : ¬ fdR R ((R.getD k r4d).2.2.2.getD j t3d).1 < 0) : sysOk R = false := by
  unfold sysOk freeR
  have e : freeT R (R.getD k r4d).2.2.2 (R.getD k r4d).2.2.2.length = false := by
    unfold freeT
    exact allN_f (p := fun j => decide (fdR R ((R.getD k r4d).2.2.2.getD j t3d).1 < 0)) (decide_eq_false h) _ hj
  rw [allN_f (p := fun k => freeT R (R.getD k r4d).2.2.2 (R.getD k r4d).2.2.2.length) e _ hk, Bool.and_false]
theorem rows_s {R : List R4} {k : Nat} (h0 : rowsOk R k = true) (h : (rowOk (R.getD k r4d) && ordR R k) = true) : rowsOk R (k + 1) = true := by
  unfold rowsOk at *
  rw [allN, h0, h]; rfl
theorem freeT_s {R : List R4} {L : List T3} {k : Nat} (h0 : freeT R L k = true) (h : fdR R (L.getD k t3d).1 < 0) : freeT R L (k + 1) = true := by
  unfold freeT at *
  rw [allN, h0, decide_eq_true h]; rfl
theorem freeR_s {R : List R4} {k : Nat} (h0 : freeR R k = true) (h : freeT R (R.getD k r4d).2.2.2 (R.getD k r4d).2.2.2.length = true) : freeR R (k + 1) = true := by
  unfold freeR at *
  rw [allN, h0, h]; rfl
theorem allN_each {p : Nat → Bool} : ∀ {n : Nat}, allN p n = true → ∀ k, k < n → p k = true
  | 0, _ => fun k hk => by omega
  | n + 1, h => fun k hk => by
    rw [allN, Bool.and_eq_true] at h
    by_cases e : k = n
    · rw [e]; exact h.2
    · exact allN_each h.1 k (by omega)
theorem rises_of {R : List R4} (h : rowsOk R R.length = true) : Rises R := by
  have h1 : ∀ k, k + 1 < R.length → lessB (R.getD k r4d).1 (R.getD (k + 1) r4d).1 = true := by
    intro k hk
    have := allN_each h (k + 1) hk
    rw [Bool.and_eq_true] at this
    exact this.2
  intro i j hij
  obtain ⟨d, rfl⟩ : ∃ d, j = i + 1 + d := ⟨j - (i + 1), by omega⟩
  clear hij
  induction d with
  | zero => exact fun hj => h1 i hj
  | succ d ih => exact fun hj => lessB_trans (ih (by omega)) (h1 (i + 1 + d) hj)
theorem sys_end {R : List R4} (h1 : rowsOk R R.length = true) (h2 : freeR R R.length = true) : sysOk R = decide (R.length ≤ 24) := by
  unfold sysOk
  rw [h1, h2, Bool.and_true, Bool.and_true]
set_option maxRecDepth 100000 in
set_option maxHeartbeats 16000000 in
theorem l05Ok_p (a b : Int) (ha : -9223372036854775808 ≤ a ∧ a ≤ 9223372036854775807) (x : Value) (L : List T3) (hB : LinB L) (w : World) (hx : TermsAt w x L) (P Q : Nat) (hP : P < w.heap.size) (hp0 : w.cell? ⟨P, Q, none⟩ = some (.int .i64 a)) (hp1 : w.cell? ⟨P, Q + 1, none⟩ = some (.int .i64 b)) (hp2 : w.cell? ⟨P, Q + 2, none⟩ = some x) : Calls Try.prog 38 #[.pointer (some ⟨P, Q, none⟩)] w fun e w' => e = .returned (.bool (linOk a b L)) ∧ Below w.heap.size w w' := by
  have HVF := l02Ok_any a b ha.1 ha.2
  obtain ⟨A, ca, rfl, hA⟩ := hx
  obtain ⟨hn0, hE⟩ := hB
  simp only [maxLen] at hn0
  cases h1 : okFr a b
  · have HR := hide (show linOk a b L = false by unfold linOk; rw [h1]; rfl)
    rw [h1] at HVF
    clear h1
    go_enter Try.func38, Try.ntmps38
    go_wp2_with (first | (go_at_call 46; (with_reducible refine (HVF _).mono ?_); rintro e w1 ⟨rfl, hb1⟩; obtain ⟨hc1, hf1⟩ := bcell hb1; have hw1 : Below w.heap.size w w1 := bl_call (by repeat (first | exact Below.refl _ _ | assumption | (refine bl_alloc ?_ (Nat.le_refl _) _) | (refine bl_set ?_ (by simp <;> omega) _))) hb1; have hz1 : w.heap.size + 0 ≤ w1.heap.size := (by have hq := hb1.size; have hr := hw1.size; (try simp at hq); omega); have hz4 := hb1.size; (try simp at hz4); (try have hz5 := Nat.lt_of_succ_le hz4)))
    go_ret
    exact ⟨by rw [HR.out]; rfl, (by repeat (first | exact Below.refl _ _ | assumption | (refine bl_alloc ?_ (Nat.le_refl _) _) | (refine bl_set ?_ (by simp <;> omega) _)))⟩
  rw [h1] at HVF
  by_cases h2 : 12 < L.length
  · have HR := hide (show linOk a b L = false by unfold linOk; rw [decide_eq_false (by omega)]; simp)
    clear h1
    go_enter Try.func38, Try.ntmps38
    go_wp2_with (first | (go_at_call 46; (with_reducible refine (HVF _).mono ?_); rintro e w1 ⟨rfl, hb1⟩; obtain ⟨hc1, hf1⟩ := bcell hb1; have hw1 : Below w.heap.size w w1 := bl_call (by repeat (first | exact Below.refl _ _ | assumption | (refine bl_alloc ?_ (Nat.le_refl _) _) | (refine bl_set ?_ (by simp <;> omega) _))) hb1; have hz1 : w.heap.size + 0 ≤ w1.heap.size := (by have hq := hb1.size; have hr := hw1.size; (try simp at hq); omega); have hz4 := hb1.size; (try simp at hz4); (try have hz5 := Nat.lt_of_succ_le hz4)))
    go_ret
    exact ⟨by rw [HR.out]; rfl, (by repeat (first | exact Below.refl _ _ | assumption | (refine bl_alloc ?_ (Nat.le_refl _) _) | (refine bl_set ?_ (by simp <;> omega) _)))⟩
  have HL := hide (show linOk a b L = linOkL L L.length by unfold linOk; rw [h1, decide_eq_true (by omega)]; rfl)
  have HBAD := hide (fun (k : Nat) (hk : k < L.length) (h : (tmOk (L.getD k t3d) && ordOk L k) = false) => linOk_bad (a := a) (b := b) hk h)
  have hn12 : L.length ≤ 12 := by omega
  generalize hn : L.length = n at *
  clear h1
  go_enter Try.func38, Try.ntmps38
  go_wp2_with (first | (go_at_call 46; (with_reducible refine (HVF _).mono ?_); rintro e w1 ⟨rfl, hb1⟩; obtain ⟨hc1, hf1⟩ := bcell hb1; have hw1 : Below w.heap.size w w1 := bl_call (by repeat (first | exact Below.refl _ _ | assumption | (refine bl_alloc ?_ (Nat.le_refl _) _) | (refine bl_set ?_ (by simp <;> omega) _))) hb1; have hz1 : w.heap.size + 0 ≤ w1.heap.size := (by have hq := hb1.size; have hr := hw1.size; (try simp at hq); omega); have hz4 := hb1.size; (try simp at hz4); (try have hz5 := Nat.lt_of_succ_le hz4); obtain ⟨wV, rfl⟩ : ∃ wV : World, wV = w1 := ⟨_, rfl⟩))
  have bV : Below w.heap.size w wV := by assumption
  have zV := bV.size
  clear hb1 hc1 hf1 hw1
  go_loopw [2, 3] (fun rv iv wr => ∃ k : Nat, k ≤ n ∧ iv = .int .i64 k ∧ rv = .bool false ∧ Below w.heap.size w wr ∧ Hid (linOkL L k = true)) (fun _ iv _ => n - (intOf iv).toNat)
  case atStart => exact ⟨0, by omega, rfl, rfl, bV, rfl⟩
  case round =>
    obtain ⟨k, hk, rfl, rfl, hbw, hok⟩ := hrel
    have hzw := hbw.size
    have hza : P < wr.heap.size := by omega
    have hza2 : P < wr.heap.size + 1 := by omega
    have bx : wr.cell? ⟨P, Q + 2, none⟩ = some (.slice A n ca) := (hbw.cell (p := ⟨P, Q + 2, none⟩) hP).trans hp2
    have HP := hide hp0
    have HP1 := hide hp1
    have HP2 := hide hp2
    clear bV hp0 hp1 hp2
    by_cases hkn : k < n
    · obtain ⟨g, o, rfl, hg, hcg⟩ := hA (by omega)
      obtain ⟨a1, a2, a3⟩ := hcg k hkn
      obtain ⟨e1, e2, e3, _, _⟩ := hE k hkn
      have c1 := (hbw.cell (p := ⟨g, o + k * 3, none⟩) hg).trans a1
      have c2 := (hbw.cell (p := ⟨g, o + k * 3 + 1, none⟩) hg).trans a2
      have c3 := (hbw.cell (p := ⟨g, o + k * 3 + 2, none⟩) hg).trans a3
      have hgr : g < wr.heap.size := by omega
      have hgr2 : g < wr.heap.size + 1 := by omega
      obtain ⟨q, hq⟩ : ∃ q, L.getD k t3d = q := ⟨_, rfl⟩
      rw [hq] at c1 c2 c3 e1 e2 e3
      have HQ := hide hq
      obtain ⟨s, n1, d1⟩ := q
      simp only at c1 c2 c3 e1 e2 e3
      have HN := isName_s s e1
      have HVq := l02Ok_any n1 d1 e2 e3
      have HE := hide hE
      have HC := hide hcg
      have HBW := hide hbw
      clear hq a1 a2 a3 hE hA hcg hbw
      cases p1 : isNm s
      · have HR := hide (HBAD.out k hkn (by rw [HQ.out]; unfold tmOk; simp [p1]))
        rw [p1] at HN
        clear p1
        go_wp2
        refine wp_region_quiet_below (by kernel_rfl) (by kernel_rfl) ?_
        repeat (first | go_big_quiet_step ((first | (go_at_call 57; with_reducible exact Calls.regrown_of (same_below (HN _))) | (go_at_call 46; with_reducible exact Calls.regrown_of (HVq _)))) | quiet_step ((first | (go_at_call 57; with_reducible exact Calls.regrown_of (same_below (HN _))) | (go_at_call 46; with_reducible exact Calls.regrown_of (HVq _)))))
        refine wpQuiet_nil ?_
        intro w1 hw1
        obtain ⟨pq, hpq⟩ := hw1
        have hb1 := below_of hpq
        clear hpq pq
        have hz4 := hb1.size
        (try simp at hz4)
        obtain ⟨hc1, hf1⟩ := bcell hb1
        have hw1 : Below w.heap.size w w1 := bl_call (by repeat (first | exact Below.refl _ _ | assumption | (refine bl_alloc ?_ (Nat.le_refl _) _) | (refine bl_set ?_ (by simp <;> omega) _))) hb1
        have hz1 : w.heap.size + 1 ≤ w1.heap.size := (by have hq := hb1.size; have hr := hw1.size; (try simp at hq); omega)
        have hza : w.heap.size < w1.heap.size := (by omega)
        go_wp2
        go_ret
        exact ⟨by rw [HR.out]; rfl, hw1⟩
      rw [p1] at HN
      cases p2 : okFr n1 d1
      · have HR := hide (HBAD.out k hkn (by rw [HQ.out]; unfold tmOk; simp [p2]))
        rw [p2] at HVq
        clear p1 p2
        go_wp2
        refine wp_region_quiet_below (by kernel_rfl) (by kernel_rfl) ?_
        repeat (first | go_big_quiet_step ((first | (go_at_call 57; with_reducible exact Calls.regrown_of (same_below (HN _))) | (go_at_call 46; with_reducible exact Calls.regrown_of (HVq _)))) | quiet_step ((first | (go_at_call 57; with_reducible exact Calls.regrown_of (same_below (HN _))) | (go_at_call 46; with_reducible exact Calls.regrown_of (HVq _)))))
        refine wpQuiet_nil ?_
        intro w1 hw1
        obtain ⟨pq, hpq⟩ := hw1
        have hb1 := below_of hpq
        clear hpq pq
        have hz4 := hb1.size
        (try simp at hz4)
        obtain ⟨hc1, hf1⟩ := bcell hb1
        have hw1 : Below w.heap.size w w1 := bl_call (by repeat (first | exact Below.refl _ _ | assumption | (refine bl_alloc ?_ (Nat.le_refl _) _) | (refine bl_set ?_ (by simp <;> omega) _))) hb1
        have hz1 : w.heap.size + 1 ≤ w1.heap.size := (by have hq := hb1.size; have hr := hw1.size; (try simp at hq); omega)
        have hza : w.heap.size < w1.heap.size := (by omega)
        go_wp2
        go_ret
        exact ⟨by rw [HR.out]; rfl, hw1⟩
      rw [p2] at HVq
      by_cases p3 : n1 = 0
      · have HR := hide (HBAD.out k hkn (by rw [HQ.out]; unfold tmOk; simp [p3]))
        clear p1 p2
        subst p3
        go_wp2
        refine wp_region_quiet_below (by kernel_rfl) (by kernel_rfl) ?_
        repeat (first | go_big_quiet_step ((first | (go_at_call 57; with_reducible exact Calls.regrown_of (same_below (HN _))) | (go_at_call 46; with_reducible exact Calls.regrown_of (HVq _)))) | quiet_step ((first | (go_at_call 57; with_reducible exact Calls.regrown_of (same_below (HN _))) | (go_at_call 46; with_reducible exact Calls.regrown_of (HVq _)))))
        refine wpQuiet_nil ?_
        intro w1 hw1
        obtain ⟨pq, hpq⟩ := hw1
        have hb1 := below_of hpq
        clear hpq pq
        have hz4 := hb1.size
        (try simp at hz4)
        obtain ⟨hc1, hf1⟩ := bcell hb1
        have hw1 : Below w.heap.size w w1 := bl_call (by repeat (first | exact Below.refl _ _ | assumption | (refine bl_alloc ?_ (Nat.le_refl _) _) | (refine bl_set ?_ (by simp <;> omega) _))) hb1
        have hz1 : w.heap.size + 1 ≤ w1.heap.size := (by have hq := hb1.size; have hr := hw1.size; (try simp at hq); omega)
        have hza : w.heap.size < w1.heap.size := (by omega)
        go_wp2
        go_ret
        exact ⟨by rw [HR.out]; rfl, hw1⟩
      have p4 : (n1 == 0) = false := by simpa using p3
      have HT := hide (show tmOk (L.getD k t3d) = true by rw [HQ.out]; unfold tmOk; simp [p1, p2, p3])
      by_cases k0 : k = 0
      · have HS := hide (linOkL_s hok.out (by rw [HT.out, k0]; rfl))
        have hm0 : decide (0 < k) = false := decide_eq_false (by omega)
        clear k0
        clear p1 p2
        go_wp2
        refine wp_region_quiet_below (by kernel_rfl) (by kernel_rfl) ?_
        repeat (first | go_big_quiet_step ((first | (go_at_call 57; with_reducible exact Calls.regrown_of (same_below (HN _))) | (go_at_call 46; with_reducible exact Calls.regrown_of (HVq _)))) | quiet_step ((first | (go_at_call 57; with_reducible exact Calls.regrown_of (same_below (HN _))) | (go_at_call 46; with_reducible exact Calls.regrown_of (HVq _)))))
        refine wpQuiet_nil ?_
        intro w1 hw1
        obtain ⟨pq, hpq⟩ := hw1
        have hb1 := below_of hpq
        clear hpq pq
        have hz4 := hb1.size
        (try simp at hz4)
        obtain ⟨hc1, hf1⟩ := bcell hb1
        have hw1 : Below w.heap.size w w1 := bl_call (by repeat (first | exact Below.refl _ _ | assumption | (refine bl_alloc ?_ (Nat.le_refl _) _) | (refine bl_set ?_ (by simp <;> omega) _))) hb1
        have hz1 : w.heap.size + 1 ≤ w1.heap.size := (by have hq := hb1.size; have hr := hw1.size; (try simp at hq); omega)
        have hza : w.heap.size < w1.heap.size := (by omega)
        go_wp2
        go_roundw
        case rel => exact ⟨k + 1, by omega, by go_num, rfl, (HBW.out.alloc (by omega) _).trans (hb1.mono (by simp; omega)), HS⟩
        case measure => simp [intOf]; omega
      · obtain ⟨m, rfl⟩ : ∃ m, k = m + 1 := ⟨k - 1, by omega⟩
        obtain ⟨b1, _, _⟩ := HC.out m (by omega)
        have d0 := (HBW.out.cell (p := ⟨g, o + m * 3, none⟩) hg).trans b1
        obtain ⟨qp, hqp⟩ : ∃ qp, (L.getD m t3d).1 = qp := ⟨_, rfl⟩
        rw [hqp] at d0
        have s1 : IntKind.i64.wrap (m : Int) = m := IntWalk.i64_in _ (by omega)
        have hm0 : 0 < ((m : Int) + 1) := by omega
        have hm1 : (m : Int) < n := by omega
        have ht := bl_total qp.toList s.toList
        cases hl : Go.Op.bytesLess qp.toList s.toList
        · have HR := hide (HBAD.out (m + 1) hkn (by rw [HT.out]; show (true && lessB (L.getD m t3d).1 (L.getD (m + 1) t3d).1) = _; unfold lessB; rw [HQ.out, hqp, hl]; rfl))
          rw [hl] at ht
          clear p1 p2 b1 hqp hl
          cases y1 : Go.Op.bytesLess s.toList qp.toList
          · have y2 : (s.toList == qp.toList) = true := by rw [y1] at ht; simpa using ht.symm
            clear ht
            go_wp2
            refine wp_region_quiet_below (by kernel_rfl) (by kernel_rfl) ?_
            repeat (first | go_big_quiet_step ((first | (go_at_call 57; with_reducible exact Calls.regrown_of (same_below (HN _))) | (go_at_call 46; with_reducible exact Calls.regrown_of (HVq _)))) | quiet_step ((first | (go_at_call 57; with_reducible exact Calls.regrown_of (same_below (HN _))) | (go_at_call 46; with_reducible exact Calls.regrown_of (HVq _)))))
            refine wpQuiet_nil ?_
            intro w1 hw1
            obtain ⟨pq, hpq⟩ := hw1
            have hb1 := below_of hpq
            clear hpq pq
            have hz4 := hb1.size
            (try simp at hz4)
            obtain ⟨hc1, hf1⟩ := bcell hb1
            have hw1 : Below w.heap.size w w1 := bl_call (by repeat (first | exact Below.refl _ _ | assumption | (refine bl_alloc ?_ (Nat.le_refl _) _) | (refine bl_set ?_ (by simp <;> omega) _))) hb1
            have hz1 : w.heap.size + 1 ≤ w1.heap.size := (by have hq := hb1.size; have hr := hw1.size; (try simp at hq); omega)
            have hza : w.heap.size < w1.heap.size := (by omega)
            go_wp2
            go_ret
            exact ⟨by rw [HR.out]; rfl, hw1⟩
          · clear ht
            go_wp2
            refine wp_region_quiet_below (by kernel_rfl) (by kernel_rfl) ?_
            repeat (first | go_big_quiet_step ((first | (go_at_call 57; with_reducible exact Calls.regrown_of (same_below (HN _))) | (go_at_call 46; with_reducible exact Calls.regrown_of (HVq _)))) | quiet_step ((first | (go_at_call 57; with_reducible exact Calls.regrown_of (same_below (HN _))) | (go_at_call 46; with_reducible exact Calls.regrown_of (HVq _)))))
            refine wpQuiet_nil ?_
            intro w1 hw1
            obtain ⟨pq, hpq⟩ := hw1
            have hb1 := below_of hpq
            clear hpq pq
            have hz4 := hb1.size
            (try simp at hz4)
            obtain ⟨hc1, hf1⟩ := bcell hb1
            have hw1 : Below w.heap.size w w1 := bl_call (by repeat (first | exact Below.refl _ _ | assumption | (refine bl_alloc ?_ (Nat.le_refl _) _) | (refine bl_set ?_ (by simp <;> omega) _))) hb1
            have hz1 : w.heap.size + 1 ≤ w1.heap.size := (by have hq := hb1.size; have hr := hw1.size; (try simp at hq); omega)
            have hza : w.heap.size < w1.heap.size := (by omega)
            go_wp2
            go_ret
            exact ⟨by rw [HR.out]; rfl, hw1⟩
        · have HS := hide (linOkL_s hok.out (by rw [HT.out]; show (true && lessB (L.getD m t3d).1 (L.getD (m + 1) t3d).1) = _; unfold lessB; rw [HQ.out, hqp, hl]; rfl))
          rw [hl] at ht
          have y1 : Go.Op.bytesLess s.toList qp.toList = false := by cases q1 : Go.Op.bytesLess s.toList qp.toList; rfl; rw [q1] at ht; cases ht
          have y2 : (s.toList == qp.toList) = false := by rw [y1] at ht; simpa using ht
          clear p1 p2 b1 hqp hl ht
          go_wp2
          refine wp_region_quiet_below (by kernel_rfl) (by kernel_rfl) ?_
          repeat (first | go_big_quiet_step ((first | (go_at_call 57; with_reducible exact Calls.regrown_of (same_below (HN _))) | (go_at_call 46; with_reducible exact Calls.regrown_of (HVq _)))) | quiet_step ((first | (go_at_call 57; with_reducible exact Calls.regrown_of (same_below (HN _))) | (go_at_call 46; with_reducible exact Calls.regrown_of (HVq _)))))
          refine wpQuiet_nil ?_
          intro w1 hw1
          obtain ⟨pq, hpq⟩ := hw1
          have hb1 := below_of hpq
          clear hpq pq
          have hz4 := hb1.size
          (try simp at hz4)
          obtain ⟨hc1, hf1⟩ := bcell hb1
          have hw1 : Below w.heap.size w w1 := bl_call (by repeat (first | exact Below.refl _ _ | assumption | (refine bl_alloc ?_ (Nat.le_refl _) _) | (refine bl_set ?_ (by simp <;> omega) _))) hb1
          have hz1 : w.heap.size + 1 ≤ w1.heap.size := (by have hq := hb1.size; have hr := hw1.size; (try simp at hq); omega)
          have hza : w.heap.size < w1.heap.size := (by omega)
          go_wp2
          go_roundw
          case rel => exact ⟨m + 1 + 1, by omega, by go_num, rfl, (HBW.out.alloc (by omega) _).trans (hb1.mono (by simp; omega)), HS⟩
          case measure => simp [intOf]; omega
    · obtain rfl : k = n := by omega
      have HBW := hide hbw
      go_wp2
      go_ret
      exact ⟨by rw [HL.out, hok.out]; rfl, HBW.out⟩
set_option maxRecDepth 100000 in
set_option maxHeartbeats 16000000 in
theorem validSystem_i (x : Value) (R : List R4) (hlen : R.length ≤ 1048576) (hB : RowsB R) (w : World) (hx : RowsAt w x R) : Calls Try.prog 28 #[.agg #[x]] w fun e w' => e = .returned (.bool (sysOk R)) ∧ Below w.heap.size w w' := by
  have HFIND := hide (fun s hr W (hW : Below w.heap.size w W) => findRow_any x R hlen s hr W (hx.later hW))
  obtain ⟨A, ca, rfl, hA⟩ := hx
  obtain ⟨hn0, hE⟩ := hB
  by_cases h2 : 24 < R.length
  · have HR := hide (show sysOk R = false by unfold sysOk; rw [decide_eq_false (by omega)]; simp)
    clear hE hA
    go_enter Try.func28, Try.ntmps28
    go_wp2
    go_ret
    exact ⟨by rw [HR.out]; rfl, (by repeat (first | exact Below.refl _ _ | assumption | (refine bl_alloc ?_ (Nat.le_refl _) _) | (refine bl_set ?_ (by simp <;> omega) _)))⟩
  have HEND := hide (fun h1 h2 => @sys_end R h1 h2)
  have HRISE := hide (fun h => @rises_of R h)
  have HBAD := hide (fun (k : Nat) (hk : k < R.length) (h : (rowOk (R.getD k r4d) && ordR R k) = false) => rows_bad hk h)
  have HBADF := hide (fun (k j : Nat) (hk : k < R.length) hj h => @free_bad R k j hk hj h)
  have HA := hide hA
  have HE := hide hE
  clear hA hE
  have hn24 : R.length ≤ 24 := by omega
  generalize hn : R.length = n at *
  go_enter Try.func28, Try.ntmps28
  go_wp2
  go_loopw [2, 18] (fun rv iv wr => ∃ k : Nat, k ≤ n ∧ iv = .int .i64 k ∧ rv = .bool false ∧ Below (w.heap.size + 1) (w.alloc (.cells #[.slice A n ca] 44)) wr ∧ Hid (rowsOk R k = true)) (fun _ iv _ => n - (intOf iv).toNat)
  case atStart => exact ⟨0, by omega, rfl, rfl, Below.refl _ _, rfl⟩
  case round =>
    obtain ⟨k, hk, rfl, rfl, hbw, hok⟩ := hrel
    have hbr : Below w.heap.size w wr := ((Below.refl _ _).alloc (Nat.le_refl _) _).trans (hbw.mono (by omega))
    have hzw := hbw.size
    simp at hzw
    have hza : w.heap.size < wr.heap.size := by omega
    by_cases hkn : k < n
    · skip
      obtain ⟨g, o, rfl, hg, hcg⟩ := HA.out (by omega)
      obtain ⟨a1, a2, a3, sv, a4, a5⟩ := hcg k hkn
      obtain ⟨e1, ea, _, eB⟩ := HE.out k (by omega)
      have c1 := (hbr.cell (p := ⟨g, o + k * 4, none⟩) hg).trans a1
      have c2 := (hbr.cell (p := ⟨g, o + k * 4 + 1, none⟩) hg).trans a2
      have c3 := (hbr.cell (p := ⟨g, o + k * 4 + 2, none⟩) hg).trans a3
      have c4 := (hbr.cell (p := ⟨g, o + k * 4 + 3, none⟩) hg).trans a4
      have bx : wr.cell? ⟨w.heap.size, 0, none⟩ = some (.slice (some ⟨g, o, none⟩) n ca) := (hbw.cell (p := ⟨w.heap.size, 0, none⟩) (by simp)).trans (by simp [go_sem])
      have hgr : g < wr.heap.size := by omega
      have hgr2 : g < wr.heap.size + 1 := by omega
      have hza2 : w.heap.size < wr.heap.size + 1 := by omega
      obtain ⟨q, hq⟩ : ∃ q, R.getD k r4d = q := ⟨_, rfl⟩
      rw [hq] at c1 c2 c3 e1 ea eB a5
      have HQ := hide hq
      obtain ⟨s, n1, d1, L1⟩ := q
      simp only at c1 c2 c3 e1 ea eB a5
      have HN := isName_i s e1
      have T5 := a5
      obtain ⟨As, cs, e5, _⟩ := a5
      subst e5
      have HVq := fun W (hW : Below (wr.alloc (.cells #[.string s, .int .i64 n1, .int .i64 d1, .slice As L1.length cs] 70)).heap.size (wr.alloc (.cells #[.string s, .int .i64 n1, .int .i64 d1, .slice As L1.length cs] 70)) W) => validLinear_i n1 d1 ea _ L1 eB W ((T5.later hbr).later (bl_call (by repeat (first | (with_reducible refine bl_set ?_ (by simp <;> omega) _) | (with_reducible refine bl_alloc ?_ (Nat.le_refl _) _) | (with_reducible refine Below.drew ?_) | (with_reducible assumption) | (with_reducible exact Below.refl _ _))) hW))
      clear T5
      have HC := hide hcg
      have HBW := hide hbw
      have HBR := hide hbr
      clear hq a1 a2 a3 a4 hcg hbw
      cases p1 : isNm s
      · have HR := hide (HBAD.out k hkn (by rw [HQ.out]; unfold rowOk; simp [p1]))
        rw [p1] at HN
        clear p1
        go_wp2
        refine wp_region_quiet_below (by kernel_rfl) (by kernel_rfl) ?_
        repeat (first | go_big_quiet_step ((first | (go_at_call 40; with_reducible exact Calls.regrown_of (same_below (HN _))) | (go_at_call 16; with_reducible exact Calls.regrown_of (HVq _ (below_regrown _ _ _))))) | quiet_step ((first | (go_at_call 40; with_reducible exact Calls.regrown_of (same_below (HN _))) | (go_at_call 16; with_reducible exact Calls.regrown_of (HVq _ (below_regrown _ _ _))))))
        refine wpQuiet_nil ?_
        intro w1 hw1
        obtain ⟨pq, hpq⟩ := hw1
        have hb1 := below_of hpq
        clear hpq pq
        have hz4 := hb1.size
        (try simp at hz4)
        obtain ⟨hc1, hf1⟩ := bcell hb1
        have hw1 : Below w.heap.size w w1 := bl_call (by repeat (first | exact Below.refl _ _ | assumption | (refine bl_alloc ?_ (Nat.le_refl _) _) | (refine bl_set ?_ (by simp <;> omega) _))) hb1
        have hz1 : w.heap.size + 1 ≤ w1.heap.size := (by have hq := hb1.size; have hr := hw1.size; (try simp at hq); omega)
        have hza : w.heap.size < w1.heap.size := (by omega)
        go_wp2
        go_ret
        exact ⟨by rw [HR.out]; rfl, hw1⟩
      rw [p1] at HN
      cases p2 : linOk n1 d1 L1
      · have HR := hide (HBAD.out k hkn (by rw [HQ.out]; unfold rowOk; simp [p2]))
        rw [p2] at HVq
        clear p1 p2
        go_wp2
        refine wp_region_quiet_below (by kernel_rfl) (by kernel_rfl) ?_
        repeat (first | go_big_quiet_step ((first | (go_at_call 40; with_reducible exact Calls.regrown_of (same_below (HN _))) | (go_at_call 16; with_reducible exact Calls.regrown_of (HVq _ (below_regrown _ _ _))))) | quiet_step ((first | (go_at_call 40; with_reducible exact Calls.regrown_of (same_below (HN _))) | (go_at_call 16; with_reducible exact Calls.regrown_of (HVq _ (below_regrown _ _ _))))))
        refine wpQuiet_nil ?_
        intro w1 hw1
        obtain ⟨pq, hpq⟩ := hw1
        have hb1 := below_of hpq
        clear hpq pq
        have hz4 := hb1.size
        (try simp at hz4)
        obtain ⟨hc1, hf1⟩ := bcell hb1
        have hw1 : Below w.heap.size w w1 := bl_call (by repeat (first | exact Below.refl _ _ | assumption | (refine bl_alloc ?_ (Nat.le_refl _) _) | (refine bl_set ?_ (by simp <;> omega) _))) hb1
        have hz1 : w.heap.size + 1 ≤ w1.heap.size := (by have hq := hb1.size; have hr := hw1.size; (try simp at hq); omega)
        have hza : w.heap.size < w1.heap.size := (by omega)
        go_wp2
        go_ret
        exact ⟨by rw [HR.out]; rfl, hw1⟩
      rw [p2] at HVq
      have HT := hide (show rowOk (R.getD k r4d) = true by rw [HQ.out]; unfold rowOk; simp [p1, p2])
      by_cases k0 : k = 0
      · have HS := hide (rows_s hok.out (by rw [HT.out, k0]; rfl))
        have hm0 : decide (0 < k) = false := decide_eq_false (by omega)
        clear k0 p1 p2
        go_wp2
        refine wp_region_quiet_below (by kernel_rfl) (by kernel_rfl) ?_
        repeat (first | go_big_quiet_step ((first | (go_at_call 40; with_reducible exact Calls.regrown_of (same_below (HN _))) | (go_at_call 16; with_reducible exact Calls.regrown_of (HVq _ (below_regrown _ _ _))))) | quiet_step ((first | (go_at_call 40; with_reducible exact Calls.regrown_of (same_below (HN _))) | (go_at_call 16; with_reducible exact Calls.regrown_of (HVq _ (below_regrown _ _ _))))))
        refine wpQuiet_nil ?_
        intro w1 hw1
        obtain ⟨pq, hpq⟩ := hw1
        have hb1 := below_of hpq
        clear hpq pq
        have hz4 := hb1.size
        (try simp at hz4)
        obtain ⟨hc1, hf1⟩ := bcell hb1
        have hw1 : Below w.heap.size w w1 := bl_call (by repeat (first | exact Below.refl _ _ | assumption | (refine bl_alloc ?_ (Nat.le_refl _) _) | (refine bl_set ?_ (by simp <;> omega) _))) hb1
        have hz1 : w.heap.size + 1 ≤ w1.heap.size := (by have hq := hb1.size; have hr := hw1.size; (try simp at hq); omega)
        have hza : w.heap.size < w1.heap.size := (by omega)
        go_wp2
        go_roundw
        case rel => exact ⟨k + 1, by omega, by go_num, rfl, (HBW.out.alloc (by omega) _).trans (hb1.mono (by simp; omega)), HS⟩
        case measure => simp [intOf]; omega
      · obtain ⟨m, rfl⟩ : ∃ m, k = m + 1 := ⟨k - 1, by omega⟩
        obtain ⟨b1, _⟩ := HC.out m (by omega)
        have d0 := (HBR.out.cell (p := ⟨g, o + m * 4, none⟩) hg).trans b1
        obtain ⟨qp, hqp⟩ : ∃ qp, (R.getD m r4d).1 = qp := ⟨_, rfl⟩
        rw [hqp] at d0
        have s1 : IntKind.i64.wrap (m : Int) = m := IntWalk.i64_in _ (by omega)
        have hm0 : 0 < ((m : Int) + 1) := by omega
        have hm1 : (m : Int) < n := by omega
        have hm2 : (m : Int) + 1 < (n : Int) := by omega
        have hm3 : decide ((m : Int) + 1 < (n : Int)) = true := decide_eq_true hm2
        cases hl : Go.Op.bytesLess qp.toList s.toList
        · have HR := hide (HBAD.out (m + 1) hkn (by rw [HT.out]; show (true && lessB (R.getD m r4d).1 (R.getD (m + 1) r4d).1) = _; unfold lessB; rw [HQ.out, hqp, hl]; rfl))
          clear p1 p2 b1 hqp
          go_wp2
          refine wp_region_quiet_below (by kernel_rfl) (by kernel_rfl) ?_
          repeat (first | go_big_quiet_step ((first | (go_at_call 40; with_reducible exact Calls.regrown_of (same_below (HN _))) | (go_at_call 16; with_reducible exact Calls.regrown_of (HVq _ (below_regrown _ _ _))))) | quiet_step ((first | (go_at_call 40; with_reducible exact Calls.regrown_of (same_below (HN _))) | (go_at_call 16; with_reducible exact Calls.regrown_of (HVq _ (below_regrown _ _ _))))))
          refine wpQuiet_nil ?_
          intro w1 hw1
          obtain ⟨pq, hpq⟩ := hw1
          have hb1 := below_of hpq
          clear hpq pq
          have hz4 := hb1.size
          (try simp at hz4)
          obtain ⟨hc1, hf1⟩ := bcell hb1
          have hw1 : Below w.heap.size w w1 := bl_call (by repeat (first | exact Below.refl _ _ | assumption | (refine bl_alloc ?_ (Nat.le_refl _) _) | (refine bl_set ?_ (by simp <;> omega) _))) hb1
          have hz1 : w.heap.size + 1 ≤ w1.heap.size := (by have hq := hb1.size; have hr := hw1.size; (try simp at hq); omega)
          have hza : w.heap.size < w1.heap.size := (by omega)
          go_wp2
          go_ret
          exact ⟨by rw [HR.out]; rfl, hw1⟩
        · have HS := hide (rows_s hok.out (by rw [HT.out]; show (true && lessB (R.getD m r4d).1 (R.getD (m + 1) r4d).1) = _; unfold lessB; rw [HQ.out, hqp, hl]; rfl))
          clear p1 p2 b1 hqp
          go_wp2
          refine wp_region_quiet_below (by kernel_rfl) (by kernel_rfl) ?_
          repeat (first | go_big_quiet_step ((first | (go_at_call 40; with_reducible exact Calls.regrown_of (same_below (HN _))) | (go_at_call 16; with_reducible exact Calls.regrown_of (HVq _ (below_regrown _ _ _))))) | quiet_step ((first | (go_at_call 40; with_reducible exact Calls.regrown_of (same_below (HN _))) | (go_at_call 16; with_reducible exact Calls.regrown_of (HVq _ (below_regrown _ _ _))))))
          refine wpQuiet_nil ?_
          intro w1 hw1
          obtain ⟨pq, hpq⟩ := hw1
          have hb1 := below_of hpq
          clear hpq pq
          have hz4 := hb1.size
          (try simp at hz4)
          obtain ⟨hc1, hf1⟩ := bcell hb1
          have hw1 : Below w.heap.size w w1 := bl_call (by repeat (first | exact Below.refl _ _ | assumption | (refine bl_alloc ?_ (Nat.le_refl _) _) | (refine bl_set ?_ (by simp <;> omega) _))) hb1
          have hz1 : w.heap.size + 1 ≤ w1.heap.size := (by have hq := hb1.size; have hr := hw1.size; (try simp at hq); omega)
          have hza : w.heap.size < w1.heap.size := (by omega)
          go_wp2
          go_roundw
          case rel => exact ⟨(m + 1) + 1, by omega, by go_num, rfl, (HBW.out.alloc (by omega) _).trans (hb1.mono (by simp; omega)), HS⟩
          case measure => simp [intOf]; omega
    · obtain rfl : k = n := by omega
      have RS := hide (HRISE.out hok.out)
      have bx : wr.cell? ⟨w.heap.size, 0, none⟩ = some (.slice A k ca) := (hbw.cell (p := ⟨w.heap.size, 0, none⟩) (by simp)).trans (by simp [go_sem])
      clear hbr hkn
      obtain ⟨wL, rfl⟩ : ∃ wL, wL = wr := ⟨_, rfl⟩
      go_wp2
      go_loopw [2, 53] (fun rv iv wr => ∃ i : Nat, i ≤ k ∧ iv = .int .i64 i ∧ rv = .bool false ∧ Below (w.heap.size + 1) (w.alloc (.cells #[.slice A k ca] 44)) wr ∧ Hid (freeR R i = true)) (fun _ iv _ => k - (intOf iv).toNat)
      case atStart => exact ⟨0, by omega, rfl, rfl, hbw, rfl⟩
      case round =>
        obtain ⟨i, hi, rfl, rfl, hby, hfr⟩ := hrel
        clear hbw bx hzw hza
        have hbr : Below w.heap.size w wr := ((Below.refl _ _).alloc (Nat.le_refl _) _).trans (hby.mono (by omega))
        have hzw := hby.size
        simp at hzw
        have hza : w.heap.size < wr.heap.size := by omega
        by_cases hkn : i < k
        · obtain ⟨g, o, rfl, hg, hcg⟩ := HA.out (by omega)
          obtain ⟨a1, a2, a3, sv, a4, a5⟩ := hcg i hkn
          have c1 := (hbr.cell (p := ⟨g, o + i * 4, none⟩) hg).trans a1
          have c2 := (hbr.cell (p := ⟨g, o + i * 4 + 1, none⟩) hg).trans a2
          have c3 := (hbr.cell (p := ⟨g, o + i * 4 + 2, none⟩) hg).trans a3
          have c4 := (hbr.cell (p := ⟨g, o + i * 4 + 3, none⟩) hg).trans a4
          have hgr : g < wr.heap.size := by omega
          have HBF := hide (fun j hj h => HBADF.out i j hkn hj h)
          have HNX := hide (fun h => freeR_s hfr.out (k := i) h)
          obtain ⟨_, _, _, eB⟩ := HE.out i (by omega)
          have hm0 := eB.1
          simp only [maxLen] at hm0
          have HBY := hide hby
          have HBR := hide hbr
          have T5 := a5.later hbr
          clear hcg a1 a2 a3 a4 a5 hby eB
          generalize R.getD i r4d = q at *
          obtain ⟨s, n1, d1, L1⟩ := q
          simp only at c1 c2 c3 T5 HBF HNX hm0
          obtain ⟨As, cs, rfl, hT⟩ := T5
          have HT := hide hT
          clear hT
          generalize hm : L1.length = m at *
          have hik : (i : Int) < (k : Int) := by omega
          have dik : decide ((i : Int) < (k : Int)) = true := decide_eq_true hik
          obtain ⟨wo, rfl⟩ : ∃ wo, wo = wr := ⟨_, rfl⟩
          go_wp2
          go_loopw [2, 61] (fun rv iv wr => ∃ j : Nat, j ≤ m ∧ iv = .int .i64 j ∧ rv = .bool false ∧ Below (w.heap.size + 1) (w.alloc (.cells #[.slice (some ⟨g, o, none⟩) k ca] 44)) wr ∧ wo.heap.size ≤ wr.heap.size ∧ Below wo.heap.size wo wr ∧ Hid (freeT R L1 j = true)) (fun _ iv _ => m - (intOf iv).toNat)
          case atStart => exact ⟨0, by omega, rfl, rfl, HBY.out.alloc (by omega) _, by simp, (by repeat (first | (with_reducible refine bl_set ?_ (by simp <;> omega) _) | (with_reducible refine bl_alloc ?_ (Nat.le_refl _) _) | (with_reducible refine Below.drew ?_) | (with_reducible assumption) | (with_reducible exact Below.refl _ _))), rfl⟩
          case round =>
            obtain ⟨j, hj, rfl, rfl, hbz, hzo, hbo, hft⟩ := hrel
            have hbr2 : Below w.heap.size w wr := ((Below.refl _ _).alloc (Nat.le_refl _) _).trans (hbz.mono (by omega))
            have bx : wr.cell? ⟨w.heap.size, 0, none⟩ = some (.slice (some ⟨g, o, none⟩) k ca) := (hbz.cell (p := ⟨w.heap.size, 0, none⟩) (by simp)).trans (by simp [go_sem])
            have hza2 : w.heap.size < wr.heap.size := by omega
            by_cases hjm : j < m
            · obtain ⟨g2, o2, rfl, hg2, hcg2⟩ := HT.out (by omega)
              obtain ⟨t1, t2, t3⟩ := hcg2 j hjm
              have u1 := (hbo.cell (p := ⟨g2, o2 + j * 3, none⟩) hg2).trans t1
              have u2 := (hbo.cell (p := ⟨g2, o2 + j * 3 + 1, none⟩) hg2).trans t2
              have u3 := (hbo.cell (p := ⟨g2, o2 + j * 3 + 2, none⟩) hg2).trans t3
              have hg3 : g2 < wr.heap.size := by omega
              have HF := hide (fun W (hW : Below w.heap.size w W) => HFIND.out (L1.getD j t3d).1 RS.out W hW)
              have HB1 := hide (fun h => HBF.out j (by omega) h)
              have HG1 := hide (fun h => freeT_s hft.out (k := j) h)
              have hjm2 : (j : Int) < (m : Int) := by omega
              have HBZ := hide hbz
              have HBO := hide hbo
              clear hcg2 t1 t2 t3 hbz hbo
              generalize L1.getD j t3d = tq at *
              obtain ⟨ts, tn, td⟩ := tq
              simp only at u1 u2 u3 HF HB1 HG1
              go_wp2_with fail
              (with_reducible refine (HF.out _ (by repeat (first | (with_reducible refine bl_set ?_ (by simp <;> omega) _) | (with_reducible refine bl_alloc ?_ (Nat.le_refl _) _) | (with_reducible refine Below.drew ?_) | (with_reducible assumption) | (with_reducible exact Below.refl _ _)))).mono ?_)
              rintro e w1 ⟨fi, rfl, _, hb1⟩
              have B1 : Below w.heap.size w w1 := bl_call (by repeat (first | (with_reducible refine bl_set ?_ (by simp <;> omega) _) | (with_reducible refine bl_alloc ?_ (Nat.le_refl _) _) | (with_reducible refine Below.drew ?_) | (with_reducible assumption) | (with_reducible exact Below.refl _ _))) hb1
              by_cases hneg : fdR R ts < 0
              · have HG2 := hide (HG1.out hneg)
                rw [decide_eq_false (by omega)]
                go_wp2
                go_roundw
                case rel => exact ⟨j + 1, by omega, by go_num, rfl, (HBZ.out.alloc (by omega) _).trans (hb1.mono (by simp; omega)), by have := hb1.size; simp at this; omega, (HBO.out.alloc hzo _).trans (hb1.mono (by simp; omega)), HG2⟩
                case measure => simp [intOf]; omega
              · have HR := hide (HB1.out (by omega))
                rw [decide_eq_true (by omega)]
                go_wp2
                go_ret
                exact ⟨by rw [HR.out]; rfl, B1⟩
            · obtain rfl : j = m := by omega
              have HS := hide (HNX.out hft.out)
              go_wp2
              go_roundw
              case rel => exact ⟨i + 1, by omega, by go_num, rfl, hbz, HS⟩
              case measure => simp [intOf]; omega
        · obtain rfl : i = k := by omega
          have HR := hide (HEND.out hok.out hfr.out)
          have HD := hide (show decide (i ≤ 24) = true from decide_eq_true hn24)
          clear hby
          go_wp2
          go_ret
          exact ⟨by rw [HR.out, HD.out]; rfl, hbr⟩
set_option maxRecDepth 100000 in
set_option maxHeartbeats 16000000 in
theorem l05System_s (x : Value) (R : List R4) (hlen : R.length ≤ 1048576) (hB : RowsB R) (w : World) (hx : RowsAt w x R) (P : Nat) (hP : P < w.heap.size) (hp0 : w.cell? ⟨P, 0, none⟩ = some x) : Calls Try.prog 52 #[.pointer (some ⟨P, 0, none⟩)] w fun e w' => e = .returned (.bool (sysOk R)) ∧ Below w.heap.size w w' := by
  have HFIND := hide (fun s W (hW : Below w.heap.size w W) => l05Find_any x R hlen s W (hx.later hW))
  obtain ⟨A, ca, rfl, hA⟩ := hx
  obtain ⟨hn0, hE⟩ := hB
  have HEND := hide (fun h1 h2 => @sys_end R h1 h2)
  have HBAD := hide (fun (k : Nat) (hk : k < R.length) (h : (rowOk (R.getD k r4d) && ordR R k) = false) => rows_bad hk h)
  have HBADF := hide (fun (k j : Nat) (hk : k < R.length) hj h => @free_bad R k j hk hj h)
  have HA := hide hA
  have HE := hide hE
  clear hA hE
  generalize hn : R.length = n at *
  go_enter Try.func52, Try.ntmps52
  go_wp2
  go_loopw [2, 3] (fun rv iv wr => ∃ k : Nat, k ≤ n ∧ iv = .int .i64 k ∧ rv = .bool false ∧ Below w.heap.size w wr ∧ Hid (rowsOk R k = true) ∧ Hid (freeR R k = true)) (fun _ iv _ => n - (intOf iv).toNat)
  case atStart => exact ⟨0, by omega, rfl, rfl, Below.refl _ _, rfl, rfl⟩
  case round =>
    obtain ⟨k, hk, rfl, rfl, hbr, hok, hfr⟩ := hrel
    have hzw := hbr.size
    have bx : wr.cell? ⟨P, 0, none⟩ = some (.slice A n ca) := (hbr.cell (p := ⟨P, 0, none⟩) hP).trans hp0
    have hza : P < wr.heap.size := by omega
    have HP0 := hide hp0
    clear hp0
    by_cases hkn : k < n
    · skip
      obtain ⟨g, o, rfl, hg, hcg⟩ := HA.out (by omega)
      obtain ⟨a1, a2, a3, sv, a4, a5⟩ := hcg k hkn
      obtain ⟨e1, ea, _, eB⟩ := HE.out k (by omega)
      have c1 := (hbr.cell (p := ⟨g, o + k * 4, none⟩) hg).trans a1
      have c2 := (hbr.cell (p := ⟨g, o + k * 4 + 1, none⟩) hg).trans a2
      have c3 := (hbr.cell (p := ⟨g, o + k * 4 + 2, none⟩) hg).trans a3
      have c4 := (hbr.cell (p := ⟨g, o + k * 4 + 3, none⟩) hg).trans a4
      have hgr : g < wr.heap.size := by omega
      have HNX := hide (fun h => freeR_s hfr.out (k := k) h)
      have HBF := hide (fun j hj h => HBADF.out k j hkn hj h)
      obtain ⟨q, hq⟩ : ∃ q, R.getD k r4d = q := ⟨_, rfl⟩
      rw [hq] at c1 c2 c3 e1 ea eB a5 HNX HBF
      have HQ := hide hq
      obtain ⟨s, n1, d1, L1⟩ := q
      simp only at c1 c2 c3 e1 ea eB a5 HNX HBF
      have HN := isName_s s e1
      have T5 := a5
      have T6 := a5.later hbr
      obtain ⟨As, cs, e5, _⟩ := a5
      subst e5
      have HVq := fun W (hW : Below wr.heap.size wr W) => l05Ok_p n1 d1 ea _ L1 eB W ((T5.later hbr).later hW) g (o + k * 4 + 1) (Nat.lt_of_lt_of_le hgr hW.size) ((hW.cell (p := ⟨g, o + k * 4 + 1, none⟩) hgr).trans c2) ((hW.cell (p := ⟨g, o + k * 4 + 2, none⟩) hgr).trans c3) ((hW.cell (p := ⟨g, o + k * 4 + 3, none⟩) hgr).trans c4)
      have hm0 := eB.1
      simp only [maxLen] at hm0
      have HC := hide hcg
      have HBR := hide hbr
      have HT6 := hide T6
      clear hq a1 a2 a3 a4 hcg T5 T6 eB
      have AFTER : ∀ (w1 : World), Below wr.heap.size wr w1 → True := fun _ _ => trivial
      clear AFTER
      cases p1 : isNm s
      · have HR := hide (HBAD.out k hkn (by rw [HQ.out]; unfold rowOk; simp [p1]))
        rw [p1] at HN
        clear p1
        go_wp2
        refine wp_region_quiet_below (by kernel_rfl) (by kernel_rfl) ?_
        repeat (first | go_big_quiet_step ((first | (go_at_call 57; with_reducible exact Calls.regrown_of (same_below (HN _))) | (go_at_call 38; with_reducible exact Calls.regrown_of (HVq _ (below_regrown _ _ _))))) | quiet_step ((first | (go_at_call 57; with_reducible exact Calls.regrown_of (same_below (HN _))) | (go_at_call 38; with_reducible exact Calls.regrown_of (HVq _ (below_regrown _ _ _))))))
        refine wpQuiet_nil ?_
        intro w1 hw1
        obtain ⟨pq, hpq⟩ := hw1
        have hb1 := below_of hpq
        clear hpq pq
        have hz4 := hb1.size
        (try simp at hz4)
        obtain ⟨hc1, hf1⟩ := bcell hb1
        have hw1 : Below w.heap.size w w1 := bl_call (by repeat (first | exact Below.refl _ _ | assumption | (refine bl_alloc ?_ (Nat.le_refl _) _) | (refine bl_set ?_ (by simp <;> omega) _))) hb1
        have hz1 : w.heap.size + 0 ≤ w1.heap.size := (by have hq := hb1.size; have hr := hw1.size; (try simp at hq); omega)
        go_wp2
        go_ret
        exact ⟨by rw [HR.out]; rfl, hw1⟩
      rw [p1] at HN
      cases p2 : linOk n1 d1 L1
      · have HR := hide (HBAD.out k hkn (by rw [HQ.out]; unfold rowOk; simp [p2]))
        rw [p2] at HVq
        clear p1 p2
        go_wp2
        refine wp_region_quiet_below (by kernel_rfl) (by kernel_rfl) ?_
        repeat (first | go_big_quiet_step ((first | (go_at_call 57; with_reducible exact Calls.regrown_of (same_below (HN _))) | (go_at_call 38; with_reducible exact Calls.regrown_of (HVq _ (below_regrown _ _ _))))) | quiet_step ((first | (go_at_call 57; with_reducible exact Calls.regrown_of (same_below (HN _))) | (go_at_call 38; with_reducible exact Calls.regrown_of (HVq _ (below_regrown _ _ _))))))
        refine wpQuiet_nil ?_
        intro w1 hw1
        obtain ⟨pq, hpq⟩ := hw1
        have hb1 := below_of hpq
        clear hpq pq
        have hz4 := hb1.size
        (try simp at hz4)
        obtain ⟨hc1, hf1⟩ := bcell hb1
        have hw1 : Below w.heap.size w w1 := bl_call (by repeat (first | exact Below.refl _ _ | assumption | (refine bl_alloc ?_ (Nat.le_refl _) _) | (refine bl_set ?_ (by simp <;> omega) _))) hb1
        have hz1 : w.heap.size + 0 ≤ w1.heap.size := (by have hq := hb1.size; have hr := hw1.size; (try simp at hq); omega)
        go_wp2
        go_ret
        exact ⟨by rw [HR.out]; rfl, hw1⟩
      rw [p2] at HVq
      have HT := hide (show rowOk (R.getD k r4d) = true by rw [HQ.out]; unfold rowOk; simp [p1, p2])
      by_cases k0 : k = 0
      · have HS := hide (rows_s hok.out (by rw [HT.out, k0]; rfl))
        have hm0 : decide (0 < k) = false := decide_eq_false (by omega)
        clear k0 p1 p2
        go_wp2
        refine wp_region_quiet_below (by kernel_rfl) (by kernel_rfl) ?_
        repeat (first | go_big_quiet_step ((first | (go_at_call 57; with_reducible exact Calls.regrown_of (same_below (HN _))) | (go_at_call 38; with_reducible exact Calls.regrown_of (HVq _ (below_regrown _ _ _))))) | quiet_step ((first | (go_at_call 57; with_reducible exact Calls.regrown_of (same_below (HN _))) | (go_at_call 38; with_reducible exact Calls.regrown_of (HVq _ (below_regrown _ _ _))))))
        refine wpQuiet_nil ?_
        intro w1 hw1
        obtain ⟨pq, hpq⟩ := hw1
        have hb1 := below_of hpq
        clear hpq pq
        have hz4 := hb1.size
        (try simp at hz4)
        obtain ⟨hc1, hf1⟩ := bcell hb1
        have hw1 : Below w.heap.size w w1 := bl_call (by repeat (first | exact Below.refl _ _ | assumption | (refine bl_alloc ?_ (Nat.le_refl _) _) | (refine bl_set ?_ (by simp <;> omega) _))) hb1
        have hz1 : w.heap.size + 0 ≤ w1.heap.size := (by have hq := hb1.size; have hr := hw1.size; (try simp at hq); omega)
        obtain ⟨wo, rfl⟩ : ∃ wo, wo = w1 := ⟨_, rfl⟩
        have zo := hb1.size
        have ro : g < wo.heap.size := by omega
        have po : P < wo.heap.size := by omega
        have x1 : wo.cell? ⟨g, o + k * 4 + 3, none⟩ = some (.slice As L1.length cs) := (hb1.cell (p := ⟨g, _, none⟩) hgr).trans c4
        have x2 : wo.cell? ⟨P, 0, none⟩ = some (.slice (some ⟨g, o, none⟩) n ca) := (hb1.cell (p := ⟨P, 0, none⟩) hza).trans bx
        have HTo := HT6.out.later hb1
        obtain ⟨_, _, eT, hT⟩ := HTo
        cases eT
        have HT := hide hT
        have HW1 := hide hw1
        clear hT hb1 hc1 hf1 hw1 c1 c2 c3 c4 bx HVq HN
        generalize hm : L1.length = mm at *
        have hik : ((k : Nat) : Int) < (n : Int) := by omega
        have dik : decide (((k : Nat) : Int) < (n : Int)) = true := decide_eq_true hik
        go_wp2
        go_loopw [2, 5] (fun rv iv wr => ∃ j : Nat, j ≤ mm ∧ iv = .int .i64 j ∧ rv = .bool false ∧ Below wo.heap.size wo wr ∧ Hid (freeT R L1 j = true)) (fun _ iv _ => mm - (intOf iv).toNat)
        case atStart => exact ⟨0, by omega, rfl, rfl, Below.refl _ _, rfl⟩
        case round =>
          obtain ⟨j, hj, rfl, rfl, hbo, hft⟩ := hrel
          have zz := hbo.size
          have y1 := (hbo.cell (p := ⟨g, o + k * 4 + 3, none⟩) ro).trans x1
          have y2 := (hbo.cell (p := ⟨P, 0, none⟩) po).trans x2
          have ro2 : g < wr.heap.size := by omega
          have po2 : P < wr.heap.size := by omega
          have HBO := hide hbo
          by_cases hjm : j < mm
          · obtain ⟨g2, o2, rfl, hg2, hcg2⟩ := HT.out (by omega)
            obtain ⟨t1, _, _⟩ := hcg2 j hjm
            have u1 := (hbo.cell (p := ⟨g2, o2 + j * 3, none⟩) hg2).trans t1
            have hg3 : g2 < wr.heap.size := by omega
            have HF := hide (fun W (hW : Below wr.heap.size wr W) => HFIND.out (L1.getD j t3d).1 W (HW1.out.trans ((hbo.trans (hW.mono zz)).mono (by omega))))
            have HB1 := hide (fun h => HBF.out j (by omega) h)
            have HG1 := hide (fun h => freeT_s hft.out (k := j) h)
            have hjm2 : (j : Int) < (mm : Int) := by omega
            have hbw2 : Below w.heap.size w wr := HW1.out.trans (hbo.mono (by have := HW1.out.size; omega))
            clear hcg2 t1 hbo x1 x2
            generalize L1.getD j t3d = tq at *
            obtain ⟨ts, tn, td⟩ := tq
            simp only at u1 HF HB1 HG1
            by_cases hneg : fdR R ts < 0
            · have HG2 := hide (HG1.out hneg)
              have dneg : decide (0 ≤ fdR R ts) = false := decide_eq_false (by omega)
              generalize fdR R ts = F at *
              clear HG1 HB1
              go_wp2
              refine wp_region_quiet_below (by kernel_rfl) (by kernel_rfl) ?_
              repeat (first | go_big_quiet_step (((go_at_call 58; with_reducible exact Calls.regrown_of (HF.out _ (below_regrown _ _ _))))) | quiet_step (((go_at_call 58; with_reducible exact Calls.regrown_of (HF.out _ (below_regrown _ _ _))))))
              refine wpQuiet_nil ?_
              intro w1 hw1
              obtain ⟨pq, hpq⟩ := hw1
              have hb1 := below_of hpq
              clear hpq pq
              have hz4 := hb1.size
              (try simp at hz4)
              obtain ⟨hc1, hf1⟩ := bcell hb1
              have hw1 : Below w.heap.size w w1 := bl_call (by repeat (first | exact Below.refl _ _ | assumption | (refine bl_alloc ?_ (Nat.le_refl _) _) | (refine bl_set ?_ (by simp <;> omega) _))) hb1
              have hz1 : w.heap.size + 0 ≤ w1.heap.size := (by have hq := hb1.size; have hr := hw1.size; (try simp at hq); omega)
              go_wp2
              go_roundw
              case rel => first | (exact ⟨j + 1, by omega, by go_num, rfl, HBO.out.trans (hb1.mono zz), HG2⟩) | ((repeat apply Exists.intro); exact ⟨⟨j + 1, by omega, by go_num, rfl, HBO.out.trans (hb1.mono zz), HG2⟩, rfl⟩) | ((repeat apply Exists.intro); refine ⟨⟨j + 1, by omega, by go_num, rfl, HBO.out.trans (hb1.mono zz), HG2⟩, ?_⟩; congr 1) | ((repeat apply Exists.intro); refine ⟨⟨j + 1, by omega, by go_num, rfl, HBO.out.trans (hb1.mono zz), HG2⟩, ?_⟩; congr 1; congr 1)
              case measure => simp [intOf]; omega
            · have HR := hide (HB1.out (by omega))
              have dneg : decide (0 ≤ fdR R ts) = true := decide_eq_true (by omega)
              generalize fdR R ts = F at *
              clear HG1 HB1
              go_wp2
              refine wp_region_quiet_below (by kernel_rfl) (by kernel_rfl) ?_
              repeat (first | go_big_quiet_step (((go_at_call 58; with_reducible exact Calls.regrown_of (HF.out _ (below_regrown _ _ _))))) | quiet_step (((go_at_call 58; with_reducible exact Calls.regrown_of (HF.out _ (below_regrown _ _ _))))))
              refine wpQuiet_nil ?_
              intro w1 hw1
              obtain ⟨pq, hpq⟩ := hw1
              have hb1 := below_of hpq
              clear hpq pq
              have hz4 := hb1.size
              (try simp at hz4)
              obtain ⟨hc1, hf1⟩ := bcell hb1
              have hw1 : Below w.heap.size w w1 := bl_call (by repeat (first | exact Below.refl _ _ | assumption | (refine bl_alloc ?_ (Nat.le_refl _) _) | (refine bl_set ?_ (by simp <;> omega) _))) hb1
              have hz1 : w.heap.size + 0 ≤ w1.heap.size := (by have hq := hb1.size; have hr := hw1.size; (try simp at hq); omega)
              go_wp2
              go_ret
              exact ⟨by rw [HR.out]; rfl, HW1.out.trans ((HBO.out.trans (hb1.mono zz)).mono (by omega))⟩
          · obtain rfl : j = mm := by omega
            have HS3 := hide (HNX.out hft.out)
            clear hbo x1 x2
            go_wp2
            go_roundw
            case rel => exact ⟨k + 1, by omega, by go_num, rfl, HW1.out.trans (HBO.out.mono (by omega)), HS, HS3⟩
            case measure => simp [intOf]; omega
      · obtain ⟨m, rfl⟩ : ∃ m, k = m + 1 := ⟨k - 1, by omega⟩
        obtain ⟨b1, _⟩ := HC.out m (by omega)
        have d0 := (HBR.out.cell (p := ⟨g, o + m * 4, none⟩) hg).trans b1
        obtain ⟨qp, hqp⟩ : ∃ qp, (R.getD m r4d).1 = qp := ⟨_, rfl⟩
        rw [hqp] at d0
        have s1 : IntKind.i64.wrap (m : Int) = m := IntWalk.i64_in _ (by omega)
        have hm0 : 0 < ((m : Int) + 1) := by omega
        have hm1 : (m : Int) < n := by omega
        have hm2 : (m : Int) + 1 < (n : Int) := by omega
        have hm3 : decide ((m : Int) + 1 < (n : Int)) = true := decide_eq_true hm2
        have ht := bl_total qp.toList s.toList
        cases hl : Go.Op.bytesLess qp.toList s.toList
        · have HR := hide (HBAD.out (m + 1) hkn (by rw [HT.out]; show (true && lessB (R.getD m r4d).1 (R.getD (m + 1) r4d).1) = _; unfold lessB; rw [HQ.out, hqp, hl]; rfl))
          rw [hl] at ht
          clear p1 p2 b1 hqp hl
          cases y1 : Go.Op.bytesLess s.toList qp.toList
          · have y2 : (s.toList == qp.toList) = true := by rw [y1] at ht; simpa using ht.symm
            clear ht
            go_wp2
            refine wp_region_quiet_below (by kernel_rfl) (by kernel_rfl) ?_
            repeat (first | go_big_quiet_step ((first | (go_at_call 57; with_reducible exact Calls.regrown_of (same_below (HN _))) | (go_at_call 38; with_reducible exact Calls.regrown_of (HVq _ (below_regrown _ _ _))))) | quiet_step ((first | (go_at_call 57; with_reducible exact Calls.regrown_of (same_below (HN _))) | (go_at_call 38; with_reducible exact Calls.regrown_of (HVq _ (below_regrown _ _ _))))))
            refine wpQuiet_nil ?_
            intro w1 hw1
            obtain ⟨pq, hpq⟩ := hw1
            have hb1 := below_of hpq
            clear hpq pq
            have hz4 := hb1.size
            (try simp at hz4)
            obtain ⟨hc1, hf1⟩ := bcell hb1
            have hw1 : Below w.heap.size w w1 := bl_call (by repeat (first | exact Below.refl _ _ | assumption | (refine bl_alloc ?_ (Nat.le_refl _) _) | (refine bl_set ?_ (by simp <;> omega) _))) hb1
            have hz1 : w.heap.size + 0 ≤ w1.heap.size := (by have hq := hb1.size; have hr := hw1.size; (try simp at hq); omega)
            go_wp2
            go_ret
            exact ⟨by rw [HR.out]; rfl, hw1⟩
          · clear ht
            go_wp2
            refine wp_region_quiet_below (by kernel_rfl) (by kernel_rfl) ?_
            repeat (first | go_big_quiet_step ((first | (go_at_call 57; with_reducible exact Calls.regrown_of (same_below (HN _))) | (go_at_call 38; with_reducible exact Calls.regrown_of (HVq _ (below_regrown _ _ _))))) | quiet_step ((first | (go_at_call 57; with_reducible exact Calls.regrown_of (same_below (HN _))) | (go_at_call 38; with_reducible exact Calls.regrown_of (HVq _ (below_regrown _ _ _))))))
            refine wpQuiet_nil ?_
            intro w1 hw1
            obtain ⟨pq, hpq⟩ := hw1
            have hb1 := below_of hpq
            clear hpq pq
            have hz4 := hb1.size
            (try simp at hz4)
            obtain ⟨hc1, hf1⟩ := bcell hb1
            have hw1 : Below w.heap.size w w1 := bl_call (by repeat (first | exact Below.refl _ _ | assumption | (refine bl_alloc ?_ (Nat.le_refl _) _) | (refine bl_set ?_ (by simp <;> omega) _))) hb1
            have hz1 : w.heap.size + 0 ≤ w1.heap.size := (by have hq := hb1.size; have hr := hw1.size; (try simp at hq); omega)
            go_wp2
            go_ret
            exact ⟨by rw [HR.out]; rfl, hw1⟩
        · have HS := hide (rows_s hok.out (by rw [HT.out]; show (true && lessB (R.getD m r4d).1 (R.getD (m + 1) r4d).1) = _; unfold lessB; rw [HQ.out, hqp, hl]; rfl))
          rw [hl] at ht
          have y1 : Go.Op.bytesLess s.toList qp.toList = false := by cases q1 : Go.Op.bytesLess s.toList qp.toList; rfl; rw [q1] at ht; cases ht
          have y2 : (s.toList == qp.toList) = false := by rw [y1] at ht; simpa using ht
          clear p1 p2 b1 hqp hl ht
          go_wp2
          refine wp_region_quiet_below (by kernel_rfl) (by kernel_rfl) ?_
          repeat (first | go_big_quiet_step ((first | (go_at_call 57; with_reducible exact Calls.regrown_of (same_below (HN _))) | (go_at_call 38; with_reducible exact Calls.regrown_of (HVq _ (below_regrown _ _ _))))) | quiet_step ((first | (go_at_call 57; with_reducible exact Calls.regrown_of (same_below (HN _))) | (go_at_call 38; with_reducible exact Calls.regrown_of (HVq _ (below_regrown _ _ _))))))
          refine wpQuiet_nil ?_
          intro w1 hw1
          obtain ⟨pq, hpq⟩ := hw1
          have hb1 := below_of hpq
          clear hpq pq
          have hz4 := hb1.size
          (try simp at hz4)
          obtain ⟨hc1, hf1⟩ := bcell hb1
          have hw1 : Below w.heap.size w w1 := bl_call (by repeat (first | exact Below.refl _ _ | assumption | (refine bl_alloc ?_ (Nat.le_refl _) _) | (refine bl_set ?_ (by simp <;> omega) _))) hb1
          have hz1 : w.heap.size + 0 ≤ w1.heap.size := (by have hq := hb1.size; have hr := hw1.size; (try simp at hq); omega)
          obtain ⟨wo, rfl⟩ : ∃ wo, wo = w1 := ⟨_, rfl⟩
          have zo := hb1.size
          have ro : g < wo.heap.size := by omega
          have po : P < wo.heap.size := by omega
          have x1 : wo.cell? ⟨g, o + (m + 1) * 4 + 3, none⟩ = some (.slice As L1.length cs) := (hb1.cell (p := ⟨g, _, none⟩) hgr).trans c4
          have x2 : wo.cell? ⟨P, 0, none⟩ = some (.slice (some ⟨g, o, none⟩) n ca) := (hb1.cell (p := ⟨P, 0, none⟩) hza).trans bx
          have HTo := HT6.out.later hb1
          obtain ⟨_, _, eT, hT⟩ := HTo
          cases eT
          have HT := hide hT
          have HW1 := hide hw1
          clear hT hb1 hc1 hf1 hw1 c1 c2 c3 c4 bx HVq HN
          generalize hm : L1.length = mm at *
          have hik : (((m + 1) : Nat) : Int) < (n : Int) := by omega
          have dik : decide ((((m + 1) : Nat) : Int) < (n : Int)) = true := decide_eq_true hik
          go_wp2
          go_loopw [2, 5] (fun rv iv wr => ∃ j : Nat, j ≤ mm ∧ iv = .int .i64 j ∧ rv = .bool false ∧ Below wo.heap.size wo wr ∧ Hid (freeT R L1 j = true)) (fun _ iv _ => mm - (intOf iv).toNat)
          case atStart => exact ⟨0, by omega, rfl, rfl, Below.refl _ _, rfl⟩
          case round =>
            obtain ⟨j, hj, rfl, rfl, hbo, hft⟩ := hrel
            have zz := hbo.size
            have y1 := (hbo.cell (p := ⟨g, o + (m + 1) * 4 + 3, none⟩) ro).trans x1
            have y2 := (hbo.cell (p := ⟨P, 0, none⟩) po).trans x2
            have ro2 : g < wr.heap.size := by omega
            have po2 : P < wr.heap.size := by omega
            have HBO := hide hbo
            by_cases hjm : j < mm
            · obtain ⟨g2, o2, rfl, hg2, hcg2⟩ := HT.out (by omega)
              obtain ⟨t1, _, _⟩ := hcg2 j hjm
              have u1 := (hbo.cell (p := ⟨g2, o2 + j * 3, none⟩) hg2).trans t1
              have hg3 : g2 < wr.heap.size := by omega
              have HF := hide (fun W (hW : Below wr.heap.size wr W) => HFIND.out (L1.getD j t3d).1 W (HW1.out.trans ((hbo.trans (hW.mono zz)).mono (by omega))))
              have HB1 := hide (fun h => HBF.out j (by omega) h)
              have HG1 := hide (fun h => freeT_s hft.out (k := j) h)
              have hjm2 : (j : Int) < (mm : Int) := by omega
              have hbw2 : Below w.heap.size w wr := HW1.out.trans (hbo.mono (by have := HW1.out.size; omega))
              clear hcg2 t1 hbo x1 x2
              generalize L1.getD j t3d = tq at *
              obtain ⟨ts, tn, td⟩ := tq
              simp only at u1 HF HB1 HG1
              by_cases hneg : fdR R ts < 0
              · have HG2 := hide (HG1.out hneg)
                have dneg : decide (0 ≤ fdR R ts) = false := decide_eq_false (by omega)
                generalize fdR R ts = F at *
                clear HG1 HB1
                go_wp2
                refine wp_region_quiet_below (by kernel_rfl) (by kernel_rfl) ?_
                repeat (first | go_big_quiet_step (((go_at_call 58; with_reducible exact Calls.regrown_of (HF.out _ (below_regrown _ _ _))))) | quiet_step (((go_at_call 58; with_reducible exact Calls.regrown_of (HF.out _ (below_regrown _ _ _))))))
                refine wpQuiet_nil ?_
                intro w1 hw1
                obtain ⟨pq, hpq⟩ := hw1
                have hb1 := below_of hpq
                clear hpq pq
                have hz4 := hb1.size
                (try simp at hz4)
                obtain ⟨hc1, hf1⟩ := bcell hb1
                have hw1 : Below w.heap.size w w1 := bl_call (by repeat (first | exact Below.refl _ _ | assumption | (refine bl_alloc ?_ (Nat.le_refl _) _) | (refine bl_set ?_ (by simp <;> omega) _))) hb1
                have hz1 : w.heap.size + 0 ≤ w1.heap.size := (by have hq := hb1.size; have hr := hw1.size; (try simp at hq); omega)
                go_wp2
                go_roundw
                case rel => first | (exact ⟨j + 1, by omega, by go_num, rfl, HBO.out.trans (hb1.mono zz), HG2⟩) | ((repeat apply Exists.intro); exact ⟨⟨j + 1, by omega, by go_num, rfl, HBO.out.trans (hb1.mono zz), HG2⟩, rfl⟩) | ((repeat apply Exists.intro); refine ⟨⟨j + 1, by omega, by go_num, rfl, HBO.out.trans (hb1.mono zz), HG2⟩, ?_⟩; congr 1) | ((repeat apply Exists.intro); refine ⟨⟨j + 1, by omega, by go_num, rfl, HBO.out.trans (hb1.mono zz), HG2⟩, ?_⟩; congr 1; congr 1)
                case measure => simp [intOf]; omega
              · have HR := hide (HB1.out (by omega))
                have dneg : decide (0 ≤ fdR R ts) = true := decide_eq_true (by omega)
                generalize fdR R ts = F at *
                clear HG1 HB1
                go_wp2
                refine wp_region_quiet_below (by kernel_rfl) (by kernel_rfl) ?_
                repeat (first | go_big_quiet_step (((go_at_call 58; with_reducible exact Calls.regrown_of (HF.out _ (below_regrown _ _ _))))) | quiet_step (((go_at_call 58; with_reducible exact Calls.regrown_of (HF.out _ (below_regrown _ _ _))))))
                refine wpQuiet_nil ?_
                intro w1 hw1
                obtain ⟨pq, hpq⟩ := hw1
                have hb1 := below_of hpq
                clear hpq pq
                have hz4 := hb1.size
                (try simp at hz4)
                obtain ⟨hc1, hf1⟩ := bcell hb1
                have hw1 : Below w.heap.size w w1 := bl_call (by repeat (first | exact Below.refl _ _ | assumption | (refine bl_alloc ?_ (Nat.le_refl _) _) | (refine bl_set ?_ (by simp <;> omega) _))) hb1
                have hz1 : w.heap.size + 0 ≤ w1.heap.size := (by have hq := hb1.size; have hr := hw1.size; (try simp at hq); omega)
                go_wp2
                go_ret
                exact ⟨by rw [HR.out]; rfl, HW1.out.trans ((HBO.out.trans (hb1.mono zz)).mono (by omega))⟩
            · obtain rfl : j = mm := by omega
              have HS3 := hide (HNX.out hft.out)
              clear hbo x1 x2
              go_wp2
              go_roundw
              case rel => exact ⟨(m + 1) + 1, by omega, by go_num, rfl, HW1.out.trans (HBO.out.mono (by omega)), HS, HS3⟩
              case measure => simp [intOf]; omega
    · obtain rfl : k = n := by omega
      have HR := hide (HEND.out hok.out hfr.out)
      have HBR := hide hbr
      clear hbr
      by_cases h24 : k ≤ 24
      · have d24 : decide ((k : Int) ≤ 24) = true := by simp; omega
        have HD := hide (show decide (k ≤ 24) = true from decide_eq_true h24)
        go_wp2
        go_ret
        exact ⟨by rw [HR.out, HD.out]; rfl, HBR.out⟩
      · have d24 : decide ((k : Int) ≤ 24) = false := by simp; omega
        have HD := hide (show decide (k ≤ 24) = false from decide_eq_false h24)
        go_wp2
        go_ret
        exact ⟨by rw [HR.out, HD.out]; rfl, HBR.out⟩
set_option maxRecDepth 100000 in
theorem validSystem_s (x : Value) (R : List R4) (hlen : R.length ≤ 1048576) (hB : RowsB R) (w : World) (hx : RowsAt w x R) : Calls Try.prog 27 #[.agg #[x]] w fun e w' => e = .returned (.bool (sysOk R)) ∧ Below w.heap.size w w' := by
  have HZ := hide (fun W P hW h1 h2 => l05System_s x R hlen hB W (hx.later (hW : Below w.heap.size w W)) P h1 h2)
  obtain ⟨A, ca, rfl, _⟩ := hx
  clear hB
  go_enter Try.func27, Try.ntmps27
  go_wp2_with fail
  (with_reducible refine (HZ.out _ w.heap.size (by repeat (first | (with_reducible refine bl_set ?_ (by simp <;> omega) _) | (with_reducible refine bl_alloc ?_ (Nat.le_refl _) _) | (with_reducible refine Below.drew ?_) | (with_reducible assumption) | (with_reducible exact Below.refl _ _))) (by simp) (by simp [go_sem])).mono ?_)
  rintro e w1 ⟨rfl, hb1⟩
  go_wp2
  go_ret
  exact ⟨rfl, bl_call (by repeat (first | (with_reducible refine bl_set ?_ (by simp <;> omega) _) | (with_reducible refine bl_alloc ?_ (Nat.le_refl _) _) | (with_reducible refine Below.drew ?_) | (with_reducible assumption) | (with_reducible exact Below.refl _ _))) hb1⟩
end Go.Proofs.Ythojgmhionekbaa
