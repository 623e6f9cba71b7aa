/-
  CONTRACTS of ValidLinear (packages impl and spec), and the walk of the law FnExactValidLinear. Conditions: what the slices hold.
-/
import Derived.Test.YthojgmhionekbaaLinA
import Derived.IntWalk
namespace Go.Proofs.Ythojgmhionekbaa
open Go.RowKit Go.Sort
set_option linter.unusedVariables false
attribute [local go_sem] cell_grow frozen_grow
def lessB (x y : ByteArray) : Bool := Go.Op.bytesLess x.toList y.toList
theorem bl_total : ∀ x y : List UInt8, (!Go.Op.bytesLess x y) = (Go.Op.bytesLess y x || (y == x))
  | [], [] => rfl
  | [], b :: y => rfl
  | a :: x, [] => rfl
  | a :: x, b :: y => by
    unfold Go.Op.bytesLess
    have ih := bl_total x y
    by_cases h1 : a < b
    · have h2 : ¬ b < a := by intro h; exact absurd (UInt8.lt_trans h1 h) (UInt8.lt_irrefl _)
      have h3 : ¬ b = a := by intro h; rw [h] at h1; exact UInt8.lt_irrefl _ h1
      simp [h1, h2, h3]
    · by_cases h2 : b < a
      · have h3 : ¬ a = b := by intro h; rw [h] at h2; exact UInt8.lt_irrefl _ h2
        simp [h1, h2, h3]
      · have h3 : a = b := by
          apply UInt8.toNat_inj.mp
          have e1 : ¬ a.toNat < b.toNat := h1
          have e2 : ¬ b.toNat < a.toNat := h2
          omega
        subst h3
        simp [h1]
        simpa using ih
/-- is a term fit, does it stand in order, is an expression valid -/
def tmOk (t : T3) : Bool := isNm t.1 && okFr t.2.1 t.2.2 && !(t.2.1 == 0)
def ordOk (L : List T3) : Nat → Bool
  | 0 => true
  | k + 1 => lessB (L.getD k t3d).1 (L.getD (k + 1) t3d).1
def linOkL (L : List T3) (n : Nat) : Bool := allN (fun k => tmOk (L.getD k t3d) && ordOk L k) n
def linOk (a b : Int) (L : List T3) : Bool := okFr a b && decide (L.length ≤ 12) && linOkL L L.length
theorem linOk_bad {a b : Int} {L : List T3} {k : Nat} (hk : k < L.length) (h : (tmOk (L.getD k t3d) && ordOk L k) = false) : linOk a b L = false := by
  unfold linOk linOkL
  rw [allN_f (p := fun k => tmOk (L.getD k t3d) && ordOk L k) h _ hk, Bool.and_false]
theorem linOkL_s {L : List T3} {k : Nat} (h0 : linOkL L k = true) (h : (tmOk (L.getD k t3d) && ordOk L k) = true) : linOkL L (k + 1) = true := by
  unfold linOkL at *
  rw [allN, h0, h]; rfl
set_option maxRecDepth 100000 in
set_option maxHeartbeats 16000000 in
theorem validLinear_i (a b : Int) (ha : -9223372036854775808 ≤ a ∧ a ≤ 9223372036854775807) (x : Value) (L : List T3) (hB : LinB L) (w : World) (hx : TermsAt w x L) : Calls Try.prog 16 #[.agg #[.int .i64 a, .int .i64 b, x]] w fun e w' => e = .returned (.bool (linOk a b L)) ∧ Below w.heap.size w w' := by
  have HVF := validFrac_i a b ha.1 ha.2
  obtain ⟨A, ca, rfl, hA⟩ := hx
  obtain ⟨hn0, hE⟩ := hB
  simp only [maxLen] at hn0
  cases h1 : okFr a b
  · have HR := hide (show linOk a b L = false by unfold linOk; rw [h1]; rfl)
    rw [h1] at HVF
    go_enter Try.func16, Try.ntmps16
    go_wp2_with (first | (go_at_call 39; (with_reducible refine (HVF _).mono ?_); rintro e w1 ⟨rfl, hb1⟩; obtain ⟨hc1, hf1⟩ := bcell hb1; have hw1 : Below w.heap.size w w1 := bl_call (by repeat (first | exact Below.refl _ _ | assumption | (refine bl_alloc ?_ (Nat.le_refl _) _) | (refine bl_set ?_ (by simp <;> omega) _))) hb1; have hz1 : w.heap.size + 1 ≤ w1.heap.size := (by have hq := hb1.size; have hr := hw1.size; (try simp at hq); omega); have hza : w.heap.size < w1.heap.size := (by omega); have hz4 := hb1.size; (try simp at hz4); (try have hz5 := Nat.lt_of_succ_le hz4)))
    go_ret
    exact ⟨by rw [HR.out]; rfl, (by repeat (first | exact Below.refl _ _ | assumption | (refine bl_alloc ?_ (Nat.le_refl _) _) | (refine bl_set ?_ (by simp <;> omega) _)))⟩
  rw [h1] at HVF
  by_cases h2 : 12 < L.length
  · have HR := hide (show linOk a b L = false by unfold linOk; rw [decide_eq_false (by omega)]; simp)
    go_enter Try.func16, Try.ntmps16
    go_wp2_with (first | (go_at_call 39; (with_reducible refine (HVF _).mono ?_); rintro e w1 ⟨rfl, hb1⟩; obtain ⟨hc1, hf1⟩ := bcell hb1; have hw1 : Below w.heap.size w w1 := bl_call (by repeat (first | exact Below.refl _ _ | assumption | (refine bl_alloc ?_ (Nat.le_refl _) _) | (refine bl_set ?_ (by simp <;> omega) _))) hb1; have hz1 : w.heap.size + 1 ≤ w1.heap.size := (by have hq := hb1.size; have hr := hw1.size; (try simp at hq); omega); have hza : w.heap.size < w1.heap.size := (by omega); have hz4 := hb1.size; (try simp at hz4); (try have hz5 := Nat.lt_of_succ_le hz4)))
    go_ret
    exact ⟨by rw [HR.out]; rfl, (by repeat (first | exact Below.refl _ _ | assumption | (refine bl_alloc ?_ (Nat.le_refl _) _) | (refine bl_set ?_ (by simp <;> omega) _)))⟩
  have HL := hide (show linOk a b L = linOkL L L.length by unfold linOk; rw [h1, decide_eq_true (by omega)]; rfl)
  have HBAD := hide (fun (k : Nat) (hk : k < L.length) (h : (tmOk (L.getD k t3d) && ordOk L k) = false) => linOk_bad (a := a) (b := b) hk h)
  have hn12 : L.length ≤ 12 := by omega
  generalize hn : L.length = n at *
  go_enter Try.func16, Try.ntmps16
  go_wp2_with (first | (go_at_call 39; (with_reducible refine (HVF _).mono ?_); rintro e w1 ⟨rfl, hb1⟩; obtain ⟨hc1, hf1⟩ := bcell hb1; have hw1 : Below w.heap.size w w1 := bl_call (by repeat (first | exact Below.refl _ _ | assumption | (refine bl_alloc ?_ (Nat.le_refl _) _) | (refine bl_set ?_ (by simp <;> omega) _))) hb1; have hz1 : w.heap.size + 1 ≤ w1.heap.size := (by have hq := hb1.size; have hr := hw1.size; (try simp at hq); omega); have hza : w.heap.size < w1.heap.size := (by omega); have hz4 := hb1.size; (try simp at hz4); (try have hz5 := Nat.lt_of_succ_le hz4); obtain ⟨wV, rfl⟩ : ∃ wV : World, wV = w1 := ⟨_, rfl⟩))
  have bV : Below (w.heap.size + 1) (w.alloc (.cells #[.int .i64 a, .int .i64 b, .slice A n ca] 32)) wV := by
    have hq : Below (w.alloc (.cells #[.int .i64 a, .int .i64 b, .slice A n ca] 32)).heap.size (w.alloc (.cells #[.int .i64 a, .int .i64 b, .slice A n ca] 32)) wV := by assumption
    exact hq.mono (by simp)
  have zV := bV.size
  simp at zV
  clear hb1 hc1 hf1 hw1
  go_loopw [2, 18] (fun rv iv wr => ∃ k : Nat, k ≤ n ∧ iv = .int .i64 k ∧ rv = .bool false ∧ Below (w.heap.size + 1) (w.alloc (.cells #[.int .i64 a, .int .i64 b, .slice A n ca] 32)) wr ∧ Hid (linOkL L k = true)) (fun _ iv _ => n - (intOf iv).toNat)
  case atStart => exact ⟨0, by omega, rfl, rfl, bV, rfl⟩
  case round =>
    obtain ⟨k, hk, rfl, rfl, hbw, hok⟩ := hrel
    have hbr : Below w.heap.size w wr := ((Below.refl _ _).alloc (Nat.le_refl _) _).trans (hbw.mono (by omega))
    have hzw := hbw.size
    simp at hzw
    have hza : w.heap.size < wr.heap.size := by omega
    clear bV
    by_cases hkn : k < n
    · obtain ⟨g, o, rfl, hg, hcg⟩ := hA (by omega)
      obtain ⟨a1, a2, a3⟩ := hcg k hkn
      obtain ⟨e1, e2, e3, _, _⟩ := hE k hkn
      have c1 := (hbr.cell (p := ⟨g, o + k * 3, none⟩) hg).trans a1
      have c2 := (hbr.cell (p := ⟨g, o + k * 3 + 1, none⟩) hg).trans a2
      have c3 := (hbr.cell (p := ⟨g, o + k * 3 + 2, none⟩) hg).trans a3
      have bx : wr.cell? ⟨w.heap.size, 2, none⟩ = some (.slice (some ⟨g, o, none⟩) n ca) := (hbw.cell (p := ⟨w.heap.size, 2, none⟩) (by simp)).trans (by simp [go_sem])
      have hgr : g < wr.heap.size := by omega
      have hgr2 : g < wr.heap.size + 1 := by omega
      have hza2 : w.heap.size < wr.heap.size + 1 := by omega
      obtain ⟨q, hq⟩ : ∃ q, L.getD k t3d = q := ⟨_, rfl⟩
      rw [hq] at c1 c2 c3 e1 e2 e3
      have HQ := hide hq
      obtain ⟨s, n1, d1⟩ := q
      simp only at c1 c2 c3 e1 e2 e3
      have HN := isName_i s e1
      have HVq := validFrac_i n1 d1 e2 e3
      have HE := hide hE
      have HC := hide hcg
      have HBW := hide hbw
      clear hq a1 a2 a3 hE hA hcg hbw
      cases p1 : isNm s
      · have HR := hide (HBAD.out k hkn (by rw [HQ.out]; unfold tmOk; simp [p1]))
        rw [p1] at HN
        clear p1
        go_wp2
        refine wp_region_quiet_below (by kernel_rfl) (by kernel_rfl) ?_
        repeat (first | go_big_quiet_step ((first | (go_at_call 40; with_reducible exact Calls.regrown_of (same_below (HN _))) | (go_at_call 39; with_reducible exact Calls.regrown_of (HVq _)))) | quiet_step ((first | (go_at_call 40; with_reducible exact Calls.regrown_of (same_below (HN _))) | (go_at_call 39; with_reducible exact Calls.regrown_of (HVq _)))))
        refine wpQuiet_nil ?_
        intro w1 hw1
        obtain ⟨pq, hpq⟩ := hw1
        have hb1 := below_of hpq
        clear hpq pq
        have hz4 := hb1.size
        (try simp at hz4)
        obtain ⟨hc1, hf1⟩ := bcell hb1
        have hw1 : Below w.heap.size w w1 := bl_call (by repeat (first | exact Below.refl _ _ | assumption | (refine bl_alloc ?_ (Nat.le_refl _) _) | (refine bl_set ?_ (by simp <;> omega) _))) hb1
        have hz1 : w.heap.size + 1 ≤ w1.heap.size := (by have hq := hb1.size; have hr := hw1.size; (try simp at hq); omega)
        have hza : w.heap.size < w1.heap.size := (by omega)
        go_wp2
        go_ret
        exact ⟨by rw [HR.out]; rfl, hw1⟩
      rw [p1] at HN
      cases p2 : okFr n1 d1
      · have HR := hide (HBAD.out k hkn (by rw [HQ.out]; unfold tmOk; simp [p2]))
        rw [p2] at HVq
        clear p1 p2
        go_wp2
        refine wp_region_quiet_below (by kernel_rfl) (by kernel_rfl) ?_
        repeat (first | go_big_quiet_step ((first | (go_at_call 40; with_reducible exact Calls.regrown_of (same_below (HN _))) | (go_at_call 39; with_reducible exact Calls.regrown_of (HVq _)))) | quiet_step ((first | (go_at_call 40; with_reducible exact Calls.regrown_of (same_below (HN _))) | (go_at_call 39; with_reducible exact Calls.regrown_of (HVq _)))))
        refine wpQuiet_nil ?_
        intro w1 hw1
        obtain ⟨pq, hpq⟩ := hw1
        have hb1 := below_of hpq
        clear hpq pq
        have hz4 := hb1.size
        (try simp at hz4)
        obtain ⟨hc1, hf1⟩ := bcell hb1
        have hw1 : Below w.heap.size w w1 := bl_call (by repeat (first | exact Below.refl _ _ | assumption | (refine bl_alloc ?_ (Nat.le_refl _) _) | (refine bl_set ?_ (by simp <;> omega) _))) hb1
        have hz1 : w.heap.size + 1 ≤ w1.heap.size := (by have hq := hb1.size; have hr := hw1.size; (try simp at hq); omega)
        have hza : w.heap.size < w1.heap.size := (by omega)
        go_wp2
        go_ret
        exact ⟨by rw [HR.out]; rfl, hw1⟩
      rw [p2] at HVq
      by_cases p3 : n1 = 0
      · have HR := hide (HBAD.out k hkn (by rw [HQ.out]; unfold tmOk; simp [p3]))
        clear p1 p2
        subst p3
        go_wp2
        refine wp_region_quiet_below (by kernel_rfl) (by kernel_rfl) ?_
        repeat (first | go_big_quiet_step ((first | (go_at_call 40; with_reducible exact Calls.regrown_of (same_below (HN _))) | (go_at_call 39; with_reducible exact Calls.regrown_of (HVq _)))) | quiet_step ((first | (go_at_call 40; with_reducible exact Calls.regrown_of (same_below (HN _))) | (go_at_call 39; with_reducible exact Calls.regrown_of (HVq _)))))
        refine wpQuiet_nil ?_
        intro w1 hw1
        obtain ⟨pq, hpq⟩ := hw1
        have hb1 := below_of hpq
        clear hpq pq
        have hz4 := hb1.size
        (try simp at hz4)
        obtain ⟨hc1, hf1⟩ := bcell hb1
        have hw1 : Below w.heap.size w w1 := bl_call (by repeat (first | exact Below.refl _ _ | assumption | (refine bl_alloc ?_ (Nat.le_refl _) _) | (refine bl_set ?_ (by simp <;> omega) _))) hb1
        have hz1 : w.heap.size + 1 ≤ w1.heap.size := (by have hq := hb1.size; have hr := hw1.size; (try simp at hq); omega)
        have hza : w.heap.size < w1.heap.size := (by omega)
        go_wp2
        go_ret
        exact ⟨by rw [HR.out]; rfl, hw1⟩
      have p4 : (n1 == 0) = false := by simpa using p3
      have HT := hide (show tmOk (L.getD k t3d) = true by rw [HQ.out]; unfold tmOk; simp [p1, p2, p3])
      by_cases k0 : k = 0
      · have HS := hide (linOkL_s hok.out (by rw [HT.out, k0]; rfl))
        have hm0 : decide (0 < k) = false := decide_eq_false (by omega)
        clear k0
        clear p1 p2
        go_wp2
        refine wp_region_quiet_below (by kernel_rfl) (by kernel_rfl) ?_
        repeat (first | go_big_quiet_step ((first | (go_at_call 40; with_reducible exact Calls.regrown_of (same_below (HN _))) | (go_at_call 39; with_reducible exact Calls.regrown_of (HVq _)))) | quiet_step ((first | (go_at_call 40; with_reducible exact Calls.regrown_of (same_below (HN _))) | (go_at_call 39; with_reducible exact Calls.regrown_of (HVq _)))))
        refine wpQuiet_nil ?_
        intro w1 hw1
        obtain ⟨pq, hpq⟩ := hw1
        have hb1 := below_of hpq
        clear hpq pq
        have hz4 := hb1.size
        (try simp at hz4)
        obtain ⟨hc1, hf1⟩ := bcell hb1
        have hw1 : Below w.heap.size w w1 := bl_call (by repeat (first | exact Below.refl _ _ | assumption | (refine bl_alloc ?_ (Nat.le_refl _) _) | (refine bl_set ?_ (by simp <;> omega) _))) hb1
        have hz1 : w.heap.size + 1 ≤ w1.heap.size := (by have hq := hb1.size; have hr := hw1.size; (try simp at hq); omega)
        have hza : w.heap.size < w1.heap.size := (by omega)
        go_wp2
        go_roundw
        case rel => exact ⟨k + 1, by omega, by go_num, rfl, (HBW.out.alloc (by omega) _).trans (hb1.mono (by simp; omega)), HS⟩
        case measure => simp [intOf]; omega
      · obtain ⟨m, rfl⟩ : ∃ m, k = m + 1 := ⟨k - 1, by omega⟩
        obtain ⟨b1, _, _⟩ := HC.out m (by omega)
        have d0 := (hbr.cell (p := ⟨g, o + m * 3, none⟩) hg).trans b1
        obtain ⟨qp, hqp⟩ : ∃ qp, (L.getD m t3d).1 = qp := ⟨_, rfl⟩
        rw [hqp] at d0
        have s1 : IntKind.i64.wrap (m : Int) = m := IntWalk.i64_in _ (by omega)
        have hm0 : 0 < ((m : Int) + 1) := by omega
        have hm1 : (m : Int) < n := by omega
        cases hl : Go.Op.bytesLess qp.toList s.toList
        · have HR := hide (HBAD.out (m + 1) hkn (by rw [HT.out]; show (true && lessB (L.getD m t3d).1 (L.getD (m + 1) t3d).1) = _; unfold lessB; rw [HQ.out, hqp, hl]; rfl))
          clear p1 p2 b1 hqp
          go_wp2
          refine wp_region_quiet_below (by kernel_rfl) (by kernel_rfl) ?_
          repeat (first | go_big_quiet_step ((first | (go_at_call 40; with_reducible exact Calls.regrown_of (same_below (HN _))) | (go_at_call 39; with_reducible exact Calls.regrown_of (HVq _)))) | quiet_step ((first | (go_at_call 40; with_reducible exact Calls.regrown_of (same_below (HN _))) | (go_at_call 39; with_reducible exact Calls.regrown_of (HVq _)))))
          refine wpQuiet_nil ?_
          intro w1 hw1
          obtain ⟨pq, hpq⟩ := hw1
          have hb1 := below_of hpq
          clear hpq pq
          have hz4 := hb1.size
          (try simp at hz4)
          obtain ⟨hc1, hf1⟩ := bcell hb1
          have hw1 : Below w.heap.size w w1 := bl_call (by repeat (first | exact Below.refl _ _ | assumption | (refine bl_alloc ?_ (Nat.le_refl _) _) | (refine bl_set ?_ (by simp <;> omega) _))) hb1
          have hz1 : w.heap.size + 1 ≤ w1.heap.size := (by have hq := hb1.size; have hr := hw1.size; (try simp at hq); omega)
          have hza : w.heap.size < w1.heap.size := (by omega)
          go_wp2
          go_ret
          exact ⟨by rw [HR.out]; rfl, hw1⟩
        · have HS := hide (linOkL_s hok.out (by rw [HT.out]; show (true && lessB (L.getD m t3d).1 (L.getD (m + 1) t3d).1) = _; unfold lessB; rw [HQ.out, hqp, hl]; rfl))
          clear p1 p2 b1 hqp
          go_wp2
          refine wp_region_quiet_below (by kernel_rfl) (by kernel_rfl) ?_
          repeat (first | go_big_quiet_step ((first | (go_at_call 40; with_reducible exact Calls.regrown_of (same_below (HN _))) | (go_at_call 39; with_reducible exact Calls.regrown_of (HVq _)))) | quiet_step ((first | (go_at_call 40; with_reducible exact Calls.regrown_of (same_below (HN _))) | (go_at_call 39; with_reducible exact Calls.regrown_of (HVq _)))))
          refine wpQuiet_nil ?_
          intro w1 hw1
          obtain ⟨pq, hpq⟩ := hw1
          have hb1 := below_of hpq
          clear hpq pq
          have hz4 := hb1.size
          (try simp at hz4)
          obtain ⟨hc1, hf1⟩ := bcell hb1
          have hw1 : Below w.heap.size w w1 := bl_call (by repeat (first | exact Below.refl _ _ | assumption | (refine bl_alloc ?_ (Nat.le_refl _) _) | (refine bl_set ?_ (by simp <;> omega) _))) hb1
          have hz1 : w.heap.size + 1 ≤ w1.heap.size := (by have hq := hb1.size; have hr := hw1.size; (try simp at hq); omega)
          have hza : w.heap.size < w1.heap.size := (by omega)
          go_wp2
          go_roundw
          case rel => exact ⟨m + 1 + 1, by omega, by go_num, rfl, (HBW.out.alloc (by omega) _).trans (hb1.mono (by simp; omega)), HS⟩
          case measure => simp [intOf]; omega
    · obtain rfl : k = n := by omega
      go_wp2
      go_ret
      exact ⟨by rw [HL.out, hok.out]; rfl, hbr⟩
end Go.Proofs.Ythojgmhionekbaa
