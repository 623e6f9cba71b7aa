/-
  CONTRACTS: slices.Equal at terms, SameLinear of both packages. Conditions: what the slices hold.
-/
import Derived.Test.YthojgmhionekbaaLinA
import Derived.BigRegion
namespace Go.Proofs.Ythojgmhionekbaa
open Go.RowKit Go.Sort
set_option linter.unusedVariables false
attribute [local go_sem] cell_grow frozen_grow
/-- the same terms, the same expression -/
def sameT (L M : List T3) (n : Nat) : Bool := allN (fun k => decide (L.getD k t3d = M.getD k t3d)) n
def sameTL (L M : List T3) : Bool := decide (L.length = M.length) && sameT L M L.length
def sameLin (a b : Int) (L : List T3) (c d : Int) (M : List T3) : Bool := decide (a = c ∧ b = d) && sameTL L M
theorem sameT_s {L M : List T3} {k : Nat} (h0 : sameT L M k = true) (h : L.getD k t3d = M.getD k t3d) : sameT L M (k + 1) = true := by
  unfold sameT at *
  rw [allN, h0, decide_eq_true h]; rfl
theorem sameT_bad {L M : List T3} {k : Nat} (hk : k < L.length) (h : ¬ L.getD k t3d = M.getD k t3d) : sameTL L M = false := by
  unfold sameTL sameT
  rw [allN_f (p := fun k => decide (L.getD k t3d = M.getD k t3d)) (decide_eq_false h) _ hk, Bool.and_false]

set_option maxRecDepth 100000 in
set_option maxHeartbeats 16000000 in
theorem equalT_any (x y : Value) (L M : List T3) (hl : L.length ≤ maxLen) (hm : M.length ≤ maxLen) (w : World) (hx : TermsAt w x L) (hy : TermsAt w y M) : Calls Try.prog 36 #[x, y] w fun e w' => e = .returned (.bool (sameTL L M)) ∧ Below w.heap.size w w' := by
  obtain ⟨A, ca, rfl, hA⟩ := hx
  obtain ⟨B, cb, rfl, hB⟩ := hy
  simp only [maxLen] at hl hm
  by_cases hlm : L.length = M.length
  · have HBAD := hide (fun k (hk : k < L.length) (h : ¬ L.getD k t3d = M.getD k t3d) => sameT_bad hk h)
    have HG := hide (show sameTL L M = sameT L M L.length by unfold sameTL; rw [decide_eq_true hlm]; rfl)
    rw [← hlm] at hB ⊢
    generalize hn : L.length = n at *
    have hnn : ((n : Int) != (n : Int)) = false := by simp
    clear hm hlm
    go_enter Try.func36, Try.ntmps36
    go_wp2
    go_loopw [5, 13] (fun s5 iv wr => ∃ k : Nat, k ≤ n ∧ iv = .int .i64 k ∧ Below w.heap.size w wr ∧ Hid (sameT L M k = true)) (fun _ iv _ => n - (intOf iv).toNat)
    case atStart => exact ⟨0, by omega, rfl, Below.refl _ _, rfl⟩
    case round =>
      obtain ⟨k, hk, rfl, hbw, hok⟩ := hrel
      by_cases hkn : k < n
      · obtain ⟨g, o, rfl, hg, hcg⟩ := hA (by omega)
        obtain ⟨f, p, rfl, hf, hcf⟩ := hB (by omega)
        obtain ⟨a1, a2, a3⟩ := hcg k hkn
        obtain ⟨b1, b2, b3⟩ := hcf k hkn
        have c1 := (hbw.cell (p := ⟨g, o + k * 3, none⟩) hg).trans a1
        have c2 := (hbw.cell (p := ⟨g, o + k * 3 + 1, none⟩) hg).trans a2
        have c3 := (hbw.cell (p := ⟨g, o + k * 3 + 2, none⟩) hg).trans a3
        have c4 := (hbw.cell (p := ⟨f, p + k * 3, none⟩) hf).trans b1
        have c5 := (hbw.cell (p := ⟨f, p + k * 3 + 1, none⟩) hf).trans b2
        have c6 := (hbw.cell (p := ⟨f, p + k * 3 + 2, none⟩) hf).trans b3
        obtain ⟨q, hq⟩ : ∃ q, L.getD k t3d = q := ⟨_, rfl⟩
        obtain ⟨r, hr⟩ : ∃ r, M.getD k t3d = r := ⟨_, rfl⟩
        rw [hq] at c1 c2 c3
        rw [hr] at c4 c5 c6
        have HQ := hide hq
        have HR := hide hr
        obtain ⟨s, x1, y1⟩ := q
        obtain ⟨t, x2, y2⟩ := r
        simp only at c1 c2 c3 c4 c5 c6
        have hgr : g < wr.heap.size := Nat.lt_of_lt_of_le hg hbw.size
        have hfr : f < wr.heap.size := Nat.lt_of_lt_of_le hf hbw.size
        have HBW := hide hbw
        clear hq hr a1 a2 a3 b1 b2 b3 hA hB hcg hcf hbw

        by_cases d1 : s = t
        · subst d1
          have s1 := ba_beq (rfl : s = s)
          have s2 := ba_bne (rfl : s = s)
          by_cases d2 : x1 = x2
          · subst d2
            by_cases d3 : y1 = y2
            · subst d3
              have HS := hide (sameT_s hok.out (by rw [HQ.out, HR.out]))
              go_wp2
              refine wp_region_quiet_below (by kernel_rfl) (by kernel_rfl) ?_
              repeat (first | go_big_quiet_step (((go_at_call 3; with_reducible exact Calls.regrown_of (trivial)))) | quiet_step (((go_at_call 3; with_reducible exact Calls.regrown_of (trivial)))))
              refine wpQuiet_nil ?_
              intro w1 hw1
              obtain ⟨pq, hpq⟩ := hw1
              have hb1 := below_of hpq
              clear hpq pq
              have hz4 := hb1.size
              (try simp at hz4)
              obtain ⟨hc1, hf1⟩ := bcell hb1
              have hw1 : Below w.heap.size w w1 := bl_call (by repeat (first | exact Below.refl _ _ | assumption | (refine bl_alloc ?_ (Nat.le_refl _) _) | (refine bl_set ?_ (by simp <;> omega) _))) hb1
              have hz1 : w.heap.size + 0 ≤ w1.heap.size := (by have hq := hb1.size; have hr := hw1.size; (try simp at hq); omega)
              go_wp2
              go_roundw
              case rel => exact ⟨k + 1, by omega, by go_num, hw1, HS⟩
              case measure => simp [intOf]; omega
            · have q1 : (y1 == y2) = false := by simp; omega
              have q2 : (y1 != y2) = true := by simp; omega
              have HX := hide (HBAD.out k hkn (by rw [HQ.out, HR.out]; intro h; simp only [Prod.mk.injEq] at h; exact d3 h.2.2))
              go_wp2
              refine wp_region_quiet_below (by kernel_rfl) (by kernel_rfl) ?_
              repeat (first | go_big_quiet_step (((go_at_call 3; with_reducible exact Calls.regrown_of (trivial)))) | quiet_step (((go_at_call 3; with_reducible exact Calls.regrown_of (trivial)))))
              refine wpQuiet_nil ?_
              intro w1 hw1
              obtain ⟨pq, hpq⟩ := hw1
              have hb1 := below_of hpq
              clear hpq pq
              have hz4 := hb1.size
              (try simp at hz4)
              obtain ⟨hc1, hf1⟩ := bcell hb1
              have hw1 : Below w.heap.size w w1 := bl_call (by repeat (first | exact Below.refl _ _ | assumption | (refine bl_alloc ?_ (Nat.le_refl _) _) | (refine bl_set ?_ (by simp <;> omega) _))) hb1
              have hz1 : w.heap.size + 0 ≤ w1.heap.size := (by have hq := hb1.size; have hr := hw1.size; (try simp at hq); omega)
              go_wp2
              go_ret
              exact ⟨by rw [HX.out]; rfl, hw1⟩
          · have q1 : (x1 == x2) = false := by simp; omega
            have q2 : (x1 != x2) = true := by simp; omega
            have HX := hide (HBAD.out k hkn (by rw [HQ.out, HR.out]; intro h; simp only [Prod.mk.injEq] at h; exact d2 h.2.1))
            go_wp2
            refine wp_region_quiet_below (by kernel_rfl) (by kernel_rfl) ?_
            repeat (first | go_big_quiet_step (((go_at_call 3; with_reducible exact Calls.regrown_of (trivial)))) | quiet_step (((go_at_call 3; with_reducible exact Calls.regrown_of (trivial)))))
            refine wpQuiet_nil ?_
            intro w1 hw1
            obtain ⟨pq, hpq⟩ := hw1
            have hb1 := below_of hpq
            clear hpq pq
            have hz4 := hb1.size
            (try simp at hz4)
            obtain ⟨hc1, hf1⟩ := bcell hb1
            have hw1 : Below w.heap.size w w1 := bl_call (by repeat (first | exact Below.refl _ _ | assumption | (refine bl_alloc ?_ (Nat.le_refl _) _) | (refine bl_set ?_ (by simp <;> omega) _))) hb1
            have hz1 : w.heap.size + 0 ≤ w1.heap.size := (by have hq := hb1.size; have hr := hw1.size; (try simp at hq); omega)
            go_wp2
            go_ret
            exact ⟨by rw [HX.out]; rfl, hw1⟩
        · have s1 := ba_nbeq d1
          have s2 := ba_nbne d1
          have HX := hide (HBAD.out k hkn (by rw [HQ.out, HR.out]; intro h; simp only [Prod.mk.injEq] at h; exact d1 h.1))
          go_wp2
          refine wp_region_quiet_below (by kernel_rfl) (by kernel_rfl) ?_
          repeat (first | go_big_quiet_step (((go_at_call 3; with_reducible exact Calls.regrown_of (trivial)))) | quiet_step (((go_at_call 3; with_reducible exact Calls.regrown_of (trivial)))))
          refine wpQuiet_nil ?_
          intro w1 hw1
          obtain ⟨pq, hpq⟩ := hw1
          have hb1 := below_of hpq
          clear hpq pq
          have hz4 := hb1.size
          (try simp at hz4)
          obtain ⟨hc1, hf1⟩ := bcell hb1
          have hw1 : Below w.heap.size w w1 := bl_call (by repeat (first | exact Below.refl _ _ | assumption | (refine bl_alloc ?_ (Nat.le_refl _) _) | (refine bl_set ?_ (by simp <;> omega) _))) hb1
          have hz1 : w.heap.size + 0 ≤ w1.heap.size := (by have hq := hb1.size; have hr := hw1.size; (try simp at hq); omega)
          go_wp2
          go_ret
          exact ⟨by rw [HX.out]; rfl, hw1⟩
      · obtain rfl : k = n := by omega
        have HBW := hide hbw
        clear hbw
        go_wp2
        go_ret
        exact ⟨by rw [HG.out, hok.out]; rfl, HBW.out⟩
  · have HX := hide (show sameTL L M = false by unfold sameTL; rw [decide_eq_false hlm]; rfl)
    have q1 : ((L.length : Int) != (M.length : Int)) = true := by simp; omega
    have q2 : ((L.length : Int) == (M.length : Int)) = false := by simp; omega
    go_enter Try.func36, Try.ntmps36
    go_wp2
    go_ret
    exact ⟨by rw [HX.out]; rfl, Below.refl _ _⟩
set_option maxRecDepth 100000 in
set_option maxHeartbeats 16000000 in
theorem sameLinear_i (a b c d : Int) (x y : Value) (L M : List T3) (hl : L.length ≤ maxLen) (hm : M.length ≤ maxLen) (w : World) (hx : TermsAt w x L) (hy : TermsAt w y M) : Calls Try.prog 13 #[.agg #[.int .i64 a, .int .i64 b, x], .agg #[.int .i64 c, .int .i64 d, y]] w fun e w' => e = .returned (.bool (sameLin a b L c d M)) ∧ Below w.heap.size w w' := by
  have HE := hide (fun W (hW : Below w.heap.size w W) => equalT_any x y L M hl hm W (hx.later hW) (hy.later hW))
  obtain ⟨A, ca, rfl, _⟩ := hx
  obtain ⟨B, cb, rfl, _⟩ := hy
  clear hl hm
  by_cases d1 : a = c
  · subst d1
    by_cases d2 : b = d
    · subst d2
      have HR := hide (show sameLin a b L a b M = sameTL L M by unfold sameLin; simp)
      go_enter Try.func13, Try.ntmps13
      go_wp2_with fail
      (with_reducible refine (HE.out _ (by repeat (first | (with_reducible refine bl_set ?_ (by simp <;> omega) _) | (with_reducible refine bl_alloc ?_ (Nat.le_refl _) _) | (with_reducible refine Below.drew ?_) | (with_reducible assumption) | (with_reducible exact Below.refl _ _)))).mono ?_)
      rintro e w1 ⟨rfl, hb1⟩
      go_wp2
      go_ret
      exact ⟨by rw [HR.out]; rfl, bl_call (by repeat (first | (with_reducible refine bl_set ?_ (by simp <;> omega) _) | (with_reducible refine bl_alloc ?_ (Nat.le_refl _) _) | (with_reducible refine Below.drew ?_) | (with_reducible assumption) | (with_reducible exact Below.refl _ _))) hb1⟩
    · have HX := hide (show sameLin a b L a d M = false by unfold sameLin; rw [decide_eq_false (fun h => d2 h.2)]; rfl)
      have q1 : (b == d) = false := by simp; omega
      have q2 : (b != d) = true := by simp; omega
      go_enter Try.func13, Try.ntmps13
      go_wp2
      go_ret
      exact ⟨by rw [HX.out]; rfl, (by repeat (first | exact Below.refl _ _ | assumption | (refine bl_alloc ?_ (Nat.le_refl _) _) | (refine bl_set ?_ (by simp <;> omega) _)))⟩
  · have HX := hide (show sameLin a b L c d M = false by unfold sameLin; rw [decide_eq_false (fun h => d1 h.1)]; rfl)
    have q1 : (a == c) = false := by simp; omega
    have q2 : (a != c) = true := by simp; omega
    go_enter Try.func13, Try.ntmps13
    go_wp2
    go_ret
    exact ⟨by rw [HX.out]; rfl, (by repeat (first | exact Below.refl _ _ | assumption | (refine bl_alloc ?_ (Nat.le_refl _) _) | (refine bl_set ?_ (by simp <;> omega) _)))⟩
set_option maxRecDepth 100000 in
set_option maxHeartbeats 16000000 in
theorem sameLinear_s (a b c d : Int) (x y : Value) (L M : List T3) (hl : L.length ≤ maxLen) (hm : M.length ≤ maxLen) (w : World) (hx : TermsAt w x L) (hy : TermsAt w y M) : Calls Try.prog 11 #[.agg #[.int .i64 a, .int .i64 b, x], .agg #[.int .i64 c, .int .i64 d, y]] w fun e w' => e = .returned (.bool (sameLin a b L c d M)) ∧ Below w.heap.size w w' := by
  obtain ⟨A, ca, rfl, hA⟩ := hx
  obtain ⟨B, cb, rfl, hB⟩ := hy
  simp only [maxLen] at hl hm
  by_cases d1 : a = c
  · subst d1
    by_cases d2 : b = d
    · subst d2
      by_cases hlm : L.length = M.length
      · have HBAD := hide (fun k (hk : k < L.length) (h : ¬ L.getD k t3d = M.getD k t3d) => (show sameLin a b L a b M = false by unfold sameLin; rw [sameT_bad hk h, Bool.and_false]))
        have HG := hide (show sameLin a b L a b M = sameT L M L.length by unfold sameLin sameTL; rw [decide_eq_true hlm]; simp)
        rw [← hlm] at hB ⊢
        generalize hn : L.length = n at *
        have hnn : ((n : Int) != (n : Int)) = false := by simp
        clear hm hlm
        go_enter Try.func11, Try.ntmps11
        go_wp2
        go_loopw [4, 5] (fun rv iv wr => ∃ k : Nat, k ≤ n ∧ iv = .int .i64 k ∧ rv = .bool false ∧ Below (w.heap.size + 1 + 1) ((w.alloc (.cells #[.int .i64 a, .int .i64 b, .slice A n ca] 32)).alloc (.cells #[.int .i64 a, .int .i64 b, .slice B n cb] 32)) wr ∧ Hid (sameT L M k = true)) (fun _ iv _ => n - (intOf iv).toNat)
        case atStart => exact ⟨0, by omega, rfl, rfl, Below.refl _ _, rfl⟩
        case round =>
          obtain ⟨k, hk, rfl, rfl, hbx, hok⟩ := hrel
          have hbw : Below w.heap.size w wr := (((Below.refl _ _).alloc (Nat.le_refl _) _).alloc (by simp) _).trans (hbx.mono (by omega))
          have bx : wr.cell? ⟨w.heap.size, 2, none⟩ = some (.slice A n ca) := (hbx.cell (p := ⟨w.heap.size, 2, none⟩) (by simp; omega)).trans (by simp [go_sem])
          have bz : wr.cell? ⟨w.heap.size + 1, 2, none⟩ = some (.slice B n cb) := (hbx.cell (p := ⟨w.heap.size + 1, 2, none⟩) (by simp)).trans (by simp [go_sem])
          have hzx := hbx.size
          simp at hzx
          have hza : w.heap.size < wr.heap.size := by omega
          have hzb : w.heap.size + 1 < wr.heap.size := by omega
          have HBX := hide hbx
          clear hbx
          by_cases hkn : k < n
          · obtain ⟨g, o, rfl, hg, hcg⟩ := hA (by omega)
            obtain ⟨f, p, rfl, hf, hcf⟩ := hB (by omega)
            obtain ⟨a1, a2, a3⟩ := hcg k hkn
            obtain ⟨b1, b2, b3⟩ := hcf k hkn
            have c1 := (hbw.cell (p := ⟨g, o + k * 3, none⟩) hg).trans a1
            have c2 := (hbw.cell (p := ⟨g, o + k * 3 + 1, none⟩) hg).trans a2
            have c3 := (hbw.cell (p := ⟨g, o + k * 3 + 2, none⟩) hg).trans a3
            have c4 := (hbw.cell (p := ⟨f, p + k * 3, none⟩) hf).trans b1
            have c5 := (hbw.cell (p := ⟨f, p + k * 3 + 1, none⟩) hf).trans b2
            have c6 := (hbw.cell (p := ⟨f, p + k * 3 + 2, none⟩) hf).trans b3
            obtain ⟨q, hq⟩ : ∃ q, L.getD k t3d = q := ⟨_, rfl⟩
            obtain ⟨r, hr⟩ : ∃ r, M.getD k t3d = r := ⟨_, rfl⟩
            rw [hq] at c1 c2 c3
            rw [hr] at c4 c5 c6
            have HQ := hide hq
            have HR := hide hr
            obtain ⟨s, x1, y1⟩ := q
            obtain ⟨t, x2, y2⟩ := r
            simp only at c1 c2 c3 c4 c5 c6
            have hgr : g < wr.heap.size := Nat.lt_of_lt_of_le hg hbw.size
            have hfr : f < wr.heap.size := Nat.lt_of_lt_of_le hf hbw.size
            have HBW := hide hbw
            clear hq hr a1 a2 a3 b1 b2 b3 hA hB hcg hcf hbw

            by_cases d1 : s = t
            · subst d1
              have s1 := ba_beq (rfl : s = s)
              have s2 := ba_bne (rfl : s = s)
              by_cases d2 : x1 = x2
              · subst d2
                by_cases d3 : y1 = y2
                · subst d3
                  have HS := hide (sameT_s hok.out (by rw [HQ.out, HR.out]))
                  go_wp2
                  refine wp_region_quiet_below (by kernel_rfl) (by kernel_rfl) ?_
                  repeat (first | go_big_quiet_step (((go_at_call 3; with_reducible exact Calls.regrown_of (trivial)))) | quiet_step (((go_at_call 3; with_reducible exact Calls.regrown_of (trivial)))))
                  refine wpQuiet_nil ?_
                  intro w1 hw1
                  obtain ⟨pq, hpq⟩ := hw1
                  have hb1 := below_of hpq
                  clear hpq pq
                  have hz4 := hb1.size
                  (try simp at hz4)
                  obtain ⟨hc1, hf1⟩ := bcell hb1
                  have hw1 : Below w.heap.size w w1 := bl_call (by repeat (first | exact Below.refl _ _ | assumption | (refine bl_alloc ?_ (Nat.le_refl _) _) | (refine bl_set ?_ (by simp <;> omega) _))) hb1
                  have hz1 : w.heap.size + 0 ≤ w1.heap.size := (by have hq := hb1.size; have hr := hw1.size; (try simp at hq); omega)
                  go_wp2
                  go_roundw
                  case rel => exact ⟨k + 1, by omega, by go_num, rfl, HBX.out.trans (hb1.mono (by omega)), HS⟩
                  case measure => simp [intOf]; omega
                · have q1 : (y1 == y2) = false := by simp; omega
                  have q2 : (y1 != y2) = true := by simp; omega
                  have HX := hide (HBAD.out k hkn (by rw [HQ.out, HR.out]; intro h; simp only [Prod.mk.injEq] at h; exact d3 h.2.2))
                  go_wp2
                  refine wp_region_quiet_below (by kernel_rfl) (by kernel_rfl) ?_
                  repeat (first | go_big_quiet_step (((go_at_call 3; with_reducible exact Calls.regrown_of (trivial)))) | quiet_step (((go_at_call 3; with_reducible exact Calls.regrown_of (trivial)))))
                  refine wpQuiet_nil ?_
                  intro w1 hw1
                  obtain ⟨pq, hpq⟩ := hw1
                  have hb1 := below_of hpq
                  clear hpq pq
                  have hz4 := hb1.size
                  (try simp at hz4)
                  obtain ⟨hc1, hf1⟩ := bcell hb1
                  have hw1 : Below w.heap.size w w1 := bl_call (by repeat (first | exact Below.refl _ _ | assumption | (refine bl_alloc ?_ (Nat.le_refl _) _) | (refine bl_set ?_ (by simp <;> omega) _))) hb1
                  have hz1 : w.heap.size + 0 ≤ w1.heap.size := (by have hq := hb1.size; have hr := hw1.size; (try simp at hq); omega)
                  go_wp2
                  go_ret
                  exact ⟨by rw [HX.out]; rfl, hw1⟩
              · have q1 : (x1 == x2) = false := by simp; omega
                have q2 : (x1 != x2) = true := by simp; omega
                have HX := hide (HBAD.out k hkn (by rw [HQ.out, HR.out]; intro h; simp only [Prod.mk.injEq] at h; exact d2 h.2.1))
                go_wp2
                refine wp_region_quiet_below (by kernel_rfl) (by kernel_rfl) ?_
                repeat (first | go_big_quiet_step (((go_at_call 3; with_reducible exact Calls.regrown_of (trivial)))) | quiet_step (((go_at_call 3; with_reducible exact Calls.regrown_of (trivial)))))
                refine wpQuiet_nil ?_
                intro w1 hw1
                obtain ⟨pq, hpq⟩ := hw1
                have hb1 := below_of hpq
                clear hpq pq
                have hz4 := hb1.size
                (try simp at hz4)
                obtain ⟨hc1, hf1⟩ := bcell hb1
                have hw1 : Below w.heap.size w w1 := bl_call (by repeat (first | exact Below.refl _ _ | assumption | (refine bl_alloc ?_ (Nat.le_refl _) _) | (refine bl_set ?_ (by simp <;> omega) _))) hb1
                have hz1 : w.heap.size + 0 ≤ w1.heap.size := (by have hq := hb1.size; have hr := hw1.size; (try simp at hq); omega)
                go_wp2
                go_ret
                exact ⟨by rw [HX.out]; rfl, hw1⟩
            · have s1 := ba_nbeq d1
              have s2 := ba_nbne d1
              have HX := hide (HBAD.out k hkn (by rw [HQ.out, HR.out]; intro h; simp only [Prod.mk.injEq] at h; exact d1 h.1))
              go_wp2
              refine wp_region_quiet_below (by kernel_rfl) (by kernel_rfl) ?_
              repeat (first | go_big_quiet_step (((go_at_call 3; with_reducible exact Calls.regrown_of (trivial)))) | quiet_step (((go_at_call 3; with_reducible exact Calls.regrown_of (trivial)))))
              refine wpQuiet_nil ?_
              intro w1 hw1
              obtain ⟨pq, hpq⟩ := hw1
              have hb1 := below_of hpq
              clear hpq pq
              have hz4 := hb1.size
              (try simp at hz4)
              obtain ⟨hc1, hf1⟩ := bcell hb1
              have hw1 : Below w.heap.size w w1 := bl_call (by repeat (first | exact Below.refl _ _ | assumption | (refine bl_alloc ?_ (Nat.le_refl _) _) | (refine bl_set ?_ (by simp <;> omega) _))) hb1
              have hz1 : w.heap.size + 0 ≤ w1.heap.size := (by have hq := hb1.size; have hr := hw1.size; (try simp at hq); omega)
              go_wp2
              go_ret
              exact ⟨by rw [HX.out]; rfl, hw1⟩
          · obtain rfl : k = n := by omega
            have HBW := hide hbw
            clear hbw
            go_wp2
            go_ret
            exact ⟨by rw [HG.out, hok.out]; rfl, HBW.out⟩
      · have HX := hide (show sameLin a b L a b M = false by unfold sameLin sameTL; rw [decide_eq_false hlm]; simp)
        have q1 : ((L.length : Int) != (M.length : Int)) = true := by simp; omega
        have q2 : ((L.length : Int) == (M.length : Int)) = false := by simp; omega
        go_enter Try.func11, Try.ntmps11
        go_wp2
        go_ret
        exact ⟨by rw [HX.out]; rfl, (by repeat (first | exact Below.refl _ _ | assumption | (refine bl_alloc ?_ (Nat.le_refl _) _) | (refine bl_set ?_ (by simp <;> omega) _)))⟩
    · have HX := hide (show sameLin a b L a d M = false by unfold sameLin; rw [decide_eq_false (fun h => d2 h.2)]; rfl)
      have q1 : (b == d) = false := by simp; omega
      have q2 : (b != d) = true := by simp; omega
      go_enter Try.func11, Try.ntmps11
      go_wp2
      go_ret
      exact ⟨by rw [HX.out]; rfl, (by repeat (first | exact Below.refl _ _ | assumption | (refine bl_alloc ?_ (Nat.le_refl _) _) | (refine bl_set ?_ (by simp <;> omega) _)))⟩
  · have HX := hide (show sameLin a b L c d M = false by unfold sameLin; rw [decide_eq_false (fun h => d1 h.1)]; rfl)
    have q1 : (a == c) = false := by simp; omega
    have q2 : (a != c) = true := by simp; omega
    go_enter Try.func11, Try.ntmps11
    go_wp2
    go_ret
    exact ⟨by rw [HX.out]; rfl, (by repeat (first | exact Below.refl _ _ | assumption | (refine bl_alloc ?_ (Nat.le_refl _) _) | (refine bl_set ?_ (by simp <;> omega) _)))⟩
end Go.Proofs.Ythojgmhionekbaa
