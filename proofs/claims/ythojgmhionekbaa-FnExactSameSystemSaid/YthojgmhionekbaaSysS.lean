/-
  CONTRACTS of SameSystem (packages impl and spec), with slices.EqualFunc at rows. Conditions: what the slices hold.
-/
import Derived.Test.YthojgmhionekbaaSysA
import Derived.Test.YthojgmhionekbaaSameA
import Derived.BigRegion
namespace Go.Proofs.Ythojgmhionekbaa
open Go.RowKit Go.Sort
set_option linter.unusedVariables false
attribute [local go_sem] cell_grow frozen_grow
/-- the same row, the same system -/
def sameRow (r q : R4) : Bool := decide (r.1 = q.1) && sameLin r.2.1 r.2.2.1 r.2.2.2 q.2.1 q.2.2.1 q.2.2.2
def sameR (R Q : List R4) (n : Nat) : Bool := allN (fun k => sameRow (R.getD k r4d) (Q.getD k r4d)) n
def sameSys (R Q : List R4) : Bool := decide (R.length = Q.length) && sameR R Q R.length
theorem sameR_s {R Q : List R4} {k : Nat} (h0 : sameR R Q k = true) (h : sameRow (R.getD k r4d) (Q.getD k r4d) = true) : sameR R Q (k + 1) = true := by
  unfold sameR at *
  rw [allN, h0, h]; rfl
theorem sameR_bad {R Q : List R4} {k : Nat} (hk : k < R.length) (h : sameRow (R.getD k r4d) (Q.getD k r4d) = false) : sameSys R Q = false := by
  unfold sameSys sameR
  rw [allN_f (p := fun k => sameRow (R.getD k r4d) (Q.getD k r4d)) h _ hk, Bool.and_false]
set_option maxRecDepth 100000 in
set_option maxHeartbeats 4000000 in
theorem sameRow_any (s t : ByteArray) (a b c d : Int) (x y : Value) (L M : List T3) (hl : L.length ≤ maxLen) (hm : M.length ≤ maxLen) (w : World) (hx : TermsAt w x L) (hy : TermsAt w y M) : Calls Try.prog 44 #[.agg #[.string s, .int .i64 a, .int .i64 b, x], .agg #[.string t, .int .i64 c, .int .i64 d, y]] w fun e w' => e = .returned (.bool (sameRow (s, a, b, L) (t, c, d, M))) ∧ Below w.heap.size w w' := by
  have HE := hide (fun W (hW : Below w.heap.size w W) => sameLinear_i a b c d x y L M hl hm W (hx.later hW) (hy.later hW))
  obtain ⟨A, ca, rfl, _⟩ := hx
  obtain ⟨B, cb, rfl, _⟩ := hy
  clear hl hm
  by_cases h : s = t
  · subst h
    have s1 := ba_beq (rfl : s = s)
    have HR := hide (show sameRow (s, a, b, L) (s, c, d, M) = sameLin a b L c d M by unfold sameRow; simp)
    go_enter Try.func44, Try.ntmps44
    go_wp2_with fail
    (with_reducible refine (HE.out _ (by repeat (first | (with_reducible refine bl_set ?_ (by simp <;> omega) _) | (with_reducible refine bl_alloc ?_ (Nat.le_refl _) _) | (with_reducible refine Below.drew ?_) | (with_reducible assumption) | (with_reducible exact Below.refl _ _)))).mono ?_)
    rintro e w1 ⟨rfl, hb1⟩
    go_wp2
    go_ret
    exact ⟨by rw [HR.out]; rfl, bl_call (by repeat (first | (with_reducible refine bl_set ?_ (by simp <;> omega) _) | (with_reducible refine bl_alloc ?_ (Nat.le_refl _) _) | (with_reducible refine Below.drew ?_) | (with_reducible assumption) | (with_reducible exact Below.refl _ _))) hb1⟩
  · have s1 := ba_nbeq h
    have HR := hide (show sameRow (s, a, b, L) (t, c, d, M) = false by unfold sameRow; rw [decide_eq_false h]; rfl)
    go_enter Try.func44, Try.ntmps44
    go_wp2
    go_ret
    exact ⟨by rw [HR.out]; rfl, (by repeat (first | (with_reducible refine bl_set ?_ (by simp <;> omega) _) | (with_reducible refine bl_alloc ?_ (Nat.le_refl _) _) | (with_reducible refine Below.drew ?_) | (with_reducible assumption) | (with_reducible exact Below.refl _ _)))⟩
set_option maxRecDepth 100000 in
set_option maxHeartbeats 16000000 in
theorem equalFunc_any (x y : Value) (R Q : List R4) (hn : R.length ≤ maxLen) (hm : Q.length ≤ maxLen) (h1 : ∀ j, j < R.length → (R.getD j r4d).2.2.2.length ≤ maxLen) (h2 : ∀ j, j < Q.length → (Q.getD j r4d).2.2.2.length ≤ maxLen) (w : World) (hx : RowsAt w x R) (hy : RowsAt w y Q) : Calls Try.prog 43 #[x, y, .func (.func 44) #[] #[]] w fun e w' => e = .returned (.bool (sameSys R Q)) ∧ Below w.heap.size w w' := by
  have eg : ∀ args w, (callFunc 44 args).run Try.prog w = .ok (.enter 44 args) w := enters_of Try.func44 (by kernel_rfl) rfl
  obtain ⟨A, ca, rfl, hA⟩ := hx
  obtain ⟨B, cb, rfl, hB⟩ := hy
  simp only [maxLen] at hn hm
  have HL1 := hide h1
  have HL2 := hide h2
  clear h1 h2
  by_cases hlm : R.length = Q.length
  · have HBAD := hide (fun k (hk : k < R.length) (h : sameRow (R.getD k r4d) (Q.getD k r4d) = false) => sameR_bad hk h)
    have HG := hide (show sameSys R Q = sameR R Q R.length by unfold sameSys; rw [decide_eq_true hlm]; rfl)
    rw [← hlm] at hB HL2 ⊢
    generalize hnn : R.length = n at *
    have hne : ((n : Int) != (n : Int)) = false := by simp
    clear hm hlm
    go_enter Try.func43, Try.ntmps43
    go_wp2
    go_loopw [7, 17] (fun s7 iv wr => ∃ k : Nat, k ≤ n ∧ iv = .int .i64 k ∧ Below w.heap.size w wr ∧ Hid (sameR R Q k = true)) (fun _ iv _ => n - (intOf iv).toNat)
    case atStart => exact ⟨0, by omega, rfl, Below.refl _ _, rfl⟩
    case round =>
      obtain ⟨k, hk, rfl, hbw, hok⟩ := hrel
      by_cases hkn : k < n
      · skip
        obtain ⟨g, o, rfl, hg, hcg⟩ := hA (by omega)
        obtain ⟨f, p, rfl, hf, hcf⟩ := hB (by omega)
        obtain ⟨a1, a2, a3, sv, a4, a5⟩ := hcg k hkn
        obtain ⟨b1, b2, b3, tv, b4, b5⟩ := hcf k hkn
        have c1 := (hbw.cell (p := ⟨g, o + k * 4, none⟩) hg).trans a1
        have c2 := (hbw.cell (p := ⟨g, o + k * 4 + 1, none⟩) hg).trans a2
        have c3 := (hbw.cell (p := ⟨g, o + k * 4 + 2, none⟩) hg).trans a3
        have c4 := (hbw.cell (p := ⟨g, o + k * 4 + 3, none⟩) hg).trans a4
        have d1 := (hbw.cell (p := ⟨f, p + k * 4, none⟩) hf).trans b1
        have d2 := (hbw.cell (p := ⟨f, p + k * 4 + 1, none⟩) hf).trans b2
        have d3 := (hbw.cell (p := ⟨f, p + k * 4 + 2, none⟩) hf).trans b3
        have d4 := (hbw.cell (p := ⟨f, p + k * 4 + 3, none⟩) hf).trans b4
        have hl1 := HL1.out k hkn
        have hl2 := HL2.out k (by omega)
        have HC := hide (fun W (hW : Below wr.heap.size wr W) => sameRow_any (R.getD k r4d).1 (Q.getD k r4d).1 (R.getD k r4d).2.1 (R.getD k r4d).2.2.1 (Q.getD k r4d).2.1 (Q.getD k r4d).2.2.1 sv tv (R.getD k r4d).2.2.2 (Q.getD k r4d).2.2.2 hl1 hl2 W ((a5.later hbw).later hW) ((b5.later hbw).later hW))
        obtain ⟨As, cs, rfl, _⟩ := a5
        obtain ⟨At, ct, rfl, _⟩ := b5
        have hgr : g < wr.heap.size := Nat.lt_of_lt_of_le hg hbw.size
        have hfr : f < wr.heap.size := Nat.lt_of_lt_of_le hf hbw.size
        have hgr1 : g < wr.heap.size + 1 := by omega
        have hfr1 : f < wr.heap.size + 1 := by omega
        have hbs := hbw.size
        have HBW := hide hbw
        have HS := hide (fun h => sameR_s hok.out (k := k) h)
        have HX := hide (fun h => HBAD.out k (by omega) h)
        clear hA hB hcg hcf a1 a2 a3 a4 b1 b2 b3 b4 hbw hl1 hl2
        generalize R.getD k r4d = q at *
        generalize Q.getD k r4d = r at *
        obtain ⟨s1, n1, m1, L1⟩ := q
        obtain ⟨s2, n2, m2, L2⟩ := r
        simp only at c1 c2 c3 c4 d1 d2 d3 d4 HC
        cases hv : sameRow (s1, n1, m1, L1) (s2, n2, m2, L2)
        · have HX2 := hide (HX.out hv)
          rw [hv] at HC
          clear HX HS hv
          go_wp2_with (go_at_fn 44; (with_reducible refine (HC.out _ (by repeat (first | (with_reducible refine bl_set ?_ (by simp <;> omega) _) | (with_reducible refine bl_alloc ?_ (Nat.le_refl _) _) | (with_reducible refine Below.drew ?_) | (with_reducible assumption) | (with_reducible exact Below.refl _ _)))).mono ?_); rintro e w1 ⟨rfl, hb1⟩; have B1 : Below wr.heap.size wr w1 := bl_call (by repeat (first | (with_reducible refine bl_set ?_ (by simp <;> omega) _) | (with_reducible refine bl_alloc ?_ (Nat.le_refl _) _) | (with_reducible refine Below.drew ?_) | (with_reducible assumption) | (with_reducible exact Below.refl _ _))) hb1)
          go_ret
          exact ⟨by rw [HX2.out]; rfl, HBW.out.trans (B1.mono hbs)⟩
        · have HS2 := hide (HS.out hv)
          rw [hv] at HC
          clear HX HS hv
          go_wp2_with (go_at_fn 44; (with_reducible refine (HC.out _ (by repeat (first | (with_reducible refine bl_set ?_ (by simp <;> omega) _) | (with_reducible refine bl_alloc ?_ (Nat.le_refl _) _) | (with_reducible refine Below.drew ?_) | (with_reducible assumption) | (with_reducible exact Below.refl _ _)))).mono ?_); rintro e w1 ⟨rfl, hb1⟩; have B1 : Below wr.heap.size wr w1 := bl_call (by repeat (first | (with_reducible refine bl_set ?_ (by simp <;> omega) _) | (with_reducible refine bl_alloc ?_ (Nat.le_refl _) _) | (with_reducible refine Below.drew ?_) | (with_reducible assumption) | (with_reducible exact Below.refl _ _))) hb1)
          go_roundw
          case rel => exact ⟨k + 1, by omega, by go_num, HBW.out.trans (B1.mono hbs), HS2⟩
          case measure => simp [intOf]; omega
      · obtain rfl : k = n := by omega
        have HBW := hide hbw
        clear hbw
        go_wp2
        go_ret
        exact ⟨by rw [HG.out, hok.out]; rfl, HBW.out⟩
  · have HX := hide (show sameSys R Q = false by unfold sameSys; rw [decide_eq_false hlm]; rfl)
    have q1 : ((R.length : Int) != (Q.length : Int)) = true := by simp; omega
    go_enter Try.func43, Try.ntmps43
    go_wp2
    go_ret
    exact ⟨by rw [HX.out]; rfl, Below.refl _ _⟩
set_option maxRecDepth 100000 in
set_option maxHeartbeats 4000000 in
theorem sameSystem_i (x y : Value) (R Q : List R4) (hn : R.length ≤ maxLen) (hm : Q.length ≤ maxLen) (h1 : ∀ j, j < R.length → (R.getD j r4d).2.2.2.length ≤ maxLen) (h2 : ∀ j, j < Q.length → (Q.getD j r4d).2.2.2.length ≤ maxLen) (w : World) (hx : RowsAt w x R) (hy : RowsAt w y Q) : Calls Try.prog 20 #[.agg #[x], .agg #[y]] w fun e w' => e = .returned (.bool (sameSys R Q)) ∧ Below w.heap.size w w' := by
  have HE := hide (fun W (hW : Below w.heap.size w W) => equalFunc_any x y R Q hn hm h1 h2 W (hx.later hW) (hy.later hW))
  obtain ⟨A, ca, rfl, _⟩ := hx
  obtain ⟨B, cb, rfl, _⟩ := hy
  clear h1 h2 hn hm
  go_enter Try.func20, Try.ntmps20
  go_wp2_with fail
  (with_reducible refine (HE.out _ (by repeat (first | (with_reducible refine bl_set ?_ (by simp <;> omega) _) | (with_reducible refine bl_alloc ?_ (Nat.le_refl _) _) | (with_reducible refine Below.drew ?_) | (with_reducible assumption) | (with_reducible exact Below.refl _ _)))).mono ?_)
  rintro e w1 ⟨rfl, hb1⟩
  go_wp2
  go_ret
  exact ⟨rfl, bl_call (by repeat (first | (with_reducible refine bl_set ?_ (by simp <;> omega) _) | (with_reducible refine bl_alloc ?_ (Nat.le_refl _) _) | (with_reducible refine Below.drew ?_) | (with_reducible assumption) | (with_reducible exact Below.refl _ _))) hb1⟩
set_option maxRecDepth 100000 in
set_option maxHeartbeats 16000000 in
theorem sameSystem_s (x y : Value) (R Q : List R4) (hn : R.length ≤ maxLen) (hm : Q.length ≤ maxLen) (h1 : ∀ j, j < R.length → (R.getD j r4d).2.2.2.length ≤ maxLen) (h2 : ∀ j, j < Q.length → (Q.getD j r4d).2.2.2.length ≤ maxLen) (w : World) (hx : RowsAt w x R) (hy : RowsAt w y Q) : Calls Try.prog 18 #[.agg #[x], .agg #[y]] w fun e w' => e = .returned (.bool (sameSys R Q)) ∧ Below w.heap.size w w' := by
  obtain ⟨A, ca, rfl, hA⟩ := hx
  obtain ⟨B, cb, rfl, hB⟩ := hy
  simp only [maxLen] at hn hm
  have HL1 := hide h1
  have HL2 := hide h2
  clear h1 h2
  by_cases hlm : R.length = Q.length
  · have HBAD := hide (fun k (hk : k < R.length) (h : sameRow (R.getD k r4d) (Q.getD k r4d) = false) => sameR_bad hk h)
    have HG := hide (show sameSys R Q = sameR R Q R.length by unfold sameSys; rw [decide_eq_true hlm]; rfl)
    rw [← hlm] at hB HL2 ⊢
    generalize hnn : R.length = n at *
    have hne : ((n : Int) != (n : Int)) = false := by simp
    clear hm hlm
    go_enter Try.func18, Try.ntmps18
    go_wp2
    go_loopw [5] (fun iv wr => ∃ k : Nat, k ≤ n ∧ iv = .int .i64 k ∧ Below (w.heap.size + 1 + 1) ((w.alloc (.cells #[.slice A n ca] 44)).alloc (.cells #[.slice B n cb] 44)) wr ∧ Hid (sameR R Q k = true)) (fun iv _ => n - (intOf iv).toNat)
    case atStart => exact ⟨0, by omega, rfl, Below.refl _ _, rfl⟩
    case round =>
      obtain ⟨k, hk, rfl, hbx, hok⟩ := hrel
      have hbw : Below w.heap.size w wr := (((Below.refl _ _).alloc (Nat.le_refl _) _).alloc (by simp) _).trans (hbx.mono (by omega))
      have bx : wr.cell? ⟨w.heap.size, 0, none⟩ = some (.slice A n ca) := (hbx.cell (p := ⟨w.heap.size, 0, none⟩) (by simp; omega)).trans (by simp [go_sem])
      have bz : wr.cell? ⟨w.heap.size + 1, 0, none⟩ = some (.slice B n cb) := (hbx.cell (p := ⟨w.heap.size + 1, 0, none⟩) (by simp)).trans (by simp [go_sem])
      have hzx := hbx.size
      simp at hzx
      have hza : w.heap.size < wr.heap.size := by omega
      have hzb : w.heap.size + 1 < wr.heap.size := by omega
      have HBX := hide hbx
      clear hbx
      by_cases hkn : k < n
      · skip
        obtain ⟨g, o, rfl, hg, hcg⟩ := hA (by omega)
        obtain ⟨f, p, rfl, hf, hcf⟩ := hB (by omega)
        obtain ⟨a1, a2, a3, sv, a4, a5⟩ := hcg k hkn
        obtain ⟨b1, b2, b3, tv, b4, b5⟩ := hcf k hkn
        have c1 := (hbw.cell (p := ⟨g, o + k * 4, none⟩) hg).trans a1
        have c2 := (hbw.cell (p := ⟨g, o + k * 4 + 1, none⟩) hg).trans a2
        have c3 := (hbw.cell (p := ⟨g, o + k * 4 + 2, none⟩) hg).trans a3
        have c4 := (hbw.cell (p := ⟨g, o + k * 4 + 3, none⟩) hg).trans a4
        have d1 := (hbw.cell (p := ⟨f, p + k * 4, none⟩) hf).trans b1
        have d2 := (hbw.cell (p := ⟨f, p + k * 4 + 1, none⟩) hf).trans b2
        have d3 := (hbw.cell (p := ⟨f, p + k * 4 + 2, none⟩) hf).trans b3
        have d4 := (hbw.cell (p := ⟨f, p + k * 4 + 3, none⟩) hf).trans b4
        have hl1 := HL1.out k hkn
        have hl2 := HL2.out k (by omega)
        have HC := hide (fun W (hW : Below wr.heap.size wr W) => sameLinear_s (R.getD k r4d).2.1 (R.getD k r4d).2.2.1 (Q.getD k r4d).2.1 (Q.getD k r4d).2.2.1 sv tv (R.getD k r4d).2.2.2 (Q.getD k r4d).2.2.2 hl1 hl2 W ((a5.later hbw).later hW) ((b5.later hbw).later hW))
        obtain ⟨As, cs, rfl, _⟩ := a5
        obtain ⟨At, ct, rfl, _⟩ := b5
        have hgr : g < wr.heap.size := Nat.lt_of_lt_of_le hg hbw.size
        have hfr : f < wr.heap.size := Nat.lt_of_lt_of_le hf hbw.size
        have HS := hide (fun h => sameR_s hok.out (k := k) h)
        have HX := hide (fun h => HBAD.out k (by omega) h)
        clear hA hB hcg hcf a1 a2 a3 a4 b1 b2 b3 b4 hl1 hl2
        generalize R.getD k r4d = q at *
        generalize Q.getD k r4d = r at *
        obtain ⟨s1, n1, m1, L1⟩ := q
        obtain ⟨s2, n2, m2, L2⟩ := r
        simp only at c1 c2 c3 c4 d1 d2 d3 d4 HC
        by_cases hs : s1 = s2
        · subst hs
          have t1 := ba_bne (rfl : s1 = s1)
          have HR := show sameRow (s1, n1, m1, L1) (s1, n2, m2, L2) = sameLin n1 m1 L1 n2 m2 L2 by unfold sameRow; simp
          cases hv : sameLin n1 m1 L1 n2 m2 L2
          · have HX2 := hide (HX.out (by rw [HR, hv]))
            rw [hv] at HC
            clear HX HS hv HR
            go_wp2
            refine wp_region_quiet_below (by kernel_rfl) (by kernel_rfl) ?_
            repeat (first | go_big_quiet_step (((go_at_call 11; with_reducible exact Calls.regrown_of (HC.out _ (below_regrown _ _ _))))) | quiet_step (((go_at_call 11; with_reducible exact Calls.regrown_of (HC.out _ (below_regrown _ _ _))))))
            refine wpQuiet_nil ?_
            intro w1 hw1
            obtain ⟨pq, hpq⟩ := hw1
            have hb1 := below_of hpq
            clear hpq pq
            have hz4 := hb1.size
            (try simp at hz4)
            obtain ⟨hc1, hf1⟩ := bcell hb1
            have hw1 : Below w.heap.size w w1 := bl_call (by repeat (first | exact Below.refl _ _ | assumption | (refine bl_alloc ?_ (Nat.le_refl _) _) | (refine bl_set ?_ (by simp <;> omega) _))) hb1
            have hz1 : w.heap.size + 2 ≤ w1.heap.size := (by have hq := hb1.size; have hr := hw1.size; (try simp at hq); omega)
            have hza : w.heap.size < w1.heap.size := (by omega)
            have hzb : w.heap.size + 1 < w1.heap.size := (by omega)
            go_wp2
            go_ret
            exact ⟨by rw [HX2.out]; rfl, hw1⟩
          · have HS2 := hide (HS.out (by rw [HR, hv]))
            rw [hv] at HC
            clear HX HS hv HR
            go_wp2
            refine wp_region_quiet_below (by kernel_rfl) (by kernel_rfl) ?_
            repeat (first | go_big_quiet_step (((go_at_call 11; with_reducible exact Calls.regrown_of (HC.out _ (below_regrown _ _ _))))) | quiet_step (((go_at_call 11; with_reducible exact Calls.regrown_of (HC.out _ (below_regrown _ _ _))))))
            refine wpQuiet_nil ?_
            intro w1 hw1
            obtain ⟨pq, hpq⟩ := hw1
            have hb1 := below_of hpq
            clear hpq pq
            have hz4 := hb1.size
            (try simp at hz4)
            obtain ⟨hc1, hf1⟩ := bcell hb1
            have hw1 : Below w.heap.size w w1 := bl_call (by repeat (first | exact Below.refl _ _ | assumption | (refine bl_alloc ?_ (Nat.le_refl _) _) | (refine bl_set ?_ (by simp <;> omega) _))) hb1
            have hz1 : w.heap.size + 2 ≤ w1.heap.size := (by have hq := hb1.size; have hr := hw1.size; (try simp at hq); omega)
            have hza : w.heap.size < w1.heap.size := (by omega)
            have hzb : w.heap.size + 1 < w1.heap.size := (by omega)
            go_wp2
            go_roundw
            case rel => exact ⟨k + 1, by omega, by go_num, HBX.out.trans (hb1.mono (by omega)), HS2⟩
            case measure => simp [intOf]; omega
        · have t1 := ba_nbne hs
          have t2 := ba_nbeq hs
          have HX2 := hide (HX.out (show sameRow (s1, n1, m1, L1) (s2, n2, m2, L2) = false by unfold sameRow; rw [decide_eq_false hs]; rfl))
          clear HX HS
          go_wp2
          refine wp_region_quiet_below (by kernel_rfl) (by kernel_rfl) ?_
          repeat (first | go_big_quiet_step (((go_at_call 11; with_reducible exact Calls.regrown_of (HC.out _ (below_regrown _ _ _))))) | quiet_step (((go_at_call 11; with_reducible exact Calls.regrown_of (HC.out _ (below_regrown _ _ _))))))
          refine wpQuiet_nil ?_
          intro w1 hw1
          obtain ⟨pq, hpq⟩ := hw1
          have hb1 := below_of hpq
          clear hpq pq
          have hz4 := hb1.size
          (try simp at hz4)
          obtain ⟨hc1, hf1⟩ := bcell hb1
          have hw1 : Below w.heap.size w w1 := bl_call (by repeat (first | exact Below.refl _ _ | assumption | (refine bl_alloc ?_ (Nat.le_refl _) _) | (refine bl_set ?_ (by simp <;> omega) _))) hb1
          have hz1 : w.heap.size + 2 ≤ w1.heap.size := (by have hq := hb1.size; have hr := hw1.size; (try simp at hq); omega)
          have hza : w.heap.size < w1.heap.size := (by omega)
          have hzb : w.heap.size + 1 < w1.heap.size := (by omega)
          go_wp2
          go_ret
          exact ⟨by rw [HX2.out]; rfl, hw1⟩
      · obtain rfl : k = n := by omega
        have HBW := hide hbw
        clear hbw
        go_wp2
        go_ret
        exact ⟨by rw [HG.out, hok.out]; rfl, HBW.out⟩
  · have HX := hide (show sameSys R Q = false by unfold sameSys; rw [decide_eq_false hlm]; rfl)
    have q1 : ((R.length : Int) != (Q.length : Int)) = true := by simp; omega
    go_enter Try.func18, Try.ntmps18
    go_wp2
    go_ret
    exact ⟨by rw [HX.out]; rfl, (by repeat (first | exact Below.refl _ _ | assumption | (refine bl_alloc ?_ (Nat.le_refl _) _) | (refine bl_set ?_ (by simp <;> omega) _)))⟩
end Go.Proofs.Ythojgmhionekbaa
