/-
  CONTRACT of ScaleLinear of package impl. Conditions: what the slices hold.
-/
import Derived.Test.YthojgmhionekbaaScaB
namespace Go.Proofs.Ythojgmhionekbaa
open Go.RowKit Go.Sort
set_option linter.unusedVariables false
attribute [local go_sem] cell_grow frozen_grow
theorem whole_l (n : Int) (w : World) : Calls Try.prog 74 #[.int .i64 n] w fun e w' => e = .returned (.agg #[.int .i64 n, .int .i64 1]) ∧ Below w.heap.size w w' := by
  go_enter Try.func74, Try.ntmps74
  go_wp2
  refine bodyPost_ret (v := .agg #[.int .i64 n, .int .i64 1]) ?_ rfl ⟨rfl, (by repeat (first | exact Below.refl _ _ | assumption | (refine bl_alloc ?_ (Nat.le_refl _) _) | (refine bl_set ?_ (by simp <;> omega) _)))⟩
  simp [results, Try.results74, go_sem, *]
theorem zeroLin_i (w : World) : Calls Try.prog 48 #[] w fun e w' => e = .returned (.agg #[.int .i64 0, .int .i64 1, .slice none 0 0]) ∧ Below w.heap.size w w' := by
  go_enter Try.func48, Try.ntmps48
  go_wp2_with (first | (go_at_call 74; (with_reducible refine (whole_l _ _).mono ?_); rintro e w1 ⟨rfl, hb1⟩; obtain ⟨hc1, hf1⟩ := bcell hb1; have hw1 : Below w.heap.size w w1 := bl_call (by repeat (first | exact Below.refl _ _ | assumption | (refine bl_alloc ?_ (Nat.le_refl _) _) | (refine bl_set ?_ (by simp <;> omega) _))) hb1; have hz1 : w.heap.size + 1 ≤ w1.heap.size := (by have hq := hb1.size; have hr := hw1.size; (try simp at hq); omega); have hza : w.heap.size < w1.heap.size := (by omega); have hz4 := hb1.size; (try simp at hz4); (try have hz5 := Nat.lt_of_succ_le hz4)))
  refine bodyPost_ret (v := .agg #[.int .i64 0, .int .i64 1, .slice none 0 0]) ?_ rfl ⟨rfl, (by repeat (first | (with_reducible refine bl_set ?_ (by simp <;> omega) _) | (with_reducible refine bl_alloc ?_ (Nat.le_refl _) _) | (with_reducible refine Below.drew ?_) | (with_reducible assumption) | (with_reducible exact Below.refl _ _)))⟩
  simp (maxDischargeDepth := 9) [results, Try.results48, go_sem, *]
theorem TermsOwn.none (w : World) : TermsOwn w (.slice .none 0 0) [] := ⟨.none, 0, rfl, fun h => absurd h (by simp)⟩
theorem info_termS : (Try.prog.info? 61).map (fun i => (i.zero, i.size, i.bytes)) = some (some (.agg #[.string ⟨#[]⟩, .int .i64 0, .int .i64 0]), 3, 32) := by kernel_rfl
set_option maxRecDepth 100000 in
set_option maxHeartbeats 16000000 in
theorem scaleLinear_bad (a b : Int) (ha : -9223372036854775808 ≤ a ∧ a ≤ 9223372036854775807) (x : Value) (L : List T3) (hB : LinB L) (n d : Int) (hnn : -9223372036854775808 ≤ n ∧ n ≤ 9223372036854775807) (hbad : (linOk a b L && okFr n d) = false) (w : World) (hx : TermsAt w x L) : Calls Try.prog 24 #[.agg #[.int .i64 a, .int .i64 b, x], .agg #[.int .i64 n, .int .i64 d]] w (LinPost w (slA a b L n d) (slB a b L n d) (slK a b L n d) (slL a b L n d)) := by
  have hK : slK a b L n d = 1 := by unfold slK; rw [hbad]; rfl
  have hA : slA a b L n d = 0 := by unfold slA; rw [hK]; rfl
  have hD : slB a b L n d = 0 := by unfold slB; rw [hK]; rfl
  have hL : slL a b L n d = [] := by unfold slL; rw [hK]; rfl
  rw [hA, hD, hL, hK]
  clear hA hD hL hK
  have HV := hide (fun W (hW : Below w.heap.size w W) => validLinear_i a b ha x L hB W (hx.later hW))
  obtain ⟨A, ca, rfl, _⟩ := hx
  have HF := validFrac_i n d hnn.1 hnn.2
  cases h1 : linOk a b L
  · rw [h1] at HV
    have HQ := hide HV.out
    clear HV h1 hbad
    go_enter Try.func24, Try.ntmps24
    go_wp2_with fail
    (with_reducible refine (HQ.out _ (by repeat (first | (with_reducible refine bl_set ?_ (by simp <;> omega) _) | (with_reducible refine bl_alloc ?_ (Nat.le_refl _) _) | (with_reducible refine Below.drew ?_) | (with_reducible assumption) | (with_reducible exact Below.refl _ _)))).mono ?_)
    rintro e w1 ⟨rfl, hb1⟩
    obtain ⟨hc1, hf1⟩ := bcell hb1
    have bV : Below w.heap.size w w1 := bl_call (by repeat (first | (with_reducible refine bl_set ?_ (by simp <;> omega) _) | (with_reducible refine bl_alloc ?_ (Nat.le_refl _) _) | (with_reducible refine Below.drew ?_) | (with_reducible assumption) | (with_reducible exact Below.refl _ _))) hb1
    have z1 := hb1.size
    simp at z1
    have m3 : w.heap.size + 1 + 1 < w1.heap.size := by omega
    clear hb1
    go_wp2
    refine bodyPost_ret (v := .tuple #[.agg #[.int .i64 0, .int .i64 0, .slice none 0 0], .int .i64 1]) ?_ rfl ⟨_, rfl, TermsOwn.none _, fun g hg => by simp [Value.ownBlock] at hg, (by repeat (first | (with_reducible refine bl_set ?_ (by simp <;> omega) _) | (with_reducible refine bl_alloc ?_ (Nat.le_refl _) _) | (with_reducible refine Below.drew ?_) | (with_reducible assumption) | (with_reducible exact Below.refl _ _)))⟩
    simp (maxDischargeDepth := 9) [results, Try.results24, go_sem, *]
  · rw [h1] at hbad HV
    have h2 : okFr n d = false := by simpa using hbad
    rw [h2] at HF
    have HQ := hide HV.out
    clear HV h1 h2 hbad
    go_enter Try.func24, Try.ntmps24
    go_wp2_with fail
    (with_reducible refine (HQ.out _ (by repeat (first | (with_reducible refine bl_set ?_ (by simp <;> omega) _) | (with_reducible refine bl_alloc ?_ (Nat.le_refl _) _) | (with_reducible refine Below.drew ?_) | (with_reducible assumption) | (with_reducible exact Below.refl _ _)))).mono ?_)
    rintro e w1 ⟨rfl, hb1⟩
    obtain ⟨hc1, hf1⟩ := bcell hb1
    have bV : Below w.heap.size w w1 := bl_call (by repeat (first | (with_reducible refine bl_set ?_ (by simp <;> omega) _) | (with_reducible refine bl_alloc ?_ (Nat.le_refl _) _) | (with_reducible refine Below.drew ?_) | (with_reducible assumption) | (with_reducible exact Below.refl _ _))) hb1
    have z1 := hb1.size
    simp at z1
    have m1 : w.heap.size < w1.heap.size := by omega
    have m2 : w.heap.size + 1 < w1.heap.size := by omega
    have m3 : w.heap.size + 1 + 1 < w1.heap.size := by omega
    clear hb1
    go_wp2_with fail
    (with_reducible refine (HF _).mono ?_)
    rintro e w2 ⟨rfl, hb2⟩
    obtain ⟨hc2, hf2⟩ := bcell hb2
    have bF : Below w.heap.size w w2 := bl_call bV hb2
    have z2 := hb2.size
    have n3 : w.heap.size + 1 + 1 < w2.heap.size := by omega
    clear hb2 bV
    go_wp2
    refine bodyPost_ret (v := .tuple #[.agg #[.int .i64 0, .int .i64 0, .slice none 0 0], .int .i64 1]) ?_ rfl ⟨_, rfl, TermsOwn.none _, fun g hg => by simp [Value.ownBlock] at hg, (by repeat (first | (with_reducible refine bl_set ?_ (by simp <;> omega) _) | (with_reducible refine bl_alloc ?_ (Nat.le_refl _) _) | (with_reducible refine Below.drew ?_) | (with_reducible assumption) | (with_reducible exact Below.refl _ _)))⟩
    simp (maxDischargeDepth := 9) [results, Try.results24, go_sem, *]
set_option maxRecDepth 100000 in
set_option maxHeartbeats 16000000 in
theorem scaleLinear_zero (a b : Int) (ha : -9223372036854775808 ≤ a ∧ a ≤ 9223372036854775807) (x : Value) (L : List T3) (hB : LinB L) (d : Int) (h1 : linOk a b L = true) (h2 : okFr 0 d = true) (w : World) (hx : TermsAt w x L) : Calls Try.prog 24 #[.agg #[.int .i64 a, .int .i64 b, x], .agg #[.int .i64 0, .int .i64 d]] w (LinPost w (slA a b L 0 d) (slB a b L 0 d) (slK a b L 0 d) (slL a b L 0 d)) := by
  obtain ⟨hK, hA, hD, hL⟩ := sl_zero h1 h2
  rw [hA, hD, hL, hK]
  clear hA hD hL hK
  have HV := hide (fun W (hW : Below w.heap.size w W) => validLinear_i a b ha x L hB W (hx.later hW))
  obtain ⟨A, ca, rfl, _⟩ := hx
  have HF := validFrac_i 0 d (by decide) (by decide)
  rw [h1] at HV
  rw [h2] at HF
  have HQ := hide HV.out
  clear HV h1 h2
  go_enter Try.func24, Try.ntmps24
  go_wp2_with fail
  (with_reducible refine (HQ.out _ (by repeat (first | (with_reducible refine bl_set ?_ (by simp <;> omega) _) | (with_reducible refine bl_alloc ?_ (Nat.le_refl _) _) | (with_reducible refine Below.drew ?_) | (with_reducible assumption) | (with_reducible exact Below.refl _ _)))).mono ?_)
  rintro e w1 ⟨rfl, hb1⟩
  obtain ⟨hc1, hf1⟩ := bcell hb1
  have bV : Below w.heap.size w w1 := bl_call (by repeat (first | (with_reducible refine bl_set ?_ (by simp <;> omega) _) | (with_reducible refine bl_alloc ?_ (Nat.le_refl _) _) | (with_reducible refine Below.drew ?_) | (with_reducible assumption) | (with_reducible exact Below.refl _ _))) hb1
  have z1 := hb1.size
  simp at z1
  have m1 : w.heap.size < w1.heap.size := by omega
  have m2 : w.heap.size + 1 < w1.heap.size := by omega
  have m3 : w.heap.size + 1 + 1 < w1.heap.size := by omega
  clear hb1
  go_wp2_with fail
  (with_reducible refine (HF _).mono ?_)
  rintro e w2 ⟨rfl, hb2⟩
  obtain ⟨hc2, hf2⟩ := bcell hb2
  have bF : Below w.heap.size w w2 := bl_call bV hb2
  have z2 := hb2.size
  have n2 : w.heap.size + 1 < w2.heap.size := by omega
  have n3 : w.heap.size + 1 + 1 < w2.heap.size := by omega
  clear hb2 bV
  go_wp2_with fail
  (with_reducible refine (zeroLin_i _).mono ?_)
  rintro e w3 ⟨rfl, hb3⟩
  obtain ⟨hc3, hf3⟩ := bcell hb3
  have bZ : Below w.heap.size w w3 := bl_call bF hb3
  have z3 := hb3.size
  have r3 : w.heap.size + 1 + 1 < w3.heap.size := by omega
  clear hb3 bF
  go_wp2
  refine bodyPost_ret (v := .tuple #[.agg #[.int .i64 0, .int .i64 1, .slice none 0 0], .int .i64 0]) ?_ rfl ⟨_, rfl, TermsOwn.none _, fun g hg => by simp [Value.ownBlock] at hg, (by repeat (first | (with_reducible refine bl_set ?_ (by simp <;> omega) _) | (with_reducible refine bl_alloc ?_ (Nat.le_refl _) _) | (with_reducible refine Below.drew ?_) | (with_reducible assumption) | (with_reducible exact Below.refl _ _)))⟩
  simp (maxDischargeDepth := 9) [results, Try.results24, go_sem, *]
set_option maxRecDepth 100000 in
set_option maxHeartbeats 16000000 in
theorem scaleLinear_ok (a b : Int) (ha : -9223372036854775808 ≤ a ∧ a ≤ 9223372036854775807) (x : Value) (L : List T3) (hB : LinB L) (n d : Int) (hnn : -9223372036854775808 ≤ n ∧ n ≤ 9223372036854775807) (h1 : linOk a b L = true) (h2 : okFr n d = true) (h3 : n ≠ 0) (w : World) (hx : TermsAt w x L) : Calls Try.prog 24 #[.agg #[.int .i64 a, .int .i64 b, x], .agg #[.int .i64 n, .int .i64 d]] w (LinPost w (slA a b L n d) (slB a b L n d) (slK a b L n d) (slL a b L n d)) := by
  obtain ⟨i0, hi, hzA, hzB, hzC⟩ := info_parts info_termS
  have HERR := hide (fun h => sl_err (L := L) (a := a) (b := b) h1 h2 h)
  have HBAD := hide (fun (h : mulC a b n d = 0) (k : Nat) (hk : k < L.length) h5 h6 => sl_bad h1 h2 h h3 (k := k) hk h5 h6)
  have HGOOD := hide (fun h => @sl_good a b L n d h1 h2 h h3)
  have HV := hide (fun W (hW : Below w.heap.size w W) => validLinear_i a b ha x L hB W (hx.later hW))
  obtain ⟨A, ca, rfl, hA⟩ := hx
  obtain ⟨_, hE⟩ := hB
  have hn0 := linOk_n h1
  have HF := validFrac_i n d hnn.1 hnn.2
  have HM := fun x y h1 h2 w => mulFrac_i x y n d h1 h2 hnn.1 hnn.2 w
  have HM1 := HM a b ha.1 ha.2
  have q0 : (n == 0) = false := by simpa using h3
  rw [h1] at HV
  rw [h2] at HF
  have HQ := hide HV.out
  have HH := hide HM
  have HAA := hide hA
  have HEE := hide hE
  clear HV h1 h2 h3 HM hA hE hnn ha
  generalize hlen : L.length = m at *
  go_enter Try.func24, Try.ntmps24
  go_wp2_with fail
  (with_reducible refine (HQ.out _ (by repeat (first | (with_reducible refine bl_set ?_ (by simp <;> omega) _) | (with_reducible refine bl_alloc ?_ (Nat.le_refl _) _) | (with_reducible refine Below.drew ?_) | (with_reducible assumption) | (with_reducible exact Below.refl _ _)))).mono ?_)
  rintro e w1 ⟨rfl, hb1⟩
  obtain ⟨hc1, hf1⟩ := bcell hb1
  have bV : Below w.heap.size w w1 := bl_call (by repeat (first | (with_reducible refine bl_set ?_ (by simp <;> omega) _) | (with_reducible refine bl_alloc ?_ (Nat.le_refl _) _) | (with_reducible refine Below.drew ?_) | (with_reducible assumption) | (with_reducible exact Below.refl _ _))) hb1
  have z1 := hb1.size
  simp at z1
  have m1 : w.heap.size < w1.heap.size := by omega
  have m2 : w.heap.size + 1 < w1.heap.size := by omega
  have m3 : w.heap.size + 1 + 1 < w1.heap.size := by omega
  have o1 : w1.heap[w.heap.size]? = some (.cells #[.int .i64 a, .int .i64 b, .slice A m ca] 32 (0, 0)) := (hb1.block _ (by simp; omega)).trans ((ug_old _ _ (by simp; omega)).trans ((ug_old _ _ (by simp)).trans (ug_new _ _ rfl)))
  have o2 : w1.heap[w.heap.size + 1]? = some (.cells #[.int .i64 n, .int .i64 d] 29 (0, 0)) := (hb1.block _ (by simp)).trans ((ug_old _ _ (by simp)).trans (ug_new _ _ (by simp)))
  have o3 : w1.heap[w.heap.size + 1 + 1]? = some (.cells #[.int .i64 0, .int .i64 0, .slice none 0 0] 32 (0, 0)) := (hb1.block _ (by simp)).trans (ug_new _ _ (by simp))
  clear hb1
  go_wp2_with fail
  (with_reducible refine (HF _).mono ?_)
  rintro e w2 ⟨rfl, hb2⟩
  have bF : Below w.heap.size w w2 := bl_call bV hb2
  have z2 := hb2.size
  have p1 := (hb2.block _ m1).trans o1
  have p2 := (hb2.block _ m2).trans o2
  have p3 := (hb2.block _ m3).trans o3
  have k1 := ug_cell p1
  have k2 := ug_cell p2
  clear hb2 bV hc1 hf1 o1 o2 o3
  go_wp2_with fail
  (with_reducible refine (HM1 _).mono ?_)
  rintro e w3 ⟨rfl, hb3⟩
  have b3 : Below w.heap.size w w3 := bl_call bF hb3
  have z3 := hb3.size
  have r1 := (hb3.block _ (by omega)).trans p1
  have r2 := (hb3.block _ (by omega)).trans p2
  have r3 := (hb3.block _ (by omega)).trans p3
  have l1 := ug_cell r1
  have l2 := ug_cell r2
  have l3 := ug_cell r3
  have f3 := ug_frozen r3
  have s1 : w.heap.size < w3.heap.size := by omega
  have s2 : w.heap.size + 1 < w3.heap.size := by omega
  have s3 : w.heap.size + 1 + 1 < w3.heap.size := by omega
  clear hb3 bF k1 k2 p1 p2 p3 m1 m2 m3 z1 z2 z3
  cases hm : (mulC a b n d != 0)
  · have hm' : mulC a b n d = 0 := by simpa using hm
    have HG := hide (HGOOD.out hm')
    have HX := hide (fun k => HBAD.out hm' k)
    clear HERR HGOOD HBAD hm'
    go_wp2
    go_loopw [42] (fun iv wr => ∃ (k : Nat) (v : Value), k ≤ m ∧ iv = .int .i64 k ∧ Hid (scE L n d k = 0) ∧ Boxed w3 (w3.heap.size + 1) (.int .i64 (mulN a b n d)) (.int .i64 (mulD a b n d)) 61 3 k (flat3 (scP L n d k)) v wr) (fun iv _ => m - (intOf iv).toNat)
    case atStart => exact ⟨0, .slice none 0 0, by omega, rfl, rfl, ⟨World.ownsRow_nil _ _ _ _, by simp, by simp [go_sem], by simp [go_sem], by simp [go_sem], fun q => by simp [go_sem], (by repeat (first | (with_reducible refine bl_set ?_ (by simp <;> omega) _) | (with_reducible refine bl_alloc ?_ (Nat.le_refl _) _) | (with_reducible refine Below.drew ?_) | (with_reducible assumption) | (with_reducible exact Below.refl _ _))), by omega⟩⟩
    case round =>
      obtain ⟨k, v, hk, rfl, hsc, hBx⟩ := hrel
      obtain ⟨Av, cv, rfl⟩ := own_val3 hBx.own
      have HBx := hide hBx
      have bw := hBx.below
      have zr := bw.size
      have zl := hBx.lt
      have x0 := hBx.cell0
      have x1 := hBx.cell1
      have x2 := hBx.cell2
      have xf := hBx.free
      have u2 : ∀ i, wr.cell? ⟨w.heap.size + 1, i, none⟩ = #[Value.int .i64 n, .int .i64 d][i]? := fun i => (bw.cell (p := ⟨w.heap.size + 1, i, none⟩) s2).trans (l2 i)
      have u3 : ∀ i, wr.cell? ⟨w.heap.size + 1 + 1, i, none⟩ = #[Value.int .i64 0, .int .i64 0, .slice none 0 0][i]? := fun i => (bw.cell (p := ⟨w.heap.size + 1 + 1, i, none⟩) s3).trans (l3 i)
      have uf : ∀ i, wr.frozen? ⟨w.heap.size + 1 + 1, i, none⟩ = false := fun i => (bw.frozen (p := ⟨w.heap.size + 1 + 1, i, none⟩) s3).trans (f3 i)
      have bww : Below w.heap.size w wr := b3.trans (bw.mono (by omega))
      have t2 : w.heap.size + 1 < wr.heap.size := by omega
      have t3 : w.heap.size + 1 + 1 < wr.heap.size := by omega
      clear hBx l1 l2 l3 f3
      by_cases hkm : k < m
      · obtain ⟨g, o, rfl, hg, hcg⟩ := HAA.out (by omega)
        obtain ⟨a1, a2, a3⟩ := hcg k hkm
        obtain ⟨_, e1, e2, _, _⟩ := HEE.out k hkm
        have c1 := (bww.cell (p := ⟨g, o + k * 3, none⟩) hg).trans a1
        have c2 := (bww.cell (p := ⟨g, o + k * 3 + 1, none⟩) hg).trans a2
        have c3 := (bww.cell (p := ⟨g, o + k * 3 + 2, none⟩) hg).trans a3
        have HMq := HH.out (L.getD k t3d).2.1 (L.getD k t3d).2.2 e1 e2
        have hgr : g < wr.heap.size := by omega
        have e3 := hide (show scP L n d (k + 1) = scP L n d k ++ [((L.getD k t3d).1, mulN (L.getD k t3d).2.1 (L.getD k t3d).2.2 n d, mulD (L.getD k t3d).2.1 (L.getD k t3d).2.2 n d)] from rfl)
        have e4 := hide (show mulC (L.getD k t3d).2.1 (L.getD k t3d).2.2 n d = 0 → scE L n d (k + 1) = 0 by intro h; rw [scE, if_pos hsc.out, h])
        have e5 := hide (fun h => HX.out k (by omega) hsc.out h)
        clear hcg a1 a2 a3 e1 e2
        generalize L.getD k t3d = q at *
        obtain ⟨s, n1, d1⟩ := q
        simp only at c1 c2 c3 HMq
        go_wp2_with fail
        (with_reducible refine (HMq _).mono ?_)
        rintro e w4 ⟨rfl, hb4⟩
        have hb4' : Below wr.heap.size wr w4 := ((Below.refl _ _).alloc (Nat.le_refl _) _).trans (hb4.mono (by simp))
        have z4 := hb4.size
        simp at z4
        have HB4 := hide (HBx.out.later hb4')
        have y2 := HB4.out.cell2
        have v0 : w4.cell? ⟨wr.heap.size, 0, none⟩ = some (.string s) := (hb4.cell (p := ⟨wr.heap.size, 0, none⟩) (by simp)).trans (by simp [go_sem])
        have yu : ∀ i, w4.cell? ⟨w.heap.size + 1 + 1, i, none⟩ = #[Value.int .i64 0, .int .i64 0, .slice none 0 0][i]? := fun i => (hb4'.cell (p := ⟨w.heap.size + 1 + 1, i, none⟩) t3).trans (u3 i)
        have yf : ∀ i, w4.frozen? ⟨w.heap.size + 1 + 1, i, none⟩ = false := fun i => (hb4'.frozen (p := ⟨w.heap.size + 1 + 1, i, none⟩) t3).trans (uf i)
        have y3 : w.heap.size + 1 + 1 < w4.heap.size := by omega
        have bw4 : Below w.heap.size w w4 := bww.trans (hb4'.mono (by omega))
        have y5 : w3.heap.size + 1 < w4.heap.size := by omega
        have y6 : wr.heap.size < w4.heap.size := by omega
        clear hb4 hb4' u2 u3 uf x0 x1 x2 xf c1 c2 c3
        cases hq : (mulC n1 d1 n d != 0)
        · have hq0 : mulC n1 d1 n d = 0 := by simpa using hq
          have e6 := hide (e4.out hq0)
          clear e4 e5 hq0
          go_wp2_with (at_builtin; refine wpList_append_lies _ (by rfl) (.tmp 58) (.tmp 63) _ (by rfl) (w3.heap.size + 1 + 1) 61 i0 _ 3 32 Try.underlying30 hi hzA hzB hzC rfl (by decide) _ k _ (by rfl) ((HB4.out.own.alloc _).alloc _) ⟨w4.heap.size + 1, 0, none⟩ 1 1 [.string s, .int .i64 (mulN n1 d1 n d), .int .i64 (mulD n1 d1 n d)] (by rfl) rfl (World.news_of_block (ug_new _ _ (by simp))) (by intro u hu; simp at hu; rcases hu with rfl | rfl | rfl <;> rfl) (by decide) (by simp only [maxLen]; omega) (by omega) (by simp; omega) (w4.heap.size + 1 + 1) (by simp) ?_; intro g' cap' w5 hown hgrow hat hlt5; have bA : Below w4.heap.size w4 ((w4.alloc (.cells #[.int .i64 (mulN n1 d1 n d), .int .i64 (mulD n1 d1 n d)] 29)).alloc (.cells #[.string s, .int .i64 (mulN n1 d1 n d), .int .i64 (mulD n1 d1 n d)] 61)) := (by repeat (first | (with_reducible refine bl_set ?_ (by simp <;> omega) _) | (with_reducible refine bl_alloc ?_ (Nat.le_refl _) _) | (with_reducible refine Below.drew ?_) | (with_reducible assumption) | (with_reducible exact Below.refl _ _))); have HB5 := hide (HB4.out.later bA); obtain ⟨j1, j2⟩ := HB5.out.mid hgrow)
          go_wp2
          go_roundw
          case rel => exact ⟨k + 1, _, by omega, by go_num, e6, by rw [e3.out, flat3_snoc]; exact HB5.out.put hown hgrow⟩
          case measure => simp [intOf]; omega
        · have hq0 : mulC n1 d1 n d ≠ 0 := by simpa using hq
          have HR := hide (e5.out hq0)
          clear e4 e5 e3 hq0 HB4 y2
          go_wp2
          refine bodyPost_ret (v := .tuple #[.agg #[.int .i64 0, .int .i64 0, .slice none 0 0], .int .i64 (mulC n1 d1 n d)]) ?_ rfl ?_
          · simp (maxDischargeDepth := 9) [results, Try.results24, go_sem, *]
          · obtain ⟨e1, e2, e3, e4⟩ := HR.out
            rw [e2, e3, e4, e1]
            exact ⟨_, rfl, TermsOwn.none _, fun g hg => by simp [Value.ownBlock] at hg, (by repeat (first | (with_reducible refine bl_set ?_ (by simp <;> omega) _) | (with_reducible refine bl_alloc ?_ (Nat.le_refl _) _) | (with_reducible refine Below.drew ?_) | (with_reducible assumption) | (with_reducible exact Below.refl _ _)))⟩
      · obtain rfl : k = m := by omega
        have HR := hide (HG.out hsc.out)
        clear hsc
        go_wp2
        refine bodyPost_ret (v := .tuple #[.agg #[.int .i64 (mulN a b n d), .int .i64 (mulD a b n d), .slice Av k cv], .int .i64 0]) ?_ rfl ?_
        · simp (maxDischargeDepth := 9) [results, Try.results24, go_sem, *]
        · obtain ⟨e1, e2, e3, e4⟩ := HR.out
          rw [e2, e3, e4, e1]
          refine ⟨_, rfl, (own_terms HBx.out.own (scP_len L n d k)).kept (by simp [World.setCell]) (fun g hg hlt => ?_), fun g hg => ?_, (by repeat (first | (with_reducible refine bl_set ?_ (by simp <;> omega) _) | (with_reducible refine bl_alloc ?_ (Nat.le_refl _) _) | (with_reducible refine Below.drew ?_) | (with_reducible assumption) | (with_reducible exact Below.refl _ _)))⟩
          · have := HBx.out.own.lt g hg
            have ne : g ≠ w.heap.size + 1 + 1 := by omega
            exact (Below.heap_setCell _ _ _ _ ne).trans ((Below.heap_setCell _ _ _ _ ne).trans (Below.heap_setCell _ _ _ _ ne))
          · have := HBx.out.own.lt g hg
            simp [World.setCell]
            omega
  · have hm' : mulC a b n d ≠ 0 := by simpa using hm
    have HR := hide (HERR.out hm')
    clear HERR HBAD HGOOD hm'
    go_wp2
    refine bodyPost_ret (v := .tuple #[.agg #[.int .i64 0, .int .i64 0, .slice none 0 0], .int .i64 (mulC a b n d)]) ?_ rfl ?_
    · simp (maxDischargeDepth := 9) [results, Try.results24, go_sem, *]
    · obtain ⟨e1, e2, e3, e4⟩ := HR.out
      rw [e2, e3, e4, e1]
      exact ⟨_, rfl, TermsOwn.none _, fun g hg => by simp [Value.ownBlock] at hg, (by repeat (first | (with_reducible refine bl_set ?_ (by simp <;> omega) _) | (with_reducible refine bl_alloc ?_ (Nat.le_refl _) _) | (with_reducible refine Below.drew ?_) | (with_reducible assumption) | (with_reducible exact Below.refl _ _)))⟩
end Go.Proofs.Ythojgmhionekbaa
