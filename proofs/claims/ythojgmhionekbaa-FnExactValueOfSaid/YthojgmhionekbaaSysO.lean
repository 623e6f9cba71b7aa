/-
  CONTRACTS of ValueOf (packages impl and spec), and the walk of the law FnExactValueOf. Conditions: what the slices hold.
-/
import Derived.Test.YthojgmhionekbaaSysV
import Derived.BigRegion
namespace Go.Proofs.Ythojgmhionekbaa
open Go.RowKit Go.Sort
set_option linter.unusedVariables false
attribute [local go_sem] cell_grow frozen_grow
theorem fdN_bd (R : List R4) (s : ByteArray) : ∀ n, -1 ≤ fdN R s n ∧ fdN R s n < (n : Int)
  | 0 => by simp [fdN]
  | n + 1 => by
    have ih := fdN_bd R s n
    rw [fdN]
    split
    · omega
    · split <;> omega
/-- what ValueOf yields -/
def voC (R : List R4) (s : ByteArray) : Int := if sysOk R && isNm s then (if fdR R s < 0 then 3 else if 0 < (R.getD (fdR R s).toNat r4d).2.2.2.length then 6 else 0) else 1
def voN (R : List R4) (s : ByteArray) : Int := if voC R s = 0 then (R.getD (fdR R s).toNat r4d).2.1 else 0
def voD (R : List R4) (s : ByteArray) : Int := if voC R s = 0 then (R.getD (fdR R s).toNat r4d).2.2.1 else 0
theorem vo_bad {R : List R4} {s : ByteArray} (h : (sysOk R && isNm s) = false) : voC R s = 1 ∧ voN R s = 0 ∧ voD R s = 0 := by
  have hc : voC R s = 1 := by unfold voC; rw [h]; rfl
  exact ⟨hc, by unfold voN; rw [hc]; rfl, by unfold voD; rw [hc]; rfl⟩
theorem vo_none {R : List R4} {s : ByteArray} (h : (sysOk R && isNm s) = true) (hf : fdR R s < 0) : voC R s = 3 ∧ voN R s = 0 ∧ voD R s = 0 := by
  have hc : voC R s = 3 := by unfold voC; rw [h, if_pos rfl, if_pos hf]
  exact ⟨hc, by unfold voN; rw [hc]; rfl, by unfold voD; rw [hc]; rfl⟩
theorem vo_open {R : List R4} {s : ByteArray} {k : Nat} (h : (sysOk R && isNm s) = true) (hf : fdR R s = k) (hl : 0 < (R.getD k r4d).2.2.2.length) : voC R s = 6 ∧ voN R s = 0 ∧ voD R s = 0 := by
  have hc : voC R s = 6 := by unfold voC; rw [h, if_pos rfl, hf, if_neg (by omega), Int.toNat_natCast, if_pos hl]
  exact ⟨hc, by unfold voN; rw [hc]; rfl, by unfold voD; rw [hc]; rfl⟩
theorem vo_ok {R : List R4} {s : ByteArray} {k : Nat} (h : (sysOk R && isNm s) = true) (hf : fdR R s = k) (hl : ¬ 0 < (R.getD k r4d).2.2.2.length) : voC R s = 0 ∧ voN R s = (R.getD k r4d).2.1 ∧ voD R s = (R.getD k r4d).2.2.1 := by
  have hc : voC R s = 0 := by unfold voC; rw [h, if_pos rfl, hf, if_neg (by omega), Int.toNat_natCast, if_neg hl]
  exact ⟨hc, by unfold voN; rw [hc, if_pos rfl, hf, Int.toNat_natCast], by unfold voD; rw [hc, if_pos rfl, hf, Int.toNat_natCast]⟩
theorem sys_rises {R : List R4} (h : sysOk R = true) : Rises R := by
  unfold sysOk at h
  simp only [Bool.and_eq_true] at h
  exact rises_of h.1.2
set_option maxRecDepth 100000 in
set_option maxHeartbeats 16000000 in
theorem valueOf_s (x : Value) (R : List R4) (hlen : R.length ≤ 1048576) (hB : RowsB R) (s : ByteArray) (hs : s.size ≤ maxLen) (w : World) (hx : RowsAt w x R) : Calls Try.prog 31 #[.agg #[x], .string s] w fun e w' => e = .returned (.tuple #[.agg #[.int .i64 (voN R s), .int .i64 (voD R s)], .int .i64 (voC R s)]) ∧ Below w.heap.size w w' := by
  have HV := hide (fun W P hW h1 h2 => l05System_s x R hlen hB W (hx.later (hW : Below w.heap.size w W)) P h1 h2)
  have HF := hide (fun W (hW : Below w.heap.size w W) => l05Find_any x R hlen s W (hx.later hW))
  have HN := isName_s s hs
  obtain ⟨A, ca, rfl, hA⟩ := hx
  have HA := hide hA
  have HLN := hide (fun k (hk : k < R.length) => (hB.2 k hk).2.2.2.1)
  have hbd2 : -1 ≤ fdR R s ∧ fdR R s < (R.length : Int) := fdN_bd R s R.length
  clear hA hB hs
  cases h1 : sysOk R
  · obtain ⟨r1, r2, r3⟩ := @vo_bad R s (by rw [h1]; rfl)
    rw [h1] at HV
    rw [r1, r2, r3]
    clear h1 r1 r2 r3 HN HF HA
    go_enter Try.func31, Try.ntmps31
    go_wp2_with fail
    (with_reducible refine (HV.out _ w.heap.size (by repeat (first | (with_reducible refine bl_set ?_ (by simp <;> omega) _) | (with_reducible refine bl_alloc ?_ (Nat.le_refl _) _) | (with_reducible refine Below.drew ?_) | (with_reducible assumption) | (with_reducible exact Below.refl _ _))) (by simp <;> omega) (by simp [go_sem])).mono ?_)
    rintro e w1 ⟨rfl, hb1⟩
    have z1 := hb1.size
    simp at z1
    have o1 : w1.heap[w.heap.size + 1]? = some (.cells #[.int .i64 0, .int .i64 0] 29 (0, 0)) := (hb1.block _ (by simp)).trans (ug_new _ _ (by simp))
    have x1 : w1.heap[w.heap.size]? = some (.cells #[.slice A R.length ca] 44 (0, 0)) := (hb1.block _ (by simp; omega)).trans ((ug_old _ _ (by simp)).trans (ug_new _ _ rfl))
    have b1 : Below w.heap.size w w1 := bl_call (by repeat (first | (with_reducible refine bl_set ?_ (by simp <;> omega) _) | (with_reducible refine bl_alloc ?_ (Nat.le_refl _) _) | (with_reducible refine Below.drew ?_) | (with_reducible assumption) | (with_reducible exact Below.refl _ _))) hb1
    have k1 := ug_cell o1
    have f1 := ug_frozen o1
    have y1 := ug_cell x1
    have m0 : w.heap.size < w1.heap.size := by omega
    have m1 : w.heap.size + 1 < w1.heap.size := by omega
    clear hb1
    go_wp2
    refine bodyPost_ret (v := .tuple #[.agg #[.int .i64 0, .int .i64 0], .int .i64 1]) ?_ rfl ⟨rfl, (by repeat (first | (with_reducible refine bl_set ?_ (by simp <;> omega) _) | (with_reducible refine bl_alloc ?_ (Nat.le_refl _) _) | (with_reducible refine Below.drew ?_) | (with_reducible assumption) | (with_reducible exact Below.refl _ _)))⟩
    simp (maxDischargeDepth := 9) [results, Try.results31, go_sem, *]
  rw [h1] at HV
  cases h2 : isNm s
  · obtain ⟨r1, r2, r3⟩ := @vo_bad R s (by rw [h1, h2]; rfl)
    rw [h2] at HN
    rw [r1, r2, r3]
    clear h1 h2 r1 r2 r3 HF HA
    go_enter Try.func31, Try.ntmps31
    go_wp2_with fail
    (with_reducible refine (HV.out _ w.heap.size (by repeat (first | (with_reducible refine bl_set ?_ (by simp <;> omega) _) | (with_reducible refine bl_alloc ?_ (Nat.le_refl _) _) | (with_reducible refine Below.drew ?_) | (with_reducible assumption) | (with_reducible exact Below.refl _ _))) (by simp <;> omega) (by simp [go_sem])).mono ?_)
    rintro e w1 ⟨rfl, hb1⟩
    have z1 := hb1.size
    simp at z1
    have o1 : w1.heap[w.heap.size + 1]? = some (.cells #[.int .i64 0, .int .i64 0] 29 (0, 0)) := (hb1.block _ (by simp)).trans (ug_new _ _ (by simp))
    have x1 : w1.heap[w.heap.size]? = some (.cells #[.slice A R.length ca] 44 (0, 0)) := (hb1.block _ (by simp; omega)).trans ((ug_old _ _ (by simp)).trans (ug_new _ _ rfl))
    have b1 : Below w.heap.size w w1 := bl_call (by repeat (first | (with_reducible refine bl_set ?_ (by simp <;> omega) _) | (with_reducible refine bl_alloc ?_ (Nat.le_refl _) _) | (with_reducible refine Below.drew ?_) | (with_reducible assumption) | (with_reducible exact Below.refl _ _))) hb1
    have k1 := ug_cell o1
    have f1 := ug_frozen o1
    have y1 := ug_cell x1
    have m0 : w.heap.size < w1.heap.size := by omega
    have m1 : w.heap.size + 1 < w1.heap.size := by omega
    clear hb1
    go_wp2_with (first | (go_at_call 57; (with_reducible refine (HN _).mono ?_); rintro e w1 ⟨rfl, rfl⟩))
    refine bodyPost_ret (v := .tuple #[.agg #[.int .i64 0, .int .i64 0], .int .i64 1]) ?_ rfl ⟨rfl, (by repeat (first | (with_reducible refine bl_set ?_ (by simp <;> omega) _) | (with_reducible refine bl_alloc ?_ (Nat.le_refl _) _) | (with_reducible refine Below.drew ?_) | (with_reducible assumption) | (with_reducible exact Below.refl _ _)))⟩
    simp (maxDischargeDepth := 9) [results, Try.results31, go_sem, *]
  rw [h2] at HN
  have hok : (sysOk R && isNm s) = true := by rw [h1, h2]; rfl
  by_cases hf : fdR R s < 0
  · obtain ⟨r1, r2, r3⟩ := vo_none hok hf
    rw [r1, r2, r3]
    clear h1 h2 r1 r2 r3 hok HA
    have df : decide (fdR R s < 0) = true := decide_eq_true hf
    generalize fdR R s = F at *
    go_enter Try.func31, Try.ntmps31
    go_wp2_with fail
    (with_reducible refine (HV.out _ w.heap.size (by repeat (first | (with_reducible refine bl_set ?_ (by simp <;> omega) _) | (with_reducible refine bl_alloc ?_ (Nat.le_refl _) _) | (with_reducible refine Below.drew ?_) | (with_reducible assumption) | (with_reducible exact Below.refl _ _))) (by simp <;> omega) (by simp [go_sem])).mono ?_)
    rintro e w1 ⟨rfl, hb1⟩
    have z1 := hb1.size
    simp at z1
    have o1 : w1.heap[w.heap.size + 1]? = some (.cells #[.int .i64 0, .int .i64 0] 29 (0, 0)) := (hb1.block _ (by simp)).trans (ug_new _ _ (by simp))
    have x1 : w1.heap[w.heap.size]? = some (.cells #[.slice A R.length ca] 44 (0, 0)) := (hb1.block _ (by simp; omega)).trans ((ug_old _ _ (by simp)).trans (ug_new _ _ rfl))
    have b1 : Below w.heap.size w w1 := bl_call (by repeat (first | (with_reducible refine bl_set ?_ (by simp <;> omega) _) | (with_reducible refine bl_alloc ?_ (Nat.le_refl _) _) | (with_reducible refine Below.drew ?_) | (with_reducible assumption) | (with_reducible exact Below.refl _ _))) hb1
    have k1 := ug_cell o1
    have f1 := ug_frozen o1
    have y1 := ug_cell x1
    have m0 : w.heap.size < w1.heap.size := by omega
    have m1 : w.heap.size + 1 < w1.heap.size := by omega
    clear hb1
    go_wp2_with (first | (go_at_call 57; (with_reducible refine (HN _).mono ?_); rintro e w1 ⟨rfl, rfl⟩))
    (with_reducible refine (HF.out _ b1).mono ?_)
    rintro e w2 ⟨rfl, hb2⟩
    have z2 := hb2.size
    have o2 := (hb2.block _ m1).trans o1
    have x2 := (hb2.block _ m0).trans x1
    have b2 : Below w.heap.size w w2 := bl_call b1 hb2
    have k2 := ug_cell o2
    have f2 := ug_frozen o2
    have y2 := ug_cell x2
    have n0 : w.heap.size < w2.heap.size := by omega
    have n1 : w.heap.size + 1 < w2.heap.size := by omega
    clear hb2 k1 f1 y1 o1 x1
    go_wp2
    refine bodyPost_ret (v := .tuple #[.agg #[.int .i64 0, .int .i64 0], .int .i64 3]) ?_ rfl ⟨rfl, (by repeat (first | (with_reducible refine bl_set ?_ (by simp <;> omega) _) | (with_reducible refine bl_alloc ?_ (Nat.le_refl _) _) | (with_reducible refine Below.drew ?_) | (with_reducible assumption) | (with_reducible exact Below.refl _ _)))⟩
    simp (maxDischargeDepth := 9) [results, Try.results31, go_sem, *]
  obtain ⟨k, hk⟩ : ∃ k : Nat, fdR R s = k := ⟨(fdR R s).toNat, by omega⟩
  have hkn : k < R.length := by omega
  obtain ⟨g, o, rfl, hg, hcg⟩ := HA.out (by omega)
  obtain ⟨a1, a2, a3, sv, a4, a5⟩ := hcg k hkn
  have hV1 := fun h => @vo_open R s k hok hk h
  have hV2 := fun h => @vo_ok R s k hok hk h
  have hll := HLN.out k hkn
  simp only [maxLen] at hll
  rw [hk] at HF
  obtain ⟨As, cs, rfl, _⟩ := a5
  have hkn2 : (k : Int) < (R.length : Int) := by omega
  have hrl : (R.length : Int) ≤ 1048576 := by omega
  have HC2 := hide a2
  have HC3 := hide a3
  have HC4 := hide a4
  clear hcg a1 a2 a3 a4 h1 h2 hok hf HA HLN hbd2 hk
  by_cases hl : 0 < (R.getD k r4d).2.2.2.length
  · obtain ⟨r1, r2, r3⟩ := hV1 hl
    rw [r1, r2, r3]
    clear r1 r2 r3 hV1 hV2
    generalize R.getD k r4d = q at *
    obtain ⟨q0, q1, q2, q3⟩ := q
    simp only at HC2 HC3 HC4 hll hl
    generalize hq3 : q3.length = ln at *
    have dl : decide (0 < (ln : Int)) = true := by simp; omega
    go_enter Try.func31, Try.ntmps31
    go_wp2_with fail
    (with_reducible refine (HV.out _ w.heap.size (by repeat (first | (with_reducible refine bl_set ?_ (by simp <;> omega) _) | (with_reducible refine bl_alloc ?_ (Nat.le_refl _) _) | (with_reducible refine Below.drew ?_) | (with_reducible assumption) | (with_reducible exact Below.refl _ _))) (by simp <;> omega) (by simp [go_sem])).mono ?_)
    rintro e w1 ⟨rfl, hb1⟩
    have z1 := hb1.size
    simp at z1
    have o1 : w1.heap[w.heap.size + 1]? = some (.cells #[.int .i64 0, .int .i64 0] 29 (0, 0)) := (hb1.block _ (by simp)).trans (ug_new _ _ (by simp))
    have x1 : w1.heap[w.heap.size]? = some (.cells #[.slice (some ⟨g, o, none⟩) R.length ca] 44 (0, 0)) := (hb1.block _ (by simp; omega)).trans ((ug_old _ _ (by simp)).trans (ug_new _ _ rfl))
    have b1 : Below w.heap.size w w1 := bl_call (by repeat (first | (with_reducible refine bl_set ?_ (by simp <;> omega) _) | (with_reducible refine bl_alloc ?_ (Nat.le_refl _) _) | (with_reducible refine Below.drew ?_) | (with_reducible assumption) | (with_reducible exact Below.refl _ _))) hb1
    have k1 := ug_cell o1
    have f1 := ug_frozen o1
    have y1 := ug_cell x1
    have m0 : w.heap.size < w1.heap.size := by omega
    have m1 : w.heap.size + 1 < w1.heap.size := by omega
    clear hb1
    go_wp2_with (first | (go_at_call 57; (with_reducible refine (HN _).mono ?_); rintro e w1 ⟨rfl, rfl⟩))
    (with_reducible refine (HF.out _ b1).mono ?_)
    rintro e w2 ⟨rfl, hb2⟩
    have z2 := hb2.size
    have o2 := (hb2.block _ m1).trans o1
    have x2 := (hb2.block _ m0).trans x1
    have b2 : Below w.heap.size w w2 := bl_call b1 hb2
    have k2 := ug_cell o2
    have f2 := ug_frozen o2
    have y2 := ug_cell x2
    have n0 : w.heap.size < w2.heap.size := by omega
    have n1 : w.heap.size + 1 < w2.heap.size := by omega
    clear hb2 k1 f1 y1 o1 x1
    have c2 := (b2.cell (p := ⟨g, o + k * 4 + 1, none⟩) hg).trans HC2.out
    have c3 := (b2.cell (p := ⟨g, o + k * 4 + 2, none⟩) hg).trans HC3.out
    have c4 := (b2.cell (p := ⟨g, o + k * 4 + 3, none⟩) hg).trans HC4.out
    have hg2 : g < w2.heap.size := by omega
    go_wp2
    refine bodyPost_ret (v := .tuple #[.agg #[.int .i64 0, .int .i64 0], .int .i64 6]) ?_ rfl ⟨rfl, (by repeat (first | (with_reducible refine bl_set ?_ (by simp <;> omega) _) | (with_reducible refine bl_alloc ?_ (Nat.le_refl _) _) | (with_reducible refine Below.drew ?_) | (with_reducible assumption) | (with_reducible exact Below.refl _ _)))⟩
    simp (maxDischargeDepth := 9) [results, Try.results31, go_sem, *]
  · obtain ⟨r1, r2, r3⟩ := hV2 hl
    rw [r1, r2, r3]
    clear r1 r2 r3 hV1 hV2
    generalize R.getD k r4d = q at *
    obtain ⟨q0, q1, q2, q3⟩ := q
    simp only at HC2 HC3 HC4 hll hl ⊢
    generalize hq3 : q3.length = ln at *
    obtain rfl : ln = 0 := by omega
    go_enter Try.func31, Try.ntmps31
    go_wp2_with fail
    (with_reducible refine (HV.out _ w.heap.size (by repeat (first | (with_reducible refine bl_set ?_ (by simp <;> omega) _) | (with_reducible refine bl_alloc ?_ (Nat.le_refl _) _) | (with_reducible refine Below.drew ?_) | (with_reducible assumption) | (with_reducible exact Below.refl _ _))) (by simp <;> omega) (by simp [go_sem])).mono ?_)
    rintro e w1 ⟨rfl, hb1⟩
    have z1 := hb1.size
    simp at z1
    have o1 : w1.heap[w.heap.size + 1]? = some (.cells #[.int .i64 0, .int .i64 0] 29 (0, 0)) := (hb1.block _ (by simp)).trans (ug_new _ _ (by simp))
    have x1 : w1.heap[w.heap.size]? = some (.cells #[.slice (some ⟨g, o, none⟩) R.length ca] 44 (0, 0)) := (hb1.block _ (by simp; omega)).trans ((ug_old _ _ (by simp)).trans (ug_new _ _ rfl))
    have b1 : Below w.heap.size w w1 := bl_call (by repeat (first | (with_reducible refine bl_set ?_ (by simp <;> omega) _) | (with_reducible refine bl_alloc ?_ (Nat.le_refl _) _) | (with_reducible refine Below.drew ?_) | (with_reducible assumption) | (with_reducible exact Below.refl _ _))) hb1
    have k1 := ug_cell o1
    have f1 := ug_frozen o1
    have y1 := ug_cell x1
    have m0 : w.heap.size < w1.heap.size := by omega
    have m1 : w.heap.size + 1 < w1.heap.size := by omega
    clear hb1
    go_wp2_with (first | (go_at_call 57; (with_reducible refine (HN _).mono ?_); rintro e w1 ⟨rfl, rfl⟩))
    (with_reducible refine (HF.out _ b1).mono ?_)
    rintro e w2 ⟨rfl, hb2⟩
    have z2 := hb2.size
    have o2 := (hb2.block _ m1).trans o1
    have x2 := (hb2.block _ m0).trans x1
    have b2 : Below w.heap.size w w2 := bl_call b1 hb2
    have k2 := ug_cell o2
    have f2 := ug_frozen o2
    have y2 := ug_cell x2
    have n0 : w.heap.size < w2.heap.size := by omega
    have n1 : w.heap.size + 1 < w2.heap.size := by omega
    clear hb2 k1 f1 y1 o1 x1
    have c2 := (b2.cell (p := ⟨g, o + k * 4 + 1, none⟩) hg).trans HC2.out
    have c3 := (b2.cell (p := ⟨g, o + k * 4 + 2, none⟩) hg).trans HC3.out
    have c4 := (b2.cell (p := ⟨g, o + k * 4 + 3, none⟩) hg).trans HC4.out
    have hg2 : g < w2.heap.size := by omega
    go_wp2
    refine bodyPost_ret (v := .tuple #[.agg #[.int .i64 q1, .int .i64 q2], .int .i64 0]) ?_ rfl ⟨rfl, (by repeat (first | (with_reducible refine bl_set ?_ (by simp <;> omega) _) | (with_reducible refine bl_alloc ?_ (Nat.le_refl _) _) | (with_reducible refine Below.drew ?_) | (with_reducible assumption) | (with_reducible exact Below.refl _ _)))⟩
    simp (maxDischargeDepth := 9) [results, Try.results31, go_sem, *]
set_option maxRecDepth 100000 in
set_option maxHeartbeats 16000000 in
theorem valueOf_i (x : Value) (R : List R4) (hlen : R.length ≤ 1048576) (hB : RowsB R) (s : ByteArray) (hs : s.size ≤ maxLen) (w : World) (hx : RowsAt w x R) : Calls Try.prog 32 #[.agg #[x], .string s] w fun e w' => e = .returned (.tuple #[.agg #[.int .i64 (voN R s), .int .i64 (voD R s)], .int .i64 (voC R s)]) ∧ Below w.heap.size w w' := by
  have HV := hide (fun W (hW : Below w.heap.size w W) => validSystem_i x R hlen hB W (hx.later hW))
  have HF := hide (fun hr W (hW : Below w.heap.size w W) => findRow_any x R hlen s hr W (hx.later hW))
  have HN := isName_i s hs
  obtain ⟨A, ca, rfl, hA⟩ := hx
  have HA := hide hA
  have HLN := hide (fun k (hk : k < R.length) => (hB.2 k hk).2.2.2.1)
  have hbd2 : -1 ≤ fdR R s ∧ fdR R s < (R.length : Int) := fdN_bd R s R.length
  clear hA hB hs
  cases h1 : sysOk R
  · obtain ⟨r1, r2, r3⟩ := @vo_bad R s (by rw [h1]; rfl)
    rw [h1] at HV
    rw [r1, r2, r3]
    clear h1 r1 r2 r3 HN HF HA
    go_enter Try.func32, Try.ntmps32
    go_wp2_with fail
    (with_reducible refine (HV.out _ (by repeat (first | (with_reducible refine bl_set ?_ (by simp <;> omega) _) | (with_reducible refine bl_alloc ?_ (Nat.le_refl _) _) | (with_reducible refine Below.drew ?_) | (with_reducible assumption) | (with_reducible exact Below.refl _ _)))).mono ?_)
    rintro e w1 ⟨rfl, hb1⟩
    have z1 := hb1.size
    simp at z1
    have o1 : w1.heap[w.heap.size + 1]? = some (.cells #[.int .i64 0, .int .i64 0] 29 (0, 0)) := (hb1.block _ (by simp)).trans (ug_new _ _ (by simp))
    have x1 : w1.heap[w.heap.size]? = some (.cells #[.slice A R.length ca] 44 (0, 0)) := (hb1.block _ (by simp; omega)).trans ((ug_old _ _ (by simp)).trans (ug_new _ _ rfl))
    have b1 : Below w.heap.size w w1 := bl_call (by repeat (first | (with_reducible refine bl_set ?_ (by simp <;> omega) _) | (with_reducible refine bl_alloc ?_ (Nat.le_refl _) _) | (with_reducible refine Below.drew ?_) | (with_reducible assumption) | (with_reducible exact Below.refl _ _))) hb1
    have k1 := ug_cell o1
    have f1 := ug_frozen o1
    have y1 := ug_cell x1
    have m0 : w.heap.size < w1.heap.size := by omega
    have m1 : w.heap.size + 1 < w1.heap.size := by omega
    clear hb1
    go_wp2
    refine bodyPost_ret (v := .tuple #[.agg #[.int .i64 0, .int .i64 0], .int .i64 1]) ?_ rfl ⟨rfl, (by repeat (first | (with_reducible refine bl_set ?_ (by simp <;> omega) _) | (with_reducible refine bl_alloc ?_ (Nat.le_refl _) _) | (with_reducible refine Below.drew ?_) | (with_reducible assumption) | (with_reducible exact Below.refl _ _)))⟩
    simp (maxDischargeDepth := 9) [results, Try.results32, go_sem, *]
  have hrise := sys_rises h1
  rw [h1] at HV
  cases h2 : isNm s
  · obtain ⟨r1, r2, r3⟩ := @vo_bad R s (by rw [h1, h2]; rfl)
    rw [h2] at HN
    rw [r1, r2, r3]
    clear h1 h2 r1 r2 r3 HF HA
    go_enter Try.func32, Try.ntmps32
    go_wp2_with fail
    (with_reducible refine (HV.out _ (by repeat (first | (with_reducible refine bl_set ?_ (by simp <;> omega) _) | (with_reducible refine bl_alloc ?_ (Nat.le_refl _) _) | (with_reducible refine Below.drew ?_) | (with_reducible assumption) | (with_reducible exact Below.refl _ _)))).mono ?_)
    rintro e w1 ⟨rfl, hb1⟩
    have z1 := hb1.size
    simp at z1
    have o1 : w1.heap[w.heap.size + 1]? = some (.cells #[.int .i64 0, .int .i64 0] 29 (0, 0)) := (hb1.block _ (by simp)).trans (ug_new _ _ (by simp))
    have x1 : w1.heap[w.heap.size]? = some (.cells #[.slice A R.length ca] 44 (0, 0)) := (hb1.block _ (by simp; omega)).trans ((ug_old _ _ (by simp)).trans (ug_new _ _ rfl))
    have b1 : Below w.heap.size w w1 := bl_call (by repeat (first | (with_reducible refine bl_set ?_ (by simp <;> omega) _) | (with_reducible refine bl_alloc ?_ (Nat.le_refl _) _) | (with_reducible refine Below.drew ?_) | (with_reducible assumption) | (with_reducible exact Below.refl _ _))) hb1
    have k1 := ug_cell o1
    have f1 := ug_frozen o1
    have y1 := ug_cell x1
    have m0 : w.heap.size < w1.heap.size := by omega
    have m1 : w.heap.size + 1 < w1.heap.size := by omega
    clear hb1
    go_wp2_with (first | (go_at_call 40; (with_reducible refine (HN _).mono ?_); rintro e w1 ⟨rfl, rfl⟩))
    refine bodyPost_ret (v := .tuple #[.agg #[.int .i64 0, .int .i64 0], .int .i64 1]) ?_ rfl ⟨rfl, (by repeat (first | (with_reducible refine bl_set ?_ (by simp <;> omega) _) | (with_reducible refine bl_alloc ?_ (Nat.le_refl _) _) | (with_reducible refine Below.drew ?_) | (with_reducible assumption) | (with_reducible exact Below.refl _ _)))⟩
    simp (maxDischargeDepth := 9) [results, Try.results32, go_sem, *]
  rw [h2] at HN
  have hok : (sysOk R && isNm s) = true := by rw [h1, h2]; rfl
  have HF := hide (HF.out hrise)
  clear hrise
  by_cases hf : fdR R s < 0
  · obtain ⟨r1, r2, r3⟩ := vo_none hok hf
    rw [r1, r2, r3]
    clear h1 h2 r1 r2 r3 hok HA
    rw [show decide (0 ≤ fdR R s) = false from decide_eq_false (by omega)] at HF
    generalize fdR R s = F at *
    go_enter Try.func32, Try.ntmps32
    go_wp2_with fail
    (with_reducible refine (HV.out _ (by repeat (first | (with_reducible refine bl_set ?_ (by simp <;> omega) _) | (with_reducible refine bl_alloc ?_ (Nat.le_refl _) _) | (with_reducible refine Below.drew ?_) | (with_reducible assumption) | (with_reducible exact Below.refl _ _)))).mono ?_)
    rintro e w1 ⟨rfl, hb1⟩
    have z1 := hb1.size
    simp at z1
    have o1 : w1.heap[w.heap.size + 1]? = some (.cells #[.int .i64 0, .int .i64 0] 29 (0, 0)) := (hb1.block _ (by simp)).trans (ug_new _ _ (by simp))
    have x1 : w1.heap[w.heap.size]? = some (.cells #[.slice A R.length ca] 44 (0, 0)) := (hb1.block _ (by simp; omega)).trans ((ug_old _ _ (by simp)).trans (ug_new _ _ rfl))
    have b1 : Below w.heap.size w w1 := bl_call (by repeat (first | (with_reducible refine bl_set ?_ (by simp <;> omega) _) | (with_reducible refine bl_alloc ?_ (Nat.le_refl _) _) | (with_reducible refine Below.drew ?_) | (with_reducible assumption) | (with_reducible exact Below.refl _ _))) hb1
    have k1 := ug_cell o1
    have f1 := ug_frozen o1
    have y1 := ug_cell x1
    have m0 : w.heap.size < w1.heap.size := by omega
    have m1 : w.heap.size + 1 < w1.heap.size := by omega
    clear hb1
    go_wp2_with (first | (go_at_call 40; (with_reducible refine (HN _).mono ?_); rintro e w1 ⟨rfl, rfl⟩))
    (with_reducible refine (HF.out _ b1).mono ?_)
    rintro e w2 ⟨fi, rfl, hfi, hb2⟩
    have z2 := hb2.size
    have o2 := (hb2.block _ m1).trans o1
    have x2 := (hb2.block _ m0).trans x1
    have b2 : Below w.heap.size w w2 := bl_call b1 hb2
    have k2 := ug_cell o2
    have f2 := ug_frozen o2
    have y2 := ug_cell x2
    have n0 : w.heap.size < w2.heap.size := by omega
    have n1 : w.heap.size + 1 < w2.heap.size := by omega
    clear hb2 k1 f1 y1 o1 x1
    go_wp2
    refine bodyPost_ret (v := .tuple #[.agg #[.int .i64 0, .int .i64 0], .int .i64 3]) ?_ rfl ⟨rfl, (by repeat (first | (with_reducible refine bl_set ?_ (by simp <;> omega) _) | (with_reducible refine bl_alloc ?_ (Nat.le_refl _) _) | (with_reducible refine Below.drew ?_) | (with_reducible assumption) | (with_reducible exact Below.refl _ _)))⟩
    simp (maxDischargeDepth := 9) [results, Try.results32, go_sem, *]
  obtain ⟨k, hk⟩ : ∃ k : Nat, fdR R s = k := ⟨(fdR R s).toNat, by omega⟩
  have hkn : k < R.length := by omega
  obtain ⟨g, o, rfl, hg, hcg⟩ := HA.out (by omega)
  obtain ⟨a1, a2, a3, sv, a4, a5⟩ := hcg k hkn
  have hV1 := fun h => @vo_open R s k hok hk h
  have hV2 := fun h => @vo_ok R s k hok hk h
  have hll := HLN.out k hkn
  simp only [maxLen] at hll
  rw [hk] at HF
  obtain ⟨As, cs, rfl, _⟩ := a5
  have hkn2 : (k : Int) < (R.length : Int) := by omega
  have hrl : (R.length : Int) ≤ 1048576 := by omega
  have HC2 := hide a2
  have HC3 := hide a3
  have HC4 := hide a4
  clear hcg a1 a2 a3 a4 h1 h2 hok hf HA HLN hbd2 hk
  by_cases hl : 0 < (R.getD k r4d).2.2.2.length
  · obtain ⟨r1, r2, r3⟩ := hV1 hl
    rw [r1, r2, r3]
    clear r1 r2 r3 hV1 hV2
    rw [show decide (0 ≤ (k : Int)) = true from decide_eq_true (by omega)] at HF
    generalize R.getD k r4d = q at *
    obtain ⟨q0, q1, q2, q3⟩ := q
    simp only at HC2 HC3 HC4 hll hl
    generalize hq3 : q3.length = ln at *
    have dl : decide (0 < (ln : Int)) = true := by simp; omega
    go_enter Try.func32, Try.ntmps32
    go_wp2_with fail
    (with_reducible refine (HV.out _ (by repeat (first | (with_reducible refine bl_set ?_ (by simp <;> omega) _) | (with_reducible refine bl_alloc ?_ (Nat.le_refl _) _) | (with_reducible refine Below.drew ?_) | (with_reducible assumption) | (with_reducible exact Below.refl _ _)))).mono ?_)
    rintro e w1 ⟨rfl, hb1⟩
    have z1 := hb1.size
    simp at z1
    have o1 : w1.heap[w.heap.size + 1]? = some (.cells #[.int .i64 0, .int .i64 0] 29 (0, 0)) := (hb1.block _ (by simp)).trans (ug_new _ _ (by simp))
    have x1 : w1.heap[w.heap.size]? = some (.cells #[.slice (some ⟨g, o, none⟩) R.length ca] 44 (0, 0)) := (hb1.block _ (by simp; omega)).trans ((ug_old _ _ (by simp)).trans (ug_new _ _ rfl))
    have b1 : Below w.heap.size w w1 := bl_call (by repeat (first | (with_reducible refine bl_set ?_ (by simp <;> omega) _) | (with_reducible refine bl_alloc ?_ (Nat.le_refl _) _) | (with_reducible refine Below.drew ?_) | (with_reducible assumption) | (with_reducible exact Below.refl _ _))) hb1
    have k1 := ug_cell o1
    have f1 := ug_frozen o1
    have y1 := ug_cell x1
    have m0 : w.heap.size < w1.heap.size := by omega
    have m1 : w.heap.size + 1 < w1.heap.size := by omega
    clear hb1
    go_wp2_with (first | (go_at_call 40; (with_reducible refine (HN _).mono ?_); rintro e w1 ⟨rfl, rfl⟩))
    (with_reducible refine (HF.out _ b1).mono ?_)
    rintro e w2 ⟨fi, rfl, hfi, hb2⟩
    have z2 := hb2.size
    have o2 := (hb2.block _ m1).trans o1
    have x2 := (hb2.block _ m0).trans x1
    have b2 : Below w.heap.size w w2 := bl_call b1 hb2
    have k2 := ug_cell o2
    have f2 := ug_frozen o2
    have y2 := ug_cell x2
    have n0 : w.heap.size < w2.heap.size := by omega
    have n1 : w.heap.size + 1 < w2.heap.size := by omega
    clear hb2 k1 f1 y1 o1 x1
    obtain rfl : fi = k := hfi (by omega)
    have c2 := (b2.cell (p := ⟨g, o + k * 4 + 1, none⟩) hg).trans HC2.out
    have c3 := (b2.cell (p := ⟨g, o + k * 4 + 2, none⟩) hg).trans HC3.out
    have c4 := (b2.cell (p := ⟨g, o + k * 4 + 3, none⟩) hg).trans HC4.out
    have hg2 : g < w2.heap.size := by omega
    go_wp2
    refine bodyPost_ret (v := .tuple #[.agg #[.int .i64 0, .int .i64 0], .int .i64 6]) ?_ rfl ⟨rfl, (by repeat (first | (with_reducible refine bl_set ?_ (by simp <;> omega) _) | (with_reducible refine bl_alloc ?_ (Nat.le_refl _) _) | (with_reducible refine Below.drew ?_) | (with_reducible assumption) | (with_reducible exact Below.refl _ _)))⟩
    simp (maxDischargeDepth := 9) [results, Try.results32, go_sem, *]
  · obtain ⟨r1, r2, r3⟩ := hV2 hl
    rw [r1, r2, r3]
    clear r1 r2 r3 hV1 hV2
    rw [show decide (0 ≤ (k : Int)) = true from decide_eq_true (by omega)] at HF
    generalize R.getD k r4d = q at *
    obtain ⟨q0, q1, q2, q3⟩ := q
    simp only at HC2 HC3 HC4 hll hl ⊢
    generalize hq3 : q3.length = ln at *
    obtain rfl : ln = 0 := by omega
    go_enter Try.func32, Try.ntmps32
    go_wp2_with fail
    (with_reducible refine (HV.out _ (by repeat (first | (with_reducible refine bl_set ?_ (by simp <;> omega) _) | (with_reducible refine bl_alloc ?_ (Nat.le_refl _) _) | (with_reducible refine Below.drew ?_) | (with_reducible assumption) | (with_reducible exact Below.refl _ _)))).mono ?_)
    rintro e w1 ⟨rfl, hb1⟩
    have z1 := hb1.size
    simp at z1
    have o1 : w1.heap[w.heap.size + 1]? = some (.cells #[.int .i64 0, .int .i64 0] 29 (0, 0)) := (hb1.block _ (by simp)).trans (ug_new _ _ (by simp))
    have x1 : w1.heap[w.heap.size]? = some (.cells #[.slice (some ⟨g, o, none⟩) R.length ca] 44 (0, 0)) := (hb1.block _ (by simp; omega)).trans ((ug_old _ _ (by simp)).trans (ug_new _ _ rfl))
    have b1 : Below w.heap.size w w1 := bl_call (by repeat (first | (with_reducible refine bl_set ?_ (by simp <;> omega) _) | (with_reducible refine bl_alloc ?_ (Nat.le_refl _) _) | (with_reducible refine Below.drew ?_) | (with_reducible assumption) | (with_reducible exact Below.refl _ _))) hb1
    have k1 := ug_cell o1
    have f1 := ug_frozen o1
    have y1 := ug_cell x1
    have m0 : w.heap.size < w1.heap.size := by omega
    have m1 : w.heap.size + 1 < w1.heap.size := by omega
    clear hb1
    go_wp2_with (first | (go_at_call 40; (with_reducible refine (HN _).mono ?_); rintro e w1 ⟨rfl, rfl⟩))
    (with_reducible refine (HF.out _ b1).mono ?_)
    rintro e w2 ⟨fi, rfl, hfi, hb2⟩
    have z2 := hb2.size
    have o2 := (hb2.block _ m1).trans o1
    have x2 := (hb2.block _ m0).trans x1
    have b2 : Below w.heap.size w w2 := bl_call b1 hb2
    have k2 := ug_cell o2
    have f2 := ug_frozen o2
    have y2 := ug_cell x2
    have n0 : w.heap.size < w2.heap.size := by omega
    have n1 : w.heap.size + 1 < w2.heap.size := by omega
    clear hb2 k1 f1 y1 o1 x1
    obtain rfl : fi = k := hfi (by omega)
    have c2 := (b2.cell (p := ⟨g, o + k * 4 + 1, none⟩) hg).trans HC2.out
    have c3 := (b2.cell (p := ⟨g, o + k * 4 + 2, none⟩) hg).trans HC3.out
    have c4 := (b2.cell (p := ⟨g, o + k * 4 + 3, none⟩) hg).trans HC4.out
    have hg2 : g < w2.heap.size := by omega
    go_wp2
    refine bodyPost_ret (v := .tuple #[.agg #[.int .i64 q1, .int .i64 q2], .int .i64 0]) ?_ rfl ⟨rfl, (by repeat (first | (with_reducible refine bl_set ?_ (by simp <;> omega) _) | (with_reducible refine bl_alloc ?_ (Nat.le_refl _) _) | (with_reducible refine Below.drew ?_) | (with_reducible assumption) | (with_reducible exact Below.refl _ _)))⟩
    simp (maxDischargeDepth := 9) [results, Try.results32, go_sem, *]
set_option maxRecDepth 100000 in
set_option maxHeartbeats 32000000 in
theorem fnValueOf (x : Value) (R : List R4) (s : ByteArray) (hB : RowsB R) (hs : s.size ≤ maxLen) (w : World) (hx : RowsAt w x R) : Calls Try.prog 9 #[.agg #[x], .string s] w fun e w' => e = .returned (.bool true) ∧ Below w.heap.size w w' := by
  have HSZ := hide (fun W (hW : Below w.heap.size w W) => szSystem_any x R 1048576 (by decide) (by decide) hB W (hx.later hW))
  have HTO := hide (fun W (hW : Below w.heap.size w W) (hl : R.length ≤ 1048576) hls => toSystem_any x R hl hls W (hx.later hW))
  have HB := hide hB
  have HVS := hide (fun x (w : World) hl hx => valueOf_s x R hl HB.out s hs w hx)
  have HVI := hide (fun x (w : World) hl hx => valueOf_i x R hl HB.out s hs w hx)
  have hs2 := hs
  simp only [maxLen] at hs2
  obtain ⟨A, ca, rfl, _⟩ := hx
  clear hB hs
  by_cases h3 : 1048576 < s.size
  · have d1 : decide ((1048576 : Int) < (s.size : Int)) = true := by simp; omega
    go_enter Try.func9, Try.ntmps9
    go_wp2
    go_ret
    exact ⟨rfl, (by repeat (first | (with_reducible refine bl_set ?_ (by simp <;> omega) _) | (with_reducible refine bl_alloc ?_ (Nat.le_refl _) _) | (with_reducible refine Below.drew ?_) | (with_reducible assumption) | (with_reducible exact Below.refl _ _)))⟩
  have d1 : decide ((1048576 : Int) < (s.size : Int)) = false := by simp; omega
  go_enter Try.func9, Try.ntmps9
  go_wp2_with fail
  (with_reducible refine (HSZ.out _ (by repeat (first | (with_reducible refine bl_set ?_ (by simp <;> omega) _) | (with_reducible refine bl_alloc ?_ (Nat.le_refl _) _) | (with_reducible refine Below.drew ?_) | (with_reducible assumption) | (with_reducible exact Below.refl _ _)))).mono ?_)
  rintro e w1 ⟨r, rfl, hr, hb1⟩
  have z1 := hb1.size
  simp at z1
  have o1 : w1.heap[w.heap.size]? = some (.cells #[.slice A R.length ca] 39 (0, 0)) := (hb1.block _ (by simp)).trans (ug_new _ _ rfl)
  have k1 := ug_cell o1
  have b1 : Below w.heap.size w w1 := bl_call (by repeat (first | (with_reducible refine bl_set ?_ (by simp <;> omega) _) | (with_reducible refine bl_alloc ?_ (Nat.le_refl _) _) | (with_reducible refine Below.drew ?_) | (with_reducible assumption) | (with_reducible exact Below.refl _ _))) hb1
  clear hb1
  rcases hr with rfl | ⟨q0, q1, q2, q4⟩
  · go_wp2
    go_ret
    exact ⟨rfl, b1⟩
  have q3 : R.length ≤ 1048576 := by omega
  have KL := hide (fun j (hj : j < R.length) => show (R.getD j r4d).2.2.2.length ≤ 1048576 by have := q4 j hj; omega)
  clear q4
  go_wp2_with fail
  (with_reducible refine (HTO.out _ b1 q3 KL.out).mono ?_)
  rintro e w2 ⟨v2, rfl, hS2, hb2⟩
  obtain ⟨A2, c2, e2⟩ := hS2.shape
  subst e2
  have z2 := hb2.size
  have o2 : w2.heap[w.heap.size]? = some (.cells #[.slice A R.length ca] 39 (0, 0)) := (hb2.block _ (by omega)).trans o1
  have b2 : Below w.heap.size w w2 := b1.trans (hb2.mono (by omega))
  have hv := HVS.out _ w2 q3 hS2
  generalize voN R s = N at *
  generalize voD R s = D at *
  generalize voC R s = C at *
  clear k1 o1 b1 hb2
  go_wp2_with fail
  (with_reducible refine hv.mono ?_)
  rintro e w3 ⟨rfl, hb3⟩
  have z3 := hb3.size
  have o3 : (w3.alloc (.cells #[.int .i64 N, .int .i64 D] 29)).heap[w.heap.size]? = some (.cells #[.slice A R.length ca] 39 (0, 0)) := (ug_old _ _ (by omega)).trans ((hb3.block _ (by omega)).trans o2)
  have p3 : (w3.alloc (.cells #[.int .i64 N, .int .i64 D] 29)).heap[w3.heap.size]? = some (.cells #[.int .i64 N, .int .i64 D] 29 (0, 0)) := ug_new _ _ rfl
  have b3 : Below w.heap.size w (w3.alloc (.cells #[.int .i64 N, .int .i64 D] 29)) := (b2.trans (hb3.mono (by omega))).alloc (by omega) _
  have k3 := ug_cell o3
  clear hS2 hv o2 b2 hb3
  go_wp2_with fail
  (with_reducible refine (HTO.out _ b3 q3 KL.out).mono ?_)
  rintro e w4 ⟨v4, rfl, hS4, hb4⟩
  obtain ⟨A4, c4, e4⟩ := hS4.shape
  subst e4
  have z4 := hb4.size
  simp at z4
  have o4 : w4.heap[w.heap.size]? = some (.cells #[.slice A R.length ca] 39 (0, 0)) := (hb4.block _ (by simp; omega)).trans o3
  have p4 := (hb4.block _ (by simp)).trans p3
  have b4 : Below w.heap.size w w4 := b3.trans (hb4.mono (by simp; omega))
  have S5 : RowsAt (w4.alloc (.cells #[.slice A4 R.length c4] 44)) (.slice A4 R.length c4) R := hS4.later ((Below.refl _ _).alloc (Nat.le_refl _) _)
  have hv := HVI.out _ _ q3 S5
  clear k3 o3 b3 p3 hb4 hS4
  go_wp2_with fail
  (with_reducible refine hv.mono ?_)
  rintro e w6 ⟨rfl, hb6⟩
  have z6 := hb6.size
  simp at z6
  have X6 : Below w6.heap.size w6 (w6.alloc (.cells #[.int .i64 N, .int .i64 D] 29)) := (Below.refl _ _).alloc (Nat.le_refl _) _
  have o6 : (w6.alloc (.cells #[.int .i64 N, .int .i64 D] 29)).heap[w.heap.size]? = some (.cells #[.slice A R.length ca] 39 (0, 0)) := (ug_old _ _ (by omega)).trans ((hb6.block _ (by simp; omega)).trans ((ug_old _ _ (by omega)).trans o4))
  have p6 : (w6.alloc (.cells #[.int .i64 N, .int .i64 D] 29)).heap[w3.heap.size]? = some (.cells #[.int .i64 N, .int .i64 D] 29 (0, 0)) := (ug_old _ _ (by omega)).trans ((hb6.block _ (by simp; omega)).trans ((ug_old _ _ (by omega)).trans p4))
  have i6 : (w6.alloc (.cells #[.int .i64 N, .int .i64 D] 29)).heap[w4.heap.size]? = some (.cells #[.slice A4 R.length c4] 44 (0, 0)) := (ug_old _ _ (by omega)).trans ((hb6.block _ (by simp)).trans (ug_new _ _ rfl))
  have b6 : Below w.heap.size w (w6.alloc (.cells #[.int .i64 N, .int .i64 D] 29)) := ((b4.alloc (by omega) _).trans (hb6.mono (by simp; omega))).alloc (by omega) _
  have S6 := (S5.later hb6).later X6
  have kp6 := ug_cell p6
  have r3 : w3.heap.size < w6.heap.size := by omega
  have HQ := hide (show (w6.alloc (.cells #[.int .i64 N, .int .i64 D] 29)).heap.size = w6.heap.size + 1 by simp)
  clear hv o4 p4 b4 hb6 S5 X6
  go_wp2_with fail
  (with_reducible refine (eqFrac_any N D N D _).mono ?_)
  rintro e w7 ⟨rfl, hb7⟩
  have z7 := hb7.size
  rw [HQ.out] at z7
  have z8 : w6.heap.size + 1 ≤ w7.drew.heap.size := z7
  have o7 : w7.drew.heap[w.heap.size]? = some (.cells #[.slice A R.length ca] 39 (0, 0)) := (hb7.block _ (by rw [HQ.out]; omega)).trans o6
  have i7 : w7.drew.heap[w4.heap.size]? = some (.cells #[.slice A4 R.length c4] 44 (0, 0)) := (hb7.block _ (by rw [HQ.out]; omega)).trans i6
  have b7 : Below w.heap.size w w7.drew := (b6.trans (hb7.mono (by rw [HQ.out]; omega))).drew
  have S7 : RowsAt w7.drew (.slice A4 R.length c4) R := (S6.later hb7).later (Below.refl _ _).drew
  have k7 := ug_cell o7
  have l7 := ug_cell i7
  have he := eqB_self N D
  clear o6 p6 i6 b6 S6 kp6 hb7
  go_wp2_with fail
  go_region_with (first
    | (go_at_call 19; ((with_reducible refine (HTO.out _ b7 q3 KL.out).mono ?_); rintro e wT ⟨vT, rfl, hST, hbT⟩; obtain ⟨AT, cT, eT⟩ := hST.shape; subst eT; have zT := hbT.size; have iT := (hbT.block w4.heap.size (by omega)).trans i7; have kT := ug_cell iT; have bT := b7.trans (hbT.mono (by omega)); have hv := eqSystem_any _ _ R q3 KL.out _ (S7.later hbT) hST; clear hbT))
    | (go_at_call 21; (with_reducible refine hv.mono ?_); rintro e wU ⟨rfl, hbU⟩))
  all_goals (go_wp2; go_ret; exact ⟨rfl, bT.trans (hbU.mono (by omega))⟩)
end Go.Proofs.Ythojgmhionekbaa
