/-
  CONTRACTS of ReadDecimal (packages impl and spec): the number of a decimal text. And the walk of its law. Conditions: none.
-/
import Derived.Test.YtickgkfgmbaalaaDoorDec
import Derived.Test.YtickgkfgmbaalaaDoorName
import Derived.Shelf.Small.Wraps
import Derived.Lib.Agree
namespace Go.Proofs.YtickgkfgmbaalaaDoor
open Go.RowKit Go.Shelf
set_option linter.unusedVariables false

def cutRen : Go.Shelf.Ren := ⟨fun | 103 => 75 | 210 => 88 | 206 => 96 | n => n, fun | 9 => 9 | 4 => 4 | 24 => 112 | 3 => 3 | n => n, fun n => n⟩
theorem cutLays : Lays.n103 Tryd.prog cutRen := {
  mixed := by kernel_rfl
  f103 := Tryd.func75.trans (congrArg some (by kernel_rfl))
  f206 := Tryd.func96.trans (congrArg some (by kernel_rfl))
  f210 := Tryd.func88.trans (congrArg some (by kernel_rfl))
  t3 := Tryd.underlying3
  a3 := Tryd.isAgg3
  z3 := Tryd.sizeOf3
  v3 := Tryd.zeroValue3
  t4 := Tryd.underlying4
  a4 := Tryd.isAgg4
  z4 := Tryd.sizeOf4
  v4 := Tryd.zeroValue4
  t9 := Tryd.underlying9
  a9 := Tryd.isAgg9
  z9 := Tryd.sizeOf9
  v9 := Tryd.zeroValue9
  t24 := Tryd.underlying112
  a24 := Tryd.isAgg112
  z24 := Tryd.sizeOf112
  v24 := Tryd.zeroValue112 }
theorem bareL_ne {x : UInt8} {r : List UInt8} (h : x ≠ 45) : bareL (x :: r) = x :: r := by
  unfold bareL
  split
  · rename_i h2; exact absurd (List.cons.inj h2).1 h
  · rfl
theorem negL_ne {x : UInt8} {r : List UInt8} (h : x ≠ 45) : negL (x :: r) = false := by
  unfold negL
  split
  · rename_i h2; exact absurd (List.cons.inj h2).1 h
  · rfl
theorem trim_bare (l : List UInt8) : Lib.trimPrefix l [45] = bareL l := by
  cases l with
  | nil => rfl
  | cons x r =>
    by_cases h : x = 45
    · subst h; rfl
    · rw [bareL_ne h]
      have : Lib.hasPrefix (x :: r) [45] = false := by
        have e : (45 == x) = false := by simp [Ne.symm h]
        show ([45] : List UInt8).isPrefixOf (x :: r) = false
        simp only [List.isPrefixOf, e, Bool.false_and]
      unfold Lib.trimPrefix
      rw [this]; rfl
theorem has_neg (l : List UInt8) : Lib.hasPrefix l [45] = negL l := by
  cases l with
  | nil => rfl
  | cons x r =>
    by_cases h : x = 45
    · subst h; rfl
    · rw [negL_ne h]
      have e : (45 == x) = false := by simp [Ne.symm h]
      show ([45] : List UInt8).isPrefixOf (x :: r) = false
      simp only [List.isPrefixOf, e, Bool.false_and]
theorem cutMinus (s : ByteArray) (w : World) : Calls Tryd.prog 75 #[.string s, .string ⟨#[45]⟩] w fun e w' => e = .returned (.tuple #[.string ⟨(bareL s.data.toList).toArray⟩, .bool (negL s.data.toList)]) ∧ w = w' := by
  refine (Any.strings_CutPrefix cutLays s ⟨#[45]⟩ w).mono ?_
  rintro e w' ⟨rfl, rfl⟩
  refine ⟨?_, rfl⟩
  rw [← trim_bare, ← has_neg]

theorem ba_beq {a s : ByteArray} (h : a = s) : (a.toList == s.toList) = true := by rw [h]; exact beq_self_eq_true _
theorem ba_bne {a s : ByteArray} (h : a = s) : (a.toList != s.toList) = false := by rw [bne, ba_beq h]; rfl
theorem ba_nbeq {a s : ByteArray} (h : ¬ a = s) : (a.toList == s.toList) = false := by
  refine (beq_eq_false_iff_ne).mpr fun x => h ?_
  rw [ByteArray.toList_eq, ByteArray.toList_eq] at x
  obtain ⟨⟨d⟩⟩ := a
  obtain ⟨⟨e⟩⟩ := s
  have : d = e := x
  rw [this]
theorem ba_nbne {a s : ByteArray} (h : ¬ a = s) : (a.toList != s.toList) = true := by rw [bne, ba_nbeq h]; rfl
/-- the digits, the sign, the value of the first digits -/
def rs (s : ByteArray) : ByteArray := ⟨(bareL s.data.toList).toArray⟩
def ng (s : ByteArray) : Bool := negL s.data.toList
def vN (r : ByteArray) : Nat → Int
  | 0 => 0
  | k + 1 => vN r k * 10 + (byteAt r k - 48)
def dgs (r : ByteArray) (k : Nat) : Bool := allN (fun j => dgI (byteAt r j)) k
theorem vN_bd (r : ByteArray) : ∀ k, dgs r k = true → 0 ≤ vN r k ∧ vN r k < ((10 ^ k : Nat) : Int)
  | 0, _ => by simp [vN]
  | k + 1, h => by
    unfold dgs at h
    simp only [allN, Bool.and_eq_true] at h
    obtain ⟨h0, h1⟩ := vN_bd r k h.1
    have h2 : 48 ≤ byteAt r k ∧ byteAt r k ≤ 57 := of_decide_eq_true h.2
    rw [vN, Nat.pow_succ]
    omega
theorem vN_17 (r : ByteArray) (k : Nat) (hk : k ≤ 17) (h : dgs r k = true) : 0 ≤ vN r k ∧ vN r k ≤ 100000000000000000 := by
  obtain ⟨h0, h1⟩ := vN_bd r k h
  have : 10 ^ k ≤ 10 ^ 17 := Nat.pow_le_pow_right (by decide) hk
  omega
theorem vN_18 (r : ByteArray) (k : Nat) (hk : k ≤ 18) (h : dgs r k = true) : 0 ≤ vN r k ∧ vN r k ≤ 1000000000000000000 := by
  obtain ⟨h0, h1⟩ := vN_bd r k h
  have : 10 ^ k ≤ 10 ^ 18 := Nat.pow_le_pow_right (by decide) hk
  omega
def rdAll (s : ByteArray) : Bool := decide (1 ≤ (rs s).size) && decide ((rs s).size ≤ 18) && dgs (rs s) (rs s).size
def rdV (s : ByteArray) : Int := if ng s then -(vN (rs s) (rs s).size) else vN (rs s) (rs s).size
def rdOk (s : ByteArray) : Bool := rdAll s && decide (decB (rdV s) = s)
def rdN (s : ByteArray) : Int := if rdOk s then rdV s else 0
def rdT (s : ByteArray) : Value := .tuple #[.int .i64 (rdN s), .bool (rdOk s)]
theorem rdT_f {s : ByteArray} (h : rdOk s = false) : rdT s = .tuple #[.int .i64 0, .bool false] := by unfold rdT rdN; rw [h]; rfl
theorem rdT_t {s : ByteArray} (h : rdOk s = true) : rdT s = .tuple #[.int .i64 (rdV s), .bool true] := by unfold rdT rdN; rw [h]; rfl

set_option maxHeartbeats 2000000 in
theorem readDecimal_i (s : ByteArray) (w : World) : Calls Tryd.prog 52 #[.string s] w fun e w' => e = .returned (rdT s) ∧ Below w.heap.size w w' := by
  have HC := fun w => cutMinus s w
  change ∀ w, Calls Tryd.prog 75 #[.string s, .string ⟨#[45]⟩] w fun e w' => e = .returned (.tuple #[.string (rs s), .bool (ng s)]) ∧ w = w' at HC
  by_cases h1 : (rs s).size < 1
  · have HR := hide (rdT_f (s := s) (by unfold rdOk rdAll; rw [decide_eq_false (by omega)]; rfl))
    go_enter Tryd.func52, Tryd.ntmps52
    go_wp2_with (go_at_call 75; (with_reducible refine (HC _).mono ?_); rintro e w1 ⟨rfl, rfl⟩)
    refine bodyPost_ret (v := rdT s) ?_ rfl ⟨rfl, (by repeat (first | exact Below.refl _ _ | assumption | (refine bl_alloc ?_ (Nat.le_refl _) _) | (refine bl_set ?_ (by simp <;> omega) _)))⟩
    rw [HR.out]; simp [results, Tryd.results52, go_sem, *]
  by_cases h2 : 18 < (rs s).size
  · have HR := hide (rdT_f (s := s) (by unfold rdOk rdAll; rw [decide_eq_false (p := _ ≤ 18) (by omega)]; simp))
    go_enter Tryd.func52, Tryd.ntmps52
    go_wp2_with (go_at_call 75; (with_reducible refine (HC _).mono ?_); rintro e w1 ⟨rfl, rfl⟩)
    refine bodyPost_ret (v := rdT s) ?_ rfl ⟨rfl, (by repeat (first | exact Below.refl _ _ | assumption | (refine bl_alloc ?_ (Nat.le_refl _) _) | (refine bl_set ?_ (by simp <;> omega) _)))⟩
    rw [HR.out]; simp [results, Tryd.results52, go_sem, *]
  have HX := hide (show rdOk s = (dgs (rs s) (rs s).size && decide (decB (rdV s) = s)) by unfold rdOk rdAll; rw [decide_eq_true (by omega), decide_eq_true (by omega)]; rfl)
  have HV := hide (show rdV s = if ng s then -(vN (rs s) (rs s).size) else vN (rs s) (rs s).size from rfl)
  generalize hr : rs s = r at *
  clear hr
  go_enter Tryd.func52, Tryd.ntmps52
  go_wp2_with (go_at_call 75; (with_reducible refine (HC _).mono ?_); rintro e w1 ⟨rfl, rfl⟩)
  go_loop [6, 7] (fun n i => ∃ k : Nat, k ≤ r.size ∧ i = .int .i64 k ∧ n = .int .i64 (vN r k) ∧ Hid (dgs r k = true)) (fun n i => r.size - (intOf i).toNat)
  case atStart => exact ⟨0, by omega, rfl, rfl, rfl⟩
  case round =>
    obtain ⟨k, hk, rfl, rfl, ho⟩ := hrel
    by_cases hkn : k < r.size
    · have e1 := byteAt_eq r k hkn
      cases p1 : dgI (byteAt r k)
      · have hf : dgs r r.size = false := allN_f (p := fun j => dgI (byteAt r j)) p1 r.size hkn
        have HR := hide (rdT_f (s := s) (by rw [HX.out, hf]; rfl))
        have q1 : dgI ((r[k]).toNat : Int) = false := by rw [e1]; exact p1
        clear e1 p1 hf
        go_wp2_with (go_at_call 76; (with_reducible refine (isDigit_i _ _).mono ?_); rintro e w1 ⟨rfl, rfl⟩)
        refine bodyPost_ret (v := rdT s) ?_ rfl ⟨rfl, (by repeat (first | exact Below.refl _ _ | assumption | (refine bl_alloc ?_ (Nat.le_refl _) _) | (refine bl_set ?_ (by simp <;> omega) _)))⟩
        rw [HR.out]; simp [results, Tryd.results52, go_sem, *]
      · have HE := hide (show dgs r (k + 1) = true by unfold dgs at *; rw [allN, ho.out]; exact p1)
        obtain ⟨v0, v1⟩ := vN_17 r k (by omega) ho.out
        have q1 : dgI ((r[k]).toNat : Int) = true := by rw [e1]; exact p1
        have q2 : 48 ≤ ((r[k]).toNat : Int) ∧ ((r[k]).toNat : Int) ≤ 57 := of_decide_eq_true q1
        obtain ⟨q3, q4⟩ := q2
        have HV2 := hide (show vN r (k + 1) = vN r k * 10 + (((r[k]).toNat : Int) - 48) by rw [e1]; rfl)
        clear e1 p1
        go_wp2_with (go_at_call 76; (with_reducible refine (isDigit_i _ _).mono ?_); rintro e w1 ⟨rfl, rfl⟩)
        go_round
        case rel => exact ⟨k + 1, by omega, by go_num, by rw [HV2.out]; try go_num, HE⟩
        case measure => simp [intOf]; omega
    · obtain rfl : r.size = k := by omega
      obtain ⟨v0, v1⟩ := vN_18 r r.size (by omega) ho.out
      have HX2 := hide (show rdOk s = decide (decB (rdV s) = s) by rw [HX.out, ho.out]; rfl)
      cases hn : ng s
      · have HV2 := hide (show rdV s = vN r r.size by rw [HV.out, hn]; rfl)
        by_cases hd : decB (vN r r.size) = s
        · have HR := hide (show rdT s = .tuple #[.int .i64 (vN r r.size), .bool true] by rw [rdT_t (by rw [HX2.out, HV2.out]; exact decide_eq_true hd), HV2.out])
          have q1 : ((decB (vN r r.size)).toList == s.toList) = true := ba_beq hd
          have q2 : ((decB (vN r r.size)).toList != s.toList) = false := ba_bne hd
          have hd2 := hide hd
          clear hd
          go_wp2_with (go_at_call 60; (with_reducible refine (decimal_i (vN r r.size) (by omega) (by omega) _).mono ?_); rintro e w1 ⟨rfl, hb1⟩; obtain ⟨hc1, hf1⟩ := bcell hb1; have hw1 : Below w.heap.size w w1 := bl_call (by repeat (first | exact Below.refl _ _ | assumption | (refine bl_alloc ?_ (Nat.le_refl _) _) | (refine bl_set ?_ (by simp <;> omega) _))) hb1; have hz1 : w.heap.size + 0 ≤ w1.heap.size := (by have hq := hb1.size; have hr := hw1.size; (try simp at hq); omega); have hz4 := hb1.size; (try simp at hz4); (try have hz5 := Nat.lt_of_succ_le hz4))
          refine bodyPost_ret (v := rdT s) ?_ rfl ⟨rfl, (by repeat (first | exact Below.refl _ _ | assumption | (refine bl_alloc ?_ (Nat.le_refl _) _) | (refine bl_set ?_ (by simp <;> omega) _)))⟩
          rw [HR.out]; simp [results, Tryd.results52, go_sem, *]
        · have HR := hide (rdT_f (s := s) (by rw [HX2.out, HV2.out]; exact decide_eq_false hd))
          have q1 : ((decB (vN r r.size)).toList == s.toList) = false := ba_nbeq hd
          have q2 : ((decB (vN r r.size)).toList != s.toList) = true := ba_nbne hd
          go_wp2_with (go_at_call 60; (with_reducible refine (decimal_i (vN r r.size) (by omega) (by omega) _).mono ?_); rintro e w1 ⟨rfl, hb1⟩; obtain ⟨hc1, hf1⟩ := bcell hb1; have hw1 : Below w.heap.size w w1 := bl_call (by repeat (first | exact Below.refl _ _ | assumption | (refine bl_alloc ?_ (Nat.le_refl _) _) | (refine bl_set ?_ (by simp <;> omega) _))) hb1; have hz1 : w.heap.size + 0 ≤ w1.heap.size := (by have hq := hb1.size; have hr := hw1.size; (try simp at hq); omega); have hz4 := hb1.size; (try simp at hz4); (try have hz5 := Nat.lt_of_succ_le hz4))
          refine bodyPost_ret (v := rdT s) ?_ rfl ⟨rfl, (by repeat (first | exact Below.refl _ _ | assumption | (refine bl_alloc ?_ (Nat.le_refl _) _) | (refine bl_set ?_ (by simp <;> omega) _)))⟩
          rw [HR.out]; simp [results, Tryd.results52, go_sem, *]
      · have HV2 := hide (show rdV s = -(vN r r.size) by rw [HV.out, hn]; rfl)
        by_cases hd : decB (-(vN r r.size)) = s
        · have HR := hide (show rdT s = .tuple #[.int .i64 (-(vN r r.size)), .bool true] by rw [rdT_t (by rw [HX2.out, HV2.out]; exact decide_eq_true hd), HV2.out])
          have q1 : ((decB (-(vN r r.size))).toList == s.toList) = true := ba_beq hd
          have q2 : ((decB (-(vN r r.size))).toList != s.toList) = false := ba_bne hd
          have hd2 := hide hd
          clear hd
          go_wp2_with (go_at_call 60; (with_reducible refine (decimal_i (-(vN r r.size)) (by omega) (by omega) _).mono ?_); rintro e w1 ⟨rfl, hb1⟩; obtain ⟨hc1, hf1⟩ := bcell hb1; have hw1 : Below w.heap.size w w1 := bl_call (by repeat (first | exact Below.refl _ _ | assumption | (refine bl_alloc ?_ (Nat.le_refl _) _) | (refine bl_set ?_ (by simp <;> omega) _))) hb1; have hz1 : w.heap.size + 0 ≤ w1.heap.size := (by have hq := hb1.size; have hr := hw1.size; (try simp at hq); omega); have hz4 := hb1.size; (try simp at hz4); (try have hz5 := Nat.lt_of_succ_le hz4))
          refine bodyPost_ret (v := rdT s) ?_ rfl ⟨rfl, (by repeat (first | exact Below.refl _ _ | assumption | (refine bl_alloc ?_ (Nat.le_refl _) _) | (refine bl_set ?_ (by simp <;> omega) _)))⟩
          rw [HR.out]; simp [results, Tryd.results52, go_sem, *]
        · have HR := hide (rdT_f (s := s) (by rw [HX2.out, HV2.out]; exact decide_eq_false hd))
          have q1 : ((decB (-(vN r r.size))).toList == s.toList) = false := ba_nbeq hd
          have q2 : ((decB (-(vN r r.size))).toList != s.toList) = true := ba_nbne hd
          go_wp2_with (go_at_call 60; (with_reducible refine (decimal_i (-(vN r r.size)) (by omega) (by omega) _).mono ?_); rintro e w1 ⟨rfl, hb1⟩; obtain ⟨hc1, hf1⟩ := bcell hb1; have hw1 : Below w.heap.size w w1 := bl_call (by repeat (first | exact Below.refl _ _ | assumption | (refine bl_alloc ?_ (Nat.le_refl _) _) | (refine bl_set ?_ (by simp <;> omega) _))) hb1; have hz1 : w.heap.size + 0 ≤ w1.heap.size := (by have hq := hb1.size; have hr := hw1.size; (try simp at hq); omega); have hz4 := hb1.size; (try simp at hz4); (try have hz5 := Nat.lt_of_succ_le hz4))
          refine bodyPost_ret (v := rdT s) ?_ rfl ⟨rfl, (by repeat (first | exact Below.refl _ _ | assumption | (refine bl_alloc ?_ (Nat.le_refl _) _) | (refine bl_set ?_ (by simp <;> omega) _)))⟩
          rw [HR.out]; simp [results, Tryd.results52, go_sem, *]
theorem rs_neg {s : ByteArray} (h : ng s = true) : s.extract 1 s.size = rs s ∧ 1 ≤ s.size ∧ (rs s).size = s.size - 1 := by
  obtain ⟨⟨l⟩⟩ := s
  cases l with
  | nil => simp [ng, negL] at h
  | cons x r =>
    by_cases hx : x = 45
    · subst hx
      refine ⟨?_, by simp [ByteArray.size], by simp [rs, bareL, ByteArray.size]⟩
      simp [rs, bareL, ByteArray.extract_mk, ByteArray.size]
    · have : ng ⟨⟨x :: r⟩⟩ = false := negL_ne hx
      rw [this] at h; cases h
theorem rs_pos {s : ByteArray} (h : ng s = false) : rs s = s := by
  obtain ⟨⟨l⟩⟩ := s
  cases l with
  | nil => rfl
  | cons x r =>
    by_cases hx : x = 45
    · subst hx
      have : ng ⟨⟨45 :: r⟩⟩ = true := rfl
      rw [this] at h; cases h
    · unfold rs; rw [bareL_ne hx]
theorem full_ne {s : ByteArray} (h : 1 ≤ s.size) : ¬ s.toList = [] := by
  rw [ByteArray.toList_eq]
  intro h2
  have h3 : s.data.toList.length = 0 := by rw [h2]; rfl
  have h4 : s.data.toList.length = s.size := by rw [Array.length_toList]; rfl
  rw [h3] at h4
  omega
theorem full_isE {s : ByteArray} (h : 1 ≤ s.size) : s.toList.isEmpty = false := by
  cases hl : s.toList with
  | nil => exact absurd hl (full_ne h)
  | cons x r => rfl
end Go.Proofs.YtickgkfgmbaalaaDoor
