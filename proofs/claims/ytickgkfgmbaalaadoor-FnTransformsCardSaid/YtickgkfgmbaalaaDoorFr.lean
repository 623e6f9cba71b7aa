/-
  CONTRACTS of the functions that make and check fractions (impl and spec: gcd64, absU, ValidFrac, MakeFrac and their twins, toFrac, eqFrac): what each returns; no cell that was there is written. Conditions: integers of 64 bits.
-/
import Derived.Test.YtickgkfgmbaalaaDoorPt
import Derived.Test.YtickgkfgmbaalaaDoorGcd
namespace Go.Proofs.YtickgkfgmbaalaaDoor
open Go.RowKit Go.Sort
set_option linter.unusedVariables false
attribute [local go_sem] cell_grow frozen_grow

theorem u64w (n : Int) : IntKind.u64.wrap n = n % 18446744073709551616 := by
  simp [IntKind.wrap, IntKind.bits, IntKind.signed]
theorem abs_neg {n : Int} (h : n < 0) (h0 : -9223372036854775808 ≤ n) : IntKind.u64.wrap (-(IntKind.u64.wrap n)) = (n.natAbs : Int) := by
  rw [u64w, u64w]; omega
theorem abs_pos {n : Int} (h : ¬ n < 0) (h0 : n ≤ 9223372036854775807) : IntKind.u64.wrap n = (n.natAbs : Int) := by
  rw [u64w]; omega
theorem gcd_step (x y : Nat) (h : y ≠ 0) : Nat.gcd y (x % y) = Nat.gcd x y := by
  rw [Nat.gcd_comm x y, Nat.gcd_rec y x, Nat.gcd_comm]

set_option maxHeartbeats 400000 in
theorem absU_i (n : Int) (h0 : -9223372036854775808 ≤ n) (h1 : n ≤ 9223372036854775807) (w : World) : Calls Tryd.prog 78 #[.int .i64 n] w fun e w' => e = .returned (.int .u64 (n.natAbs : Int)) ∧ w = w' := by
  by_cases h : n < 0
  · have HA := hide (abs_neg h h0)
    go_enter Tryd.func78, Tryd.ntmps78
    go_wp2
    go_ret
    exact ⟨ret_int HA.out, rfl⟩
  · go_enter Tryd.func78, Tryd.ntmps78
    go_wp2
    go_ret
    exact ⟨ret_int (by omega), rfl⟩
set_option maxHeartbeats 400000 in
theorem gcd64_i (x' y' : Int) (hx0 : 0 ≤ x') (hx' : x' ≤ 9223372036854775808) (hy0 : 0 ≤ y') (hy' : y' ≤ 9223372036854775808) (w : World) : Calls Tryd.prog 77 #[.int .u64 x', .int .u64 y'] w fun e w' => e = .returned (.int .u64 (Nat.gcd x'.natAbs y'.natAbs : Nat)) ∧ Below w.heap.size w w' := by
  obtain ⟨x, rfl⟩ := Int.eq_ofNat_of_zero_le hx0
  obtain ⟨y, rfl⟩ := Int.eq_ofNat_of_zero_le hy0
  rw [Int.natAbs_natCast, Int.natAbs_natCast]
  have hx : x ≤ 9223372036854775808 := by omega
  have hy : y ≤ 9223372036854775808 := by omega
  clear hx0 hx' hy0 hy'
  go_enter Tryd.func77, Tryd.ntmps77
  go_wp2
  go_loopw [0, 1] (fun u v wr => ∃ a b : Nat, u = .int .u64 a ∧ v = .int .u64 b ∧ a ≤ 9223372036854775808 ∧ b ≤ 9223372036854775808 ∧ Below w.heap.size w wr ∧ Hid (Nat.gcd a b = Nat.gcd x y)) (fun _ v _ => (intOf v).toNat)
  case atStart => exact ⟨x, y, rfl, rfl, hx, hy, Below.refl _ _, rfl⟩
  case round =>
    obtain ⟨a, b, rfl, rfl, ha, hb, hw, hg⟩ := hrel
    by_cases h : b = 0
    · subst h
      go_wp2
      go_ret
      exact ⟨by rw [← hg.out]; simp, hw⟩
    · have q1 : ((b : Int) == 0) = false := by simp; omega
      have q2 : ((b : Int) != 0) = true := by simp; omega
      have hm : a % b < b := Nat.mod_lt _ (by omega)
      have HG := hide ((gcd_step a b h).trans hg.out)
      have q3 : (1 : Int) ≤ b := by omega
      go_wp2
      refine wp_region_quiet_below (by kernel_rfl) (by kernel_rfl) ?_
      repeat (first | go_big_quiet_step ((fail)) | quiet_step ((fail)))
      refine wpQuiet_nil ?_
      intro w1 hw1
      obtain ⟨pq, hpq⟩ := hw1
      have hb1 := below_of hpq
      clear hpq pq
      have hz4 := hb1.size
      (try simp at hz4)
      obtain ⟨hc1, hf1⟩ := bcell hb1
      have hw1 : Below w.heap.size w w1 := bl_call (by repeat (first | exact Below.refl _ _ | assumption | (refine bl_alloc ?_ (Nat.le_refl _) _) | (refine bl_set ?_ (by simp <;> omega) _))) hb1
      have hz1 : w.heap.size + 0 ≤ w1.heap.size := (by have hq := hb1.size; have hr := hw1.size; (try simp at hq); omega)
      go_wp2
      go_roundw
      case rel => exact ⟨b, a % b, rfl, rfl, by omega, by omega, by assumption, HG⟩
      case measure =>
        simp only [intOf]; omega
set_option maxHeartbeats 400000 in
theorem l02Size_any (n : Int) (h0 : -9223372036854775808 ≤ n) (h1 : n ≤ 9223372036854775807) (w : World) : Calls Tryd.prog 69 #[.int .i64 n] w fun e w' => e = .returned (.int .u64 (n.natAbs : Int)) ∧ w = w' := by
  by_cases h : n < 0
  · go_enter Tryd.func69, Tryd.ntmps69
    go_wp2
    go_ret
    exact ⟨ret_int (by omega), rfl⟩
  · go_enter Tryd.func69, Tryd.ntmps69
    go_wp2
    go_ret
    exact ⟨ret_int (by omega), rfl⟩
set_option maxHeartbeats 400000 in
theorem gcd64_s (x' y' : Int) (hx0 : 0 ≤ x') (hx' : x' ≤ 9223372036854775808) (hy0 : 0 ≤ y') (hy' : y' ≤ 9223372036854775808) (w : World) : Calls Tryd.prog 68 #[.int .u64 x', .int .u64 y'] w fun e w' => e = .returned (.int .u64 (Nat.gcd x'.natAbs y'.natAbs : Nat)) ∧ Below w.heap.size w w' := by
  obtain ⟨x, rfl⟩ := Int.eq_ofNat_of_zero_le hx0
  obtain ⟨y, rfl⟩ := Int.eq_ofNat_of_zero_le hy0
  rw [Int.natAbs_natCast, Int.natAbs_natCast]
  have hx : x ≤ 9223372036854775808 := by omega
  have hy : y ≤ 9223372036854775808 := by omega
  clear hx0 hx' hy0 hy'
  go_enter Tryd.func68, Tryd.ntmps68
  go_wp2
  go_loop [0, 1] (fun u v => ∃ a b : Nat, u = .int .u64 a ∧ v = .int .u64 b ∧ a ≤ 9223372036854775808 ∧ b ≤ 9223372036854775808 ∧ Hid (Nat.gcd a b = Nat.gcd x y)) (fun _ v => (intOf v).toNat)
  case atStart => exact ⟨x, y, rfl, rfl, hx, hy, rfl⟩
  case round =>
    obtain ⟨a, b, rfl, rfl, ha, hb, hg⟩ := hrel
    by_cases h : b = 0
    · subst h
      go_wp2
      go_ret
      exact ⟨by rw [← hg.out]; simp, Below.refl _ _⟩
    · have hm : a % b < b := Nat.mod_lt _ (by omega)
      have HG := hide ((gcd_step a b h).trans hg.out)
      have q3 : (1 : Int) ≤ b := by omega
      go_wp2
      go_round
      case rel => exact ⟨b, a % b, rfl, by go_num, by omega, by omega, HG⟩
      case measure => simp [intOf]; omega
set_option maxHeartbeats 1000000 in
theorem validFrac_i (n d : Int) (h0 : -9223372036854775808 ≤ n) (h1 : n ≤ 9223372036854775807) (w : World) : Calls Tryd.prog 57 #[.agg #[.int .i64 n, .int .i64 d]] w fun e w' => e = .returned (.bool (okFr n d)) ∧ Below w.heap.size w w' := by
  by_cases c1 : 1 ≤ d
  · by_cases c2 : d ≤ 1000000
    · by_cases c3 : -1000000000 ≤ n
      · by_cases c4 : n ≤ 1000000000
        · have q1 : decide (1 ≤ d) = true := by simp; omega
          have q2 : decide (d ≤ 1000000) = true := by simp; omega
          have q3 : decide (-1000000000 ≤ n) = true := by simp; omega
          have q4 : decide (n ≤ 1000000000) = true := by simp; omega
          have HR := hide (show (((Nat.gcd n.natAbs d.natAbs : Nat) : Int) == 1) = okFr n d by unfold okFr; rw [Bool.eq_iff_iff]; simp; try omega)
          have hd0 : IntKind.u64.wrap d = d := by rw [u64w]; omega
          go_enter Tryd.func57, Tryd.ntmps57
          go_wp2
          refine wp_region_quiet_below (by kernel_rfl) (by kernel_rfl) ?_
          repeat (first | go_big_quiet_step ((first | (go_at_call 78; with_reducible exact Calls.regrown_of (same_below (absU_i _ h0 h1 _))) | (go_at_call 77; with_reducible exact Calls.regrown_of (gcd64_i (n.natAbs : Int) d (by omega) (by omega) (by omega) (by omega) _)))) | quiet_step ((first | (go_at_call 78; with_reducible exact Calls.regrown_of (same_below (absU_i _ h0 h1 _))) | (go_at_call 77; with_reducible exact Calls.regrown_of (gcd64_i (n.natAbs : Int) d (by omega) (by omega) (by omega) (by omega) _)))))
          refine wpQuiet_nil ?_
          intro w1 hw1
          obtain ⟨pq, hpq⟩ := hw1
          have hb1 := below_of hpq
          clear hpq pq
          have hz4 := hb1.size
          (try simp at hz4)
          obtain ⟨hc1, hf1⟩ := bcell hb1
          have hw1 : Below w.heap.size w w1 := bl_call (by repeat (first | exact Below.refl _ _ | assumption | (refine bl_alloc ?_ (Nat.le_refl _) _) | (refine bl_set ?_ (by simp <;> omega) _))) hb1
          have hz1 : w.heap.size + 1 ≤ w1.heap.size := (by have hq := hb1.size; have hr := hw1.size; (try simp at hq); omega)
          have hza : w.heap.size < w1.heap.size := (by omega)
          go_wp2
          go_ret
          exact ⟨ret_bool HR.out, (by repeat (first | exact Below.refl _ _ | assumption | (refine bl_alloc ?_ (Nat.le_refl _) _) | (refine bl_set ?_ (by simp <;> omega) _)))⟩
        · have HR := hide (show okFr n d = false from decide_eq_false (fun h => by omega))
          have q1 : decide (1 ≤ d) = true := by simp; omega
          have q2 : decide (d ≤ 1000000) = true := by simp; omega
          have q3 : decide (-1000000000 ≤ n) = true := by simp; omega
          have q4 : decide (n ≤ 1000000000) = false := by simp; omega
          go_enter Tryd.func57, Tryd.ntmps57
          go_wp2
          refine wp_region_quiet_below (by kernel_rfl) (by kernel_rfl) ?_
          repeat (first | go_big_quiet_step ((fail)) | quiet_step ((fail)))
          refine wpQuiet_nil ?_
          intro w1 hw1
          obtain ⟨pq, hpq⟩ := hw1
          have hb1 := below_of hpq
          clear hpq pq
          have hz4 := hb1.size
          (try simp at hz4)
          obtain ⟨hc1, hf1⟩ := bcell hb1
          have hw1 : Below w.heap.size w w1 := bl_call (by repeat (first | exact Below.refl _ _ | assumption | (refine bl_alloc ?_ (Nat.le_refl _) _) | (refine bl_set ?_ (by simp <;> omega) _))) hb1
          have hz1 : w.heap.size + 1 ≤ w1.heap.size := (by have hq := hb1.size; have hr := hw1.size; (try simp at hq); omega)
          have hza : w.heap.size < w1.heap.size := (by omega)
          go_wp2
          go_ret
          exact ⟨ret_bool HR.out.symm, (by repeat (first | exact Below.refl _ _ | assumption | (refine bl_alloc ?_ (Nat.le_refl _) _) | (refine bl_set ?_ (by simp <;> omega) _)))⟩
      · have HR := hide (show okFr n d = false from decide_eq_false (fun h => by omega))
        have q1 : decide (1 ≤ d) = true := by simp; omega
        have q2 : decide (d ≤ 1000000) = true := by simp; omega
        have q3 : decide (-1000000000 ≤ n) = false := by simp; omega
        go_enter Tryd.func57, Tryd.ntmps57
        go_wp2
        refine wp_region_quiet_below (by kernel_rfl) (by kernel_rfl) ?_
        repeat (first | go_big_quiet_step ((fail)) | quiet_step ((fail)))
        refine wpQuiet_nil ?_
        intro w1 hw1
        obtain ⟨pq, hpq⟩ := hw1
        have hb1 := below_of hpq
        clear hpq pq
        have hz4 := hb1.size
        (try simp at hz4)
        obtain ⟨hc1, hf1⟩ := bcell hb1
        have hw1 : Below w.heap.size w w1 := bl_call (by repeat (first | exact Below.refl _ _ | assumption | (refine bl_alloc ?_ (Nat.le_refl _) _) | (refine bl_set ?_ (by simp <;> omega) _))) hb1
        have hz1 : w.heap.size + 1 ≤ w1.heap.size := (by have hq := hb1.size; have hr := hw1.size; (try simp at hq); omega)
        have hza : w.heap.size < w1.heap.size := (by omega)
        go_wp2
        go_ret
        exact ⟨ret_bool HR.out.symm, (by repeat (first | exact Below.refl _ _ | assumption | (refine bl_alloc ?_ (Nat.le_refl _) _) | (refine bl_set ?_ (by simp <;> omega) _)))⟩
    · have HR := hide (show okFr n d = false from decide_eq_false (fun h => by omega))
      have q1 : decide (1 ≤ d) = true := by simp; omega
      have q2 : decide (d ≤ 1000000) = false := by simp; omega
      go_enter Tryd.func57, Tryd.ntmps57
      go_wp2
      refine wp_region_quiet_below (by kernel_rfl) (by kernel_rfl) ?_
      repeat (first | go_big_quiet_step ((fail)) | quiet_step ((fail)))
      refine wpQuiet_nil ?_
      intro w1 hw1
      obtain ⟨pq, hpq⟩ := hw1
      have hb1 := below_of hpq
      clear hpq pq
      have hz4 := hb1.size
      (try simp at hz4)
      obtain ⟨hc1, hf1⟩ := bcell hb1
      have hw1 : Below w.heap.size w w1 := bl_call (by repeat (first | exact Below.refl _ _ | assumption | (refine bl_alloc ?_ (Nat.le_refl _) _) | (refine bl_set ?_ (by simp <;> omega) _))) hb1
      have hz1 : w.heap.size + 1 ≤ w1.heap.size := (by have hq := hb1.size; have hr := hw1.size; (try simp at hq); omega)
      have hza : w.heap.size < w1.heap.size := (by omega)
      go_wp2
      go_ret
      exact ⟨ret_bool HR.out.symm, (by repeat (first | exact Below.refl _ _ | assumption | (refine bl_alloc ?_ (Nat.le_refl _) _) | (refine bl_set ?_ (by simp <;> omega) _)))⟩
  · have HR := hide (show okFr n d = false from decide_eq_false (fun h => by omega))
    have q1 : decide (1 ≤ d) = false := by simp; omega
    go_enter Tryd.func57, Tryd.ntmps57
    go_wp2
    refine wp_region_quiet_below (by kernel_rfl) (by kernel_rfl) ?_
    repeat (first | go_big_quiet_step ((fail)) | quiet_step ((fail)))
    refine wpQuiet_nil ?_
    intro w1 hw1
    obtain ⟨pq, hpq⟩ := hw1
    have hb1 := below_of hpq
    clear hpq pq
    have hz4 := hb1.size
    (try simp at hz4)
    obtain ⟨hc1, hf1⟩ := bcell hb1
    have hw1 : Below w.heap.size w w1 := bl_call (by repeat (first | exact Below.refl _ _ | assumption | (refine bl_alloc ?_ (Nat.le_refl _) _) | (refine bl_set ?_ (by simp <;> omega) _))) hb1
    have hz1 : w.heap.size + 1 ≤ w1.heap.size := (by have hq := hb1.size; have hr := hw1.size; (try simp at hq); omega)
    have hza : w.heap.size < w1.heap.size := (by omega)
    go_wp2
    go_ret
    exact ⟨ret_bool HR.out.symm, (by repeat (first | exact Below.refl _ _ | assumption | (refine bl_alloc ?_ (Nat.le_refl _) _) | (refine bl_set ?_ (by simp <;> omega) _)))⟩
set_option maxHeartbeats 1000000 in
theorem l02Ok_any (n d : Int) (h0 : -9223372036854775808 ≤ n) (h1 : n ≤ 9223372036854775807) (w : World) : Calls Tryd.prog 46 #[.agg #[.int .i64 n, .int .i64 d]] w fun e w' => e = .returned (.bool (okFr n d)) ∧ Below w.heap.size w w' := by
  cases c1 : inB d 1 1000000
  · have HR := hide (show okFr n d = false from decide_eq_false (fun h => inB_f c1 ⟨h.1, h.2.1⟩))
    go_enter Tryd.func46, Tryd.ntmps46
    go_wp2
    refine wp_region_quiet_below (by kernel_rfl) (by kernel_rfl) ?_
    repeat (first | go_big_quiet_step (((go_at_call 67; with_reducible exact Calls.regrown_of (same_below (l00In_any _ _ _ _))))) | quiet_step (((go_at_call 67; with_reducible exact Calls.regrown_of (same_below (l00In_any _ _ _ _))))))
    refine wpQuiet_nil ?_
    intro w1 hw1
    obtain ⟨pq, hpq⟩ := hw1
    have hb1 := below_of hpq
    clear hpq pq
    have hz4 := hb1.size
    (try simp at hz4)
    obtain ⟨hc1, hf1⟩ := bcell hb1
    have hw1 : Below w.heap.size w w1 := bl_call (by repeat (first | exact Below.refl _ _ | assumption | (refine bl_alloc ?_ (Nat.le_refl _) _) | (refine bl_set ?_ (by simp <;> omega) _))) hb1
    have hz1 : w.heap.size + 1 ≤ w1.heap.size := (by have hq := hb1.size; have hr := hw1.size; (try simp at hq); omega)
    have hza : w.heap.size < w1.heap.size := (by omega)
    go_wp2
    go_ret
    exact ⟨ret_bool HR.out.symm, (by repeat (first | exact Below.refl _ _ | assumption | (refine bl_alloc ?_ (Nat.le_refl _) _) | (refine bl_set ?_ (by simp <;> omega) _)))⟩
  · cases c2 : inB n (-1000000000) 1000000000
    · have HR := hide (show okFr n d = false from decide_eq_false (fun h => inB_f c2 ⟨h.2.2.1, h.2.2.2.1⟩))
      go_enter Tryd.func46, Tryd.ntmps46
      go_wp2
      refine wp_region_quiet_below (by kernel_rfl) (by kernel_rfl) ?_
      repeat (first | go_big_quiet_step (((go_at_call 67; with_reducible exact Calls.regrown_of (same_below (l00In_any _ _ _ _))))) | quiet_step (((go_at_call 67; with_reducible exact Calls.regrown_of (same_below (l00In_any _ _ _ _))))))
      refine wpQuiet_nil ?_
      intro w1 hw1
      obtain ⟨pq, hpq⟩ := hw1
      have hb1 := below_of hpq
      clear hpq pq
      have hz4 := hb1.size
      (try simp at hz4)
      obtain ⟨hc1, hf1⟩ := bcell hb1
      have hw1 : Below w.heap.size w w1 := bl_call (by repeat (first | exact Below.refl _ _ | assumption | (refine bl_alloc ?_ (Nat.le_refl _) _) | (refine bl_set ?_ (by simp <;> omega) _))) hb1
      have hz1 : w.heap.size + 1 ≤ w1.heap.size := (by have hq := hb1.size; have hr := hw1.size; (try simp at hq); omega)
      have hza : w.heap.size < w1.heap.size := (by omega)
      go_wp2
      go_ret
      exact ⟨ret_bool HR.out.symm, (by repeat (first | exact Below.refl _ _ | assumption | (refine bl_alloc ?_ (Nat.le_refl _) _) | (refine bl_set ?_ (by simp <;> omega) _)))⟩
    · have HR := hide (show (((Nat.gcd n.natAbs d.natAbs : Nat) : Int) == 1) = okFr n d by
        obtain ⟨b1, b2⟩ := inB_t c1
        obtain ⟨b3, b4⟩ := inB_t c2
        unfold okFr; rw [Bool.eq_iff_iff]; simp; try omega)
      have hd0 : IntKind.u64.wrap d = d := by
        obtain ⟨b1, b2⟩ := inB_t c1
        rw [u64w]; omega
      obtain ⟨b1, b2⟩ := inB_t c1
      go_enter Tryd.func46, Tryd.ntmps46
      go_wp2
      refine wp_region_quiet_below (by kernel_rfl) (by kernel_rfl) ?_
      repeat (first | go_big_quiet_step ((first | (go_at_call 67; with_reducible exact Calls.regrown_of (same_below (l00In_any _ _ _ _))) | (go_at_call 69; with_reducible exact Calls.regrown_of (same_below (l02Size_any _ h0 h1 _))) | (go_at_call 68; with_reducible exact Calls.regrown_of (gcd64_s (n.natAbs : Int) d (by omega) (by omega) (by omega) (by omega) _)))) | quiet_step ((first | (go_at_call 67; with_reducible exact Calls.regrown_of (same_below (l00In_any _ _ _ _))) | (go_at_call 69; with_reducible exact Calls.regrown_of (same_below (l02Size_any _ h0 h1 _))) | (go_at_call 68; with_reducible exact Calls.regrown_of (gcd64_s (n.natAbs : Int) d (by omega) (by omega) (by omega) (by omega) _)))))
      refine wpQuiet_nil ?_
      intro w1 hw1
      obtain ⟨pq, hpq⟩ := hw1
      have hb1 := below_of hpq
      clear hpq pq
      have hz4 := hb1.size
      (try simp at hz4)
      obtain ⟨hc1, hf1⟩ := bcell hb1
      have hw1 : Below w.heap.size w w1 := bl_call (by repeat (first | exact Below.refl _ _ | assumption | (refine bl_alloc ?_ (Nat.le_refl _) _) | (refine bl_set ?_ (by simp <;> omega) _))) hb1
      have hz1 : w.heap.size + 1 ≤ w1.heap.size := (by have hq := hb1.size; have hr := hw1.size; (try simp at hq); omega)
      have hza : w.heap.size < w1.heap.size := (by omega)
      go_wp2
      go_ret
      exact ⟨ret_bool HR.out, (by repeat (first | exact Below.refl _ _ | assumption | (refine bl_alloc ?_ (Nat.le_refl _) _) | (refine bl_set ?_ (by simp <;> omega) _)))⟩
/-- the same numbers -/
def eqB (a b c d : Int) : Bool := decide (a = c ∧ b = d)
theorem eqB_self (a b : Int) : eqB a b a b = true := decide_eq_true ⟨rfl, rfl⟩
set_option maxHeartbeats 400000 in
theorem eqFrac_any (a b c d : Int) (w : World) : Calls Tryd.prog 26 #[.agg #[.int .i64 a, .int .i64 b], .agg #[.int .i64 c, .int .i64 d]] w fun e w' => e = .returned (.bool (eqB a b c d)) ∧ Below w.heap.size w w' := by
  by_cases h1 : a = c
  · by_cases h2 : b = d
    · subst h1 h2
      go_enter Tryd.func26, Tryd.ntmps26
      go_wp2
      go_ret
      exact ⟨ret_bool (eqB_self a b).symm, (by repeat (first | exact Below.refl _ _ | assumption | (refine bl_alloc ?_ (Nat.le_refl _) _) | (refine bl_set ?_ (by simp <;> omega) _)))⟩
    · subst h1
      have q1 : (b == d) = false := by simp; omega
      have q2 : (b != d) = true := by simp; omega
      have HR := hide (show eqB a b a d = false from decide_eq_false (fun h => h2 h.2))
      go_enter Tryd.func26, Tryd.ntmps26
      go_wp2
      go_ret
      exact ⟨ret_bool HR.out.symm, (by repeat (first | exact Below.refl _ _ | assumption | (refine bl_alloc ?_ (Nat.le_refl _) _) | (refine bl_set ?_ (by simp <;> omega) _)))⟩
  · have q1 : (a == c) = false := by simp; omega
    have q2 : (a != c) = true := by simp; omega
    have HR := hide (show eqB a b c d = false from decide_eq_false (fun h => h1 h.1))
    go_enter Tryd.func26, Tryd.ntmps26
    go_wp2
    go_ret
    exact ⟨ret_bool HR.out.symm, (by repeat (first | exact Below.refl _ _ | assumption | (refine bl_alloc ?_ (Nat.le_refl _) _) | (refine bl_set ?_ (by simp <;> omega) _)))⟩
/-- the value of a fraction with a code -/
def frV (n d c : Int) : Value := .tuple #[.agg #[.int .i64 n, .int .i64 d], .int .i64 c]
theorem mkN_pos {n d : Int} (hd : ¬ d = 0) (hf : mkFits n d = true) (h : (n < 0 ∧ d < 0) ∨ (¬ n < 0 ∧ ¬ d < 0)) : mkN n d = (mkA n d : Int) := by
  unfold mkN; rw [if_neg hd, hf]; simp only [if_true]
  rcases h with ⟨a, b⟩ | ⟨a, b⟩ <;> simp [a, b]
theorem mkN_neg {n d : Int} (hd : ¬ d = 0) (hf : mkFits n d = true) (h : (n < 0 ∧ ¬ d < 0) ∨ (¬ n < 0 ∧ d < 0)) : mkN n d = -(mkA n d : Int) := by
  unfold mkN; rw [if_neg hd, hf]; simp only [if_true]
  rcases h with ⟨a, b⟩ | ⟨a, b⟩ <;> simp [a, b]
set_option maxHeartbeats 1000000 in
theorem makeFrac_i (n d : Int) (h0 : -9223372036854775808 ≤ n) (h1 : n ≤ 9223372036854775807) (g0 : -9223372036854775808 ≤ d) (g1 : d ≤ 9223372036854775807) (w : World) :
    Calls Tryd.prog 58 #[.int .i64 n, .int .i64 d] w fun e w' => e = .returned (.tuple #[.agg #[.int .i64 (mkN n d), .int .i64 (mkD n d)], .int .i64 (mkC n d)]) ∧ Below w.heap.size w w' := by
  by_cases hd : d = 0
  · subst hd
    have HN := hide (show mkN n 0 = 0 from rfl)
    have HD := hide (show mkD n 0 = 0 from rfl)
    have HC := hide (show mkC n 0 = 1 from rfl)
    go_enter Tryd.func58, Tryd.ntmps58
    go_wp2
    exact bodyPost_ret (v := .tuple #[.agg #[.int .i64 0, .int .i64 0], .int .i64 1]) (by simp [results, Tryd.results58, go_sem]) rfl ⟨by rw [HN.out, HD.out, HC.out], (by repeat (first | exact Below.refl _ _ | assumption | (refine bl_alloc ?_ (Nat.le_refl _) _) | (refine bl_set ?_ (by simp <;> omega) _)))⟩
  · have z1 : (d == 0) = false := by simp; omega
    have hg := mkG_pos (num := n) hd
    have hg1 : mkG n d ≤ d.natAbs := Nat.le_of_dvd (by omega) (Nat.gcd_dvd_right _ _)
    have ha : mkA n d ≤ n.natAbs := Nat.div_le_self _ _
    have hb : mkB n d ≤ d.natAbs := Nat.div_le_self _ _
    have HG := hide (show Nat.gcd n.natAbs d.natAbs = mkG n d from rfl)
    have HA := hide (show ((n.natAbs : Int)) / (mkG n d : Int) = (mkA n d : Int) from rfl)
    have HB := hide (show ((d.natAbs : Int)) / (mkG n d : Int) = (mkB n d : Int) from rfl)
    have e1 : (1 : Int) ≤ (mkG n d : Int) := by omega
    by_cases f1 : mkA n d ≤ 1000000000
    · by_cases f2 : mkB n d ≤ 1000000
      · have hf : mkFits n d = true := decide_eq_true ⟨f1, f2⟩
        have HC := hide (show mkC n d = 0 by unfold mkC; rw [if_neg hd, hf]; rfl)
        have HD := hide (show mkD n d = (mkB n d : Int) by unfold mkD; rw [if_neg hd, hf]; rfl)
        have r1 : ((mkA n d : Int)) ≤ 1000000000 := by omega
        have r2 : ((mkB n d : Int)) ≤ 1000000 := by omega
        by_cases hs : (n < 0 ∧ d < 0) ∨ (¬ n < 0 ∧ ¬ d < 0)
        · have HN := hide (mkN_pos hd hf hs)
          clear hf hg
          rcases hs with ⟨s1, s2⟩ | ⟨s1, s2⟩
          all_goals first | have t1 : decide (n < 0) = true := decide_eq_true s1 | have t1 : decide (n < 0) = false := decide_eq_false s1
          all_goals first | have t2 : decide (d < 0) = true := decide_eq_true s2 | have t2 : decide (d < 0) = false := decide_eq_false s2
          all_goals
            go_enter Tryd.func58, Tryd.ntmps58
            go_wp2_with (first | (go_at_call 78; (with_reducible refine (absU_i _ h0 h1 _).mono ?_); rintro e w1 ⟨rfl, rfl⟩) | (go_at_call 78; (with_reducible refine (absU_i _ g0 g1 _).mono ?_); rintro e w1 ⟨rfl, rfl⟩) | (go_at_call 77; (with_reducible refine (gcd64_i (n.natAbs : Int) (d.natAbs : Int) (by omega) (by omega) (by omega) (by omega) _).mono ?_); rintro e w1 ⟨rfl, hb1⟩; obtain ⟨hc1, hf1⟩ := bcell hb1; have hw1 : Below w.heap.size w w1 := bl_call (by repeat (first | exact Below.refl _ _ | assumption | (refine bl_alloc ?_ (Nat.le_refl _) _) | (refine bl_set ?_ (by simp <;> omega) _))) hb1; have hz1 : w.heap.size + 1 ≤ w1.heap.size := (by have hq := hb1.size; have hr := hw1.size; (try simp at hq); omega); have hza : w.heap.size < w1.heap.size := (by omega); have hz4 := hb1.size; (try simp at hz4); (try have hz5 := Nat.lt_of_succ_le hz4)))
            rw [HG.out]
            refine wp_region_quiet_below (by kernel_rfl) (by kernel_rfl) ?_
            repeat (first | go_big_quiet_step ((fail)) | quiet_step ((fail)))
            refine wpQuiet_nil ?_
            intro w1 hw1
            obtain ⟨pq, hpq⟩ := hw1
            have hb1 := below_of hpq
            clear hpq pq
            have hz4 := hb1.size
            (try simp at hz4)
            obtain ⟨hc1, hf1⟩ := bcell hb1
            have hw1 : Below w.heap.size w w1 := bl_call (by repeat (first | exact Below.refl _ _ | assumption | (refine bl_alloc ?_ (Nat.le_refl _) _) | (refine bl_set ?_ (by simp <;> omega) _))) hb1
            have hz1 : w.heap.size + 1 ≤ w1.heap.size := (by have hq := hb1.size; have hr := hw1.size; (try simp at hq); omega)
            have hza : w.heap.size < w1.heap.size := (by omega)
            rw [HA.out, HB.out]
            go_wp2
            refine bodyPost_ret (v := .tuple #[.agg #[.int .i64 (mkN n d), .int .i64 (mkD n d)], .int .i64 (mkC n d)]) ?_ rfl ⟨rfl, (by repeat (first | exact Below.refl _ _ | assumption | (refine bl_alloc ?_ (Nat.le_refl _) _) | (refine bl_set ?_ (by simp <;> omega) _)))⟩
            rw [HN.out, HD.out, HC.out]
            simp [results, Tryd.results58, go_sem, *]
        · have hs' : (n < 0 ∧ ¬ d < 0) ∨ (¬ n < 0 ∧ d < 0) := by omega
          have HN := hide (mkN_neg hd hf hs')
          clear hf hg hs
          rcases hs' with ⟨s1, s2⟩ | ⟨s1, s2⟩
          all_goals first | have t1 : decide (n < 0) = true := decide_eq_true s1 | have t1 : decide (n < 0) = false := decide_eq_false s1
          all_goals first | have t2 : decide (d < 0) = true := decide_eq_true s2 | have t2 : decide (d < 0) = false := decide_eq_false s2
          all_goals
            go_enter Tryd.func58, Tryd.ntmps58
            go_wp2_with (first | (go_at_call 78; (with_reducible refine (absU_i _ h0 h1 _).mono ?_); rintro e w1 ⟨rfl, rfl⟩) | (go_at_call 78; (with_reducible refine (absU_i _ g0 g1 _).mono ?_); rintro e w1 ⟨rfl, rfl⟩) | (go_at_call 77; (with_reducible refine (gcd64_i (n.natAbs : Int) (d.natAbs : Int) (by omega) (by omega) (by omega) (by omega) _).mono ?_); rintro e w1 ⟨rfl, hb1⟩; obtain ⟨hc1, hf1⟩ := bcell hb1; have hw1 : Below w.heap.size w w1 := bl_call (by repeat (first | exact Below.refl _ _ | assumption | (refine bl_alloc ?_ (Nat.le_refl _) _) | (refine bl_set ?_ (by simp <;> omega) _))) hb1; have hz1 : w.heap.size + 1 ≤ w1.heap.size := (by have hq := hb1.size; have hr := hw1.size; (try simp at hq); omega); have hza : w.heap.size < w1.heap.size := (by omega); have hz4 := hb1.size; (try simp at hz4); (try have hz5 := Nat.lt_of_succ_le hz4)))
            rw [HG.out]
            refine wp_region_quiet_below (by kernel_rfl) (by kernel_rfl) ?_
            repeat (first | go_big_quiet_step ((fail)) | quiet_step ((fail)))
            refine wpQuiet_nil ?_
            intro w1 hw1
            obtain ⟨pq, hpq⟩ := hw1
            have hb1 := below_of hpq
            clear hpq pq
            have hz4 := hb1.size
            (try simp at hz4)
            obtain ⟨hc1, hf1⟩ := bcell hb1
            have hw1 : Below w.heap.size w w1 := bl_call (by repeat (first | exact Below.refl _ _ | assumption | (refine bl_alloc ?_ (Nat.le_refl _) _) | (refine bl_set ?_ (by simp <;> omega) _))) hb1
            have hz1 : w.heap.size + 1 ≤ w1.heap.size := (by have hq := hb1.size; have hr := hw1.size; (try simp at hq); omega)
            have hza : w.heap.size < w1.heap.size := (by omega)
            rw [HA.out, HB.out]
            go_wp2
            refine bodyPost_ret (v := .tuple #[.agg #[.int .i64 (mkN n d), .int .i64 (mkD n d)], .int .i64 (mkC n d)]) ?_ rfl ⟨rfl, (by repeat (first | exact Below.refl _ _ | assumption | (refine bl_alloc ?_ (Nat.le_refl _) _) | (refine bl_set ?_ (by simp <;> omega) _)))⟩
            rw [HN.out, HD.out, HC.out]
            simp [results, Tryd.results58, go_sem, *]
      · have hf : mkFits n d = false := decide_eq_false (fun h => f2 h.2)
        have HC := hide (show mkC n d = 2 by unfold mkC; rw [if_neg hd, hf]; rfl)
        have HD := hide (show mkD n d = 0 by unfold mkD; rw [if_neg hd, hf]; rfl)
        have HN := hide (show mkN n d = 0 by unfold mkN; rw [if_neg hd, hf]; rfl)
        have r1 : ((mkA n d : Int)) ≤ 1000000000 := by omega
        have r2 : 1000000 < ((mkB n d : Int)) := by omega
        have r3 : decide (1000000000 < ((mkA n d : Int))) = false := by simp; omega
        have r4 : decide (1000000 < ((mkB n d : Int))) = true := by simp; omega
        clear hf hg f1 f2
        go_enter Tryd.func58, Tryd.ntmps58
        go_wp2_with (first | (go_at_call 78; (with_reducible refine (absU_i _ h0 h1 _).mono ?_); rintro e w1 ⟨rfl, rfl⟩) | (go_at_call 78; (with_reducible refine (absU_i _ g0 g1 _).mono ?_); rintro e w1 ⟨rfl, rfl⟩) | (go_at_call 77; (with_reducible refine (gcd64_i (n.natAbs : Int) (d.natAbs : Int) (by omega) (by omega) (by omega) (by omega) _).mono ?_); rintro e w1 ⟨rfl, hb1⟩; obtain ⟨hc1, hf1⟩ := bcell hb1; have hw1 : Below w.heap.size w w1 := bl_call (by repeat (first | exact Below.refl _ _ | assumption | (refine bl_alloc ?_ (Nat.le_refl _) _) | (refine bl_set ?_ (by simp <;> omega) _))) hb1; have hz1 : w.heap.size + 1 ≤ w1.heap.size := (by have hq := hb1.size; have hr := hw1.size; (try simp at hq); omega); have hza : w.heap.size < w1.heap.size := (by omega); have hz4 := hb1.size; (try simp at hz4); (try have hz5 := Nat.lt_of_succ_le hz4)))
        rw [HG.out]
        refine wp_region_quiet_below (by kernel_rfl) (by kernel_rfl) ?_
        repeat (first | go_big_quiet_step ((fail)) | quiet_step ((fail)))
        refine wpQuiet_nil ?_
        intro w1 hw1
        obtain ⟨pq, hpq⟩ := hw1
        have hb1 := below_of hpq
        clear hpq pq
        have hz4 := hb1.size
        (try simp at hz4)
        obtain ⟨hc1, hf1⟩ := bcell hb1
        have hw1 : Below w.heap.size w w1 := bl_call (by repeat (first | exact Below.refl _ _ | assumption | (refine bl_alloc ?_ (Nat.le_refl _) _) | (refine bl_set ?_ (by simp <;> omega) _))) hb1
        have hz1 : w.heap.size + 1 ≤ w1.heap.size := (by have hq := hb1.size; have hr := hw1.size; (try simp at hq); omega)
        have hza : w.heap.size < w1.heap.size := (by omega)
        rw [HA.out, HB.out]
        go_wp2
        refine bodyPost_ret (v := .tuple #[.agg #[.int .i64 (mkN n d), .int .i64 (mkD n d)], .int .i64 (mkC n d)]) ?_ rfl ⟨rfl, (by repeat (first | exact Below.refl _ _ | assumption | (refine bl_alloc ?_ (Nat.le_refl _) _) | (refine bl_set ?_ (by simp <;> omega) _)))⟩
        rw [HN.out, HD.out, HC.out]
        simp [results, Tryd.results58, go_sem, *]
    · have hf : mkFits n d = false := decide_eq_false (fun h => f1 h.1)
      have HC := hide (show mkC n d = 2 by unfold mkC; rw [if_neg hd, hf]; rfl)
      have HD := hide (show mkD n d = 0 by unfold mkD; rw [if_neg hd, hf]; rfl)
      have HN := hide (show mkN n d = 0 by unfold mkN; rw [if_neg hd, hf]; rfl)
      have r1 : 1000000000 < ((mkA n d : Int)) := by omega
      have r3 : decide (1000000000 < ((mkA n d : Int))) = true := by simp; omega
      clear hf hg f1
      go_enter Tryd.func58, Tryd.ntmps58
      go_wp2_with (first | (go_at_call 78; (with_reducible refine (absU_i _ h0 h1 _).mono ?_); rintro e w1 ⟨rfl, rfl⟩) | (go_at_call 78; (with_reducible refine (absU_i _ g0 g1 _).mono ?_); rintro e w1 ⟨rfl, rfl⟩) | (go_at_call 77; (with_reducible refine (gcd64_i (n.natAbs : Int) (d.natAbs : Int) (by omega) (by omega) (by omega) (by omega) _).mono ?_); rintro e w1 ⟨rfl, hb1⟩; obtain ⟨hc1, hf1⟩ := bcell hb1; have hw1 : Below w.heap.size w w1 := bl_call (by repeat (first | exact Below.refl _ _ | assumption | (refine bl_alloc ?_ (Nat.le_refl _) _) | (refine bl_set ?_ (by simp <;> omega) _))) hb1; have hz1 : w.heap.size + 1 ≤ w1.heap.size := (by have hq := hb1.size; have hr := hw1.size; (try simp at hq); omega); have hza : w.heap.size < w1.heap.size := (by omega); have hz4 := hb1.size; (try simp at hz4); (try have hz5 := Nat.lt_of_succ_le hz4)))
      rw [HG.out]
      refine wp_region_quiet_below (by kernel_rfl) (by kernel_rfl) ?_
      repeat (first | go_big_quiet_step ((fail)) | quiet_step ((fail)))
      refine wpQuiet_nil ?_
      intro w1 hw1
      obtain ⟨pq, hpq⟩ := hw1
      have hb1 := below_of hpq
      clear hpq pq
      have hz4 := hb1.size
      (try simp at hz4)
      obtain ⟨hc1, hf1⟩ := bcell hb1
      have hw1 : Below w.heap.size w w1 := bl_call (by repeat (first | exact Below.refl _ _ | assumption | (refine bl_alloc ?_ (Nat.le_refl _) _) | (refine bl_set ?_ (by simp <;> omega) _))) hb1
      have hz1 : w.heap.size + 1 ≤ w1.heap.size := (by have hq := hb1.size; have hr := hw1.size; (try simp at hq); omega)
      have hza : w.heap.size < w1.heap.size := (by omega)
      rw [HA.out, HB.out]
      go_wp2
      refine bodyPost_ret (v := .tuple #[.agg #[.int .i64 (mkN n d), .int .i64 (mkD n d)], .int .i64 (mkC n d)]) ?_ rfl ⟨rfl, (by repeat (first | exact Below.refl _ _ | assumption | (refine bl_alloc ?_ (Nat.le_refl _) _) | (refine bl_set ?_ (by simp <;> omega) _)))⟩
      rw [HN.out, HD.out, HC.out]
      simp [results, Tryd.results58, go_sem, *]
set_option maxHeartbeats 1000000 in
theorem makeFrac_s (n d : Int) (h0 : -9223372036854775808 ≤ n) (h1 : n ≤ 9223372036854775807) (g0 : -9223372036854775808 ≤ d) (g1 : d ≤ 9223372036854775807) (w : World) :
    Calls Tryd.prog 47 #[.int .i64 n, .int .i64 d] w fun e w' => e = .returned (.tuple #[.agg #[.int .i64 (mkN n d), .int .i64 (mkD n d)], .int .i64 (mkC n d)]) ∧ Below w.heap.size w w' := by
  by_cases hd : d = 0
  · subst hd
    have HN := hide (show mkN n 0 = 0 from rfl)
    have HD := hide (show mkD n 0 = 0 from rfl)
    have HC := hide (show mkC n 0 = 1 from rfl)
    go_enter Tryd.func47, Tryd.ntmps47
    go_wp2
    exact bodyPost_ret (v := .tuple #[.agg #[.int .i64 0, .int .i64 0], .int .i64 1]) (by simp [results, Tryd.results47, go_sem]) rfl ⟨by rw [HN.out, HD.out, HC.out], (by repeat (first | exact Below.refl _ _ | assumption | (refine bl_alloc ?_ (Nat.le_refl _) _) | (refine bl_set ?_ (by simp <;> omega) _)))⟩
  · have z1 : (d == 0) = false := by simp; omega
    have hg := mkG_pos (num := n) hd
    have hg1 : mkG n d ≤ d.natAbs := Nat.le_of_dvd (by omega) (Nat.gcd_dvd_right _ _)
    have ha : mkA n d ≤ n.natAbs := Nat.div_le_self _ _
    have hb : mkB n d ≤ d.natAbs := Nat.div_le_self _ _
    have HG := hide (show Nat.gcd n.natAbs d.natAbs = mkG n d from rfl)
    have HA := hide (show ((n.natAbs : Int)) / (mkG n d : Int) = (mkA n d : Int) from rfl)
    have HB := hide (show ((d.natAbs : Int)) / (mkG n d : Int) = (mkB n d : Int) from rfl)
    have e1 : (1 : Int) ≤ (mkG n d : Int) := by omega
    have gG := HG.out
    have gA := HA.out
    have gB := HB.out
    by_cases f1 : mkA n d ≤ 1000000000
    · by_cases f2 : mkB n d ≤ 1000000
      · have hf : mkFits n d = true := decide_eq_true ⟨f1, f2⟩
        have HC := hide (show mkC n d = 0 by unfold mkC; rw [if_neg hd, hf]; rfl)
        have HD := hide (show mkD n d = (mkB n d : Int) by unfold mkD; rw [if_neg hd, hf]; rfl)
        have r1 : ((mkA n d : Int)) ≤ 1000000000 := by omega
        have r2 : ((mkB n d : Int)) ≤ 1000000 := by omega
        by_cases hs : (n < 0 ∧ d < 0) ∨ (¬ n < 0 ∧ ¬ d < 0)
        · have HN := hide (mkN_pos hd hf hs)
          clear hf hg
          rcases hs with ⟨s1, s2⟩ | ⟨s1, s2⟩
          all_goals first | have t1 : decide (n < 0) = true := decide_eq_true s1 | have t1 : decide (n < 0) = false := decide_eq_false s1
          all_goals first | have t2 : decide (d < 0) = true := decide_eq_true s2 | have t2 : decide (d < 0) = false := decide_eq_false s2
          all_goals
            go_enter Tryd.func47, Tryd.ntmps47
            go_wp2_with (first | (go_at_call 69; (with_reducible refine (l02Size_any _ h0 h1 _).mono ?_); rintro e w1 ⟨rfl, rfl⟩) | (go_at_call 69; (with_reducible refine (l02Size_any _ g0 g1 _).mono ?_); rintro e w1 ⟨rfl, rfl⟩) | (go_at_call 68; (with_reducible refine (gcd64_s (n.natAbs : Int) (d.natAbs : Int) (by omega) (by omega) (by omega) (by omega) _).mono ?_); rintro e w1 ⟨rfl, hb1⟩; obtain ⟨hc1, hf1⟩ := bcell hb1; have hw1 : Below w.heap.size w w1 := bl_call (by repeat (first | exact Below.refl _ _ | assumption | (refine bl_alloc ?_ (Nat.le_refl _) _) | (refine bl_set ?_ (by simp <;> omega) _))) hb1; have hz1 : w.heap.size + 1 ≤ w1.heap.size := (by have hq := hb1.size; have hr := hw1.size; (try simp at hq); omega); have hza : w.heap.size < w1.heap.size := (by omega); have hz4 := hb1.size; (try simp at hz4); (try have hz5 := Nat.lt_of_succ_le hz4)))
            go_wp2
            refine bodyPost_ret (v := .tuple #[.agg #[.int .i64 (mkN n d), .int .i64 (mkD n d)], .int .i64 (mkC n d)]) ?_ rfl ⟨rfl, (by repeat (first | exact Below.refl _ _ | assumption | (refine bl_alloc ?_ (Nat.le_refl _) _) | (refine bl_set ?_ (by simp <;> omega) _)))⟩
            rw [HN.out, HD.out, HC.out]
            simp [results, Tryd.results47, go_sem, *]
        · have hs' : (n < 0 ∧ ¬ d < 0) ∨ (¬ n < 0 ∧ d < 0) := by omega
          have HN := hide (mkN_neg hd hf hs')
          clear hf hg hs
          rcases hs' with ⟨s1, s2⟩ | ⟨s1, s2⟩
          all_goals first | have t1 : decide (n < 0) = true := decide_eq_true s1 | have t1 : decide (n < 0) = false := decide_eq_false s1
          all_goals first | have t2 : decide (d < 0) = true := decide_eq_true s2 | have t2 : decide (d < 0) = false := decide_eq_false s2
          all_goals
            go_enter Tryd.func47, Tryd.ntmps47
            go_wp2_with (first | (go_at_call 69; (with_reducible refine (l02Size_any _ h0 h1 _).mono ?_); rintro e w1 ⟨rfl, rfl⟩) | (go_at_call 69; (with_reducible refine (l02Size_any _ g0 g1 _).mono ?_); rintro e w1 ⟨rfl, rfl⟩) | (go_at_call 68; (with_reducible refine (gcd64_s (n.natAbs : Int) (d.natAbs : Int) (by omega) (by omega) (by omega) (by omega) _).mono ?_); rintro e w1 ⟨rfl, hb1⟩; obtain ⟨hc1, hf1⟩ := bcell hb1; have hw1 : Below w.heap.size w w1 := bl_call (by repeat (first | exact Below.refl _ _ | assumption | (refine bl_alloc ?_ (Nat.le_refl _) _) | (refine bl_set ?_ (by simp <;> omega) _))) hb1; have hz1 : w.heap.size + 1 ≤ w1.heap.size := (by have hq := hb1.size; have hr := hw1.size; (try simp at hq); omega); have hza : w.heap.size < w1.heap.size := (by omega); have hz4 := hb1.size; (try simp at hz4); (try have hz5 := Nat.lt_of_succ_le hz4)))
            go_wp2
            refine bodyPost_ret (v := .tuple #[.agg #[.int .i64 (mkN n d), .int .i64 (mkD n d)], .int .i64 (mkC n d)]) ?_ rfl ⟨rfl, (by repeat (first | exact Below.refl _ _ | assumption | (refine bl_alloc ?_ (Nat.le_refl _) _) | (refine bl_set ?_ (by simp <;> omega) _)))⟩
            rw [HN.out, HD.out, HC.out]
            simp [results, Tryd.results47, go_sem, *]
      · have hf : mkFits n d = false := decide_eq_false (fun h => f2 h.2)
        have HC := hide (show mkC n d = 2 by unfold mkC; rw [if_neg hd, hf]; rfl)
        have HD := hide (show mkD n d = 0 by unfold mkD; rw [if_neg hd, hf]; rfl)
        have HN := hide (show mkN n d = 0 by unfold mkN; rw [if_neg hd, hf]; rfl)
        have r1 : ((mkA n d : Int)) ≤ 1000000000 := by omega
        have r2 : 1000000 < ((mkB n d : Int)) := by omega
        have r3 : decide (1000000000 < ((mkA n d : Int))) = false := by simp; omega
        have r4 : decide (1000000 < ((mkB n d : Int))) = true := by simp; omega
        clear hf hg f1 f2
        go_enter Tryd.func47, Tryd.ntmps47
        go_wp2_with (first | (go_at_call 69; (with_reducible refine (l02Size_any _ h0 h1 _).mono ?_); rintro e w1 ⟨rfl, rfl⟩) | (go_at_call 69; (with_reducible refine (l02Size_any _ g0 g1 _).mono ?_); rintro e w1 ⟨rfl, rfl⟩) | (go_at_call 68; (with_reducible refine (gcd64_s (n.natAbs : Int) (d.natAbs : Int) (by omega) (by omega) (by omega) (by omega) _).mono ?_); rintro e w1 ⟨rfl, hb1⟩; obtain ⟨hc1, hf1⟩ := bcell hb1; have hw1 : Below w.heap.size w w1 := bl_call (by repeat (first | exact Below.refl _ _ | assumption | (refine bl_alloc ?_ (Nat.le_refl _) _) | (refine bl_set ?_ (by simp <;> omega) _))) hb1; have hz1 : w.heap.size + 1 ≤ w1.heap.size := (by have hq := hb1.size; have hr := hw1.size; (try simp at hq); omega); have hza : w.heap.size < w1.heap.size := (by omega); have hz4 := hb1.size; (try simp at hz4); (try have hz5 := Nat.lt_of_succ_le hz4)))
        go_wp2
        refine bodyPost_ret (v := .tuple #[.agg #[.int .i64 (mkN n d), .int .i64 (mkD n d)], .int .i64 (mkC n d)]) ?_ rfl ⟨rfl, (by repeat (first | exact Below.refl _ _ | assumption | (refine bl_alloc ?_ (Nat.le_refl _) _) | (refine bl_set ?_ (by simp <;> omega) _)))⟩
        rw [HN.out, HD.out, HC.out]
        simp [results, Tryd.results47, go_sem, *]
    · have hf : mkFits n d = false := decide_eq_false (fun h => f1 h.1)
      have HC := hide (show mkC n d = 2 by unfold mkC; rw [if_neg hd, hf]; rfl)
      have HD := hide (show mkD n d = 0 by unfold mkD; rw [if_neg hd, hf]; rfl)
      have HN := hide (show mkN n d = 0 by unfold mkN; rw [if_neg hd, hf]; rfl)
      have r1 : 1000000000 < ((mkA n d : Int)) := by omega
      have r3 : decide (1000000000 < ((mkA n d : Int))) = true := by simp; omega
      clear hf hg f1
      go_enter Tryd.func47, Tryd.ntmps47
      go_wp2_with (first | (go_at_call 69; (with_reducible refine (l02Size_any _ h0 h1 _).mono ?_); rintro e w1 ⟨rfl, rfl⟩) | (go_at_call 69; (with_reducible refine (l02Size_any _ g0 g1 _).mono ?_); rintro e w1 ⟨rfl, rfl⟩) | (go_at_call 68; (with_reducible refine (gcd64_s (n.natAbs : Int) (d.natAbs : Int) (by omega) (by omega) (by omega) (by omega) _).mono ?_); rintro e w1 ⟨rfl, hb1⟩; obtain ⟨hc1, hf1⟩ := bcell hb1; have hw1 : Below w.heap.size w w1 := bl_call (by repeat (first | exact Below.refl _ _ | assumption | (refine bl_alloc ?_ (Nat.le_refl _) _) | (refine bl_set ?_ (by simp <;> omega) _))) hb1; have hz1 : w.heap.size + 1 ≤ w1.heap.size := (by have hq := hb1.size; have hr := hw1.size; (try simp at hq); omega); have hza : w.heap.size < w1.heap.size := (by omega); have hz4 := hb1.size; (try simp at hz4); (try have hz5 := Nat.lt_of_succ_le hz4)))
      go_wp2
      refine bodyPost_ret (v := .tuple #[.agg #[.int .i64 (mkN n d), .int .i64 (mkD n d)], .int .i64 (mkC n d)]) ?_ rfl ⟨rfl, (by repeat (first | exact Below.refl _ _ | assumption | (refine bl_alloc ?_ (Nat.le_refl _) _) | (refine bl_set ?_ (by simp <;> omega) _)))⟩
      rw [HN.out, HD.out, HC.out]
      simp [results, Tryd.results47, go_sem, *]
end Go.Proofs.YtickgkfgmbaalaaDoor
