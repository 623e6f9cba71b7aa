/-
  CONTRACTS of impl.PutWord and spec.PutWord at each number of bytes, and the walk of their law: the same text, byte for byte; no cell that was there is written. Conditions: none.
-/
import Derived.Test.YtooflknjnklglaaPt
import Derived.Laws.BytesArg
import Derived.Laws.BitsAllLaws
import Derived.Laws.BitsLemmas
namespace Go.Proofs.Ytooflknjnklglaa
open Go.RowKit Go.Sort
set_option linter.unusedVariables false
attribute [local go_sem] cell_grow frozen_grow

theorem low_byte (n : Int) : bits .and .i64 n 255 = n % 256 := by
  have h : bits .and .i64 n 255 = IntKind.i64.wrap ((BitVec.ofInt 64 n &&& BitVec.ofInt 64 255).toNat : Int) := rfl
  have e : (BitVec.ofInt 64 (255 : Int)).toNat = 255 := by decide
  have h2 := Nat.and_two_pow_sub_one_eq_mod (BitVec.ofInt 64 n).toNat 8
  have h3 : (BitVec.ofInt 64 n).toNat &&& 255 = (BitVec.ofInt 64 n).toNat % 256 := h2
  rw [h, BitVec.toNat_and, e, h3, BitVec.toNat_ofInt, IntKind.wrap_i64]
  omega
theorem u64_wrap (n : Int) : IntKind.u64.wrap n = n % 18446744073709551616 := by
  simp [IntKind.wrap, IntKind.bits, IntKind.signed]
def wordL (n : Int) : Nat → List Int
  | 0 => []
  | k + 1 => wordL (n / 256) k ++ [n % 256]
def putB (n lo hi : Int) (k : Nat) : ByteArray := if lo ≤ n ∧ n < hi then strOfNums (wordL n k) else ⟨#[]⟩

theorem mk1 : ∀ w, (Instr.makeSlice 36 (.int .i64 1) (.int .i64 1)).run Try.prog w = .ok (.slice (some ⟨w.heap.size, 0, none⟩) 1 1) (w.alloc (.cells #[.int .u8 0] 5)) := fun _ => by kernel_rfl
theorem kc1 (x0 : Int) (w : World) : (convert 36 9 (.slice (some ⟨w.heap.size, 0, none⟩) 1 1)).run Try.prog (w.alloc (.cells #[.int .u8 x0] 5)) = .ok (.string (strOfNums [x0])) (w.alloc (.cells #[.int .u8 x0] 5)) :=
  run_convert_bytes_arg _ 36 5 Try.underlying36 Try.underlying5 _ 0 1 1 [x0] rfl (fun i hi => by
    have h : i = 0 := by omega
    rcases h with rfl <;> simp [go_sem]) _ Try.underlying9
theorem digs_i1 (n : Int) : strOfNums [IntKind.u64.wrap n % 256] = strOfNums (wordL n 1) := by
  have e : wordL n 1 = [n % 256] := rfl
  rw [e, u64_wrap]
  congr 1
  simp only [List.cons.injEq, and_true]
  omega
theorem digs_s1 (n : Int) : strOfNums [bits BinOp.and IntKind.i64 n 255 % 256] = strOfNums (wordL n 1) := by
  have e : wordL n 1 = [n % 256] := rfl
  rw [e]
  simp only [low_byte]
  congr 1
  simp only [List.cons.injEq, and_true]
  omega
set_option maxRecDepth 100000 in
set_option maxHeartbeats 1000000 in
theorem put_i1 (n : Int) (w : World) : Calls Try.prog 41 #[.int .i64 n, .int .i64 1] w fun e w' => e = .returned (.string (putB n (-128) 256 1)) ∧ Below w.heap.size w w' := by
  by_cases h : -128 ≤ n ∧ n < 256
  · have HR := hide (show strOfNums [IntKind.u64.wrap n % 256] = putB n (-128) 256 1 by rw [putB, if_pos h]; exact digs_i1 n)
    have hmk := mk1
    have hkc := kc1
    have h2 : decide (n < -128) = false := by simp; omega
    have h3 : decide (256 ≤ n) = false := by simp; omega
    clear h
    go_enter Try.func41, Try.ntmps41
    go_wp2
    refine wp_loop_rounds 2 ?_
    rw [rounds_succ]
    go_wp2
    rw [rounds_succ]
    go_wp2
    go_ret
    exact ⟨by rw [← HR.out]; rfl, (by repeat (first | exact Below.refl _ _ | assumption | (refine bl_alloc ?_ (Nat.le_refl _) _) | (refine bl_set ?_ (by simp <;> omega) _)))⟩
  · have HR := hide (show putB n (-128) 256 1 = ⟨#[]⟩ by rw [putB, if_neg h])
    by_cases h4 : n < -128
    · go_enter Try.func41, Try.ntmps41
      go_wp2
      go_ret
      exact ⟨by rw [HR.out]; rfl, (by repeat (first | exact Below.refl _ _ | assumption | (refine bl_alloc ?_ (Nat.le_refl _) _) | (refine bl_set ?_ (by simp <;> omega) _)))⟩
    · have h2 : decide (n < -128) = false := by simp; omega
      have h5 : 256 ≤ n := by omega
      clear h h4
      go_enter Try.func41, Try.ntmps41
      go_wp2
      go_ret
      exact ⟨by rw [HR.out]; rfl, (by repeat (first | exact Below.refl _ _ | assumption | (refine bl_alloc ?_ (Nat.le_refl _) _) | (refine bl_set ?_ (by simp <;> omega) _)))⟩
set_option maxRecDepth 100000 in
set_option maxHeartbeats 1000000 in
theorem word_s1 (n : Int) (w : World) : Calls Try.prog 69 #[.int .i64 n, .int .i64 1] w fun e w' => e = .returned (.string (strOfNums (wordL n 1))) ∧ Below w.heap.size w w' := by
    have HR := hide (digs_s1 n)
    have hmk := mk1
    have hkc := kc1
    go_enter Try.func69, Try.ntmps69
    go_wp2
    refine wp_loop_rounds 2 ?_
    rw [rounds_succ]
    go_wp2
    rw [rounds_succ]
    go_wp2
    go_ret
    exact ⟨by rw [← HR.out]; rfl, (by repeat (first | exact Below.refl _ _ | assumption | (refine bl_alloc ?_ (Nat.le_refl _) _) | (refine bl_set ?_ (by simp <;> omega) _)))⟩
theorem power_s1 (w : World) : Calls Try.prog 68 #[.int .i64 1] w fun e w' => e = .returned (.int .i64 256) ∧ w = w' := by
  go_enter Try.func68, Try.ntmps68
  go_wp2
  go_ret
  exact ⟨rfl, rfl⟩
set_option maxRecDepth 100000 in
set_option maxHeartbeats 1000000 in
theorem put_s1 (n : Int) (w : World) : Calls Try.prog 40 #[.int .i64 n, .int .i64 1] w fun e w' => e = .returned (.string (putB n (-128) 256 1)) ∧ Below w.heap.size w w' := by
  by_cases h : -128 ≤ n ∧ n < 256
  · have HR := hide (show strOfNums (wordL n 1) = putB n (-128) 256 1 by rw [putB, if_pos h])
    have h2 : decide (n < -128) = false := by simp; omega
    have h3 : decide (256 ≤ n) = false := by simp; omega
    have h4 : inB 1 1 4 = true := by decide
    clear h
    go_enter Try.func40, Try.ntmps40
    go_wp2_with (first | (go_at_call 69; (with_reducible refine (word_s1 _ _).mono ?_); rintro e w1 ⟨rfl, hb1⟩; obtain ⟨hc1, hf1⟩ := bcell hb1; have hz1 : w.heap.size + 0 ≤ w1.heap.size := (by have hq := hb1.size; (try simp at hq); omega); have hw1 : Below w.heap.size w w1 := bl_call (by repeat (first | exact Below.refl _ _ | assumption | (refine bl_alloc ?_ (Nat.le_refl _) _) | (refine bl_set ?_ (by simp <;> omega) _))) hb1) | (go_at_call 68; (with_reducible refine (power_s1 _).mono ?_); rintro e w1 ⟨rfl, rfl⟩) | (go_at_call 52; (with_reducible refine (l00In_any _ _ _ _).mono ?_); rintro e w1 ⟨rfl, rfl⟩))
    go_ret
    exact ⟨by rw [← HR.out]; rfl, (by repeat (first | exact Below.refl _ _ | assumption | (refine bl_alloc ?_ (Nat.le_refl _) _) | (refine bl_set ?_ (by simp <;> omega) _)))⟩
  · have HR := hide (show putB n (-128) 256 1 = ⟨#[]⟩ by rw [putB, if_neg h])
    by_cases h4 : n < -128
    · go_enter Try.func40, Try.ntmps40
      go_wp2
      go_ret
      exact ⟨by rw [HR.out]; rfl, (by repeat (first | exact Below.refl _ _ | assumption | (refine bl_alloc ?_ (Nat.le_refl _) _) | (refine bl_set ?_ (by simp <;> omega) _)))⟩
    · have h2 : decide (n < -128) = false := by simp; omega
      have h5 : 256 ≤ n := by omega
      clear h h4
      go_enter Try.func40, Try.ntmps40
      go_wp2
      go_ret
      exact ⟨by rw [HR.out]; rfl, (by repeat (first | exact Below.refl _ _ | assumption | (refine bl_alloc ?_ (Nat.le_refl _) _) | (refine bl_set ?_ (by simp <;> omega) _)))⟩

theorem mk2 : ∀ w, (Instr.makeSlice 36 (.int .i64 2) (.int .i64 2)).run Try.prog w = .ok (.slice (some ⟨w.heap.size, 0, none⟩) 2 2) (w.alloc (.cells #[.int .u8 0, .int .u8 0] 5)) := fun _ => by kernel_rfl
theorem kc2 (x0 x1 : Int) (w : World) : (convert 36 9 (.slice (some ⟨w.heap.size, 0, none⟩) 2 2)).run Try.prog (w.alloc (.cells #[.int .u8 x0, .int .u8 x1] 5)) = .ok (.string (strOfNums [x0, x1])) (w.alloc (.cells #[.int .u8 x0, .int .u8 x1] 5)) :=
  run_convert_bytes_arg _ 36 5 Try.underlying36 Try.underlying5 _ 0 2 2 [x0, x1] rfl (fun i hi => by
    have h : i = 0 ∨ i = 1 := by omega
    rcases h with rfl | rfl <;> simp [go_sem]) _ Try.underlying9
theorem digs_i2 (n : Int) : strOfNums [IntKind.u64.wrap n / 256 % 256, IntKind.u64.wrap n % 256] = strOfNums (wordL n 2) := by
  have e : wordL n 2 = [n / 256 % 256, n % 256] := rfl
  rw [e, u64_wrap]
  congr 1
  simp only [List.cons.injEq, and_true]
  omega
theorem digs_s2 (n : Int) : strOfNums [bits BinOp.and IntKind.i64 (n / 256) 255 % 256, bits BinOp.and IntKind.i64 n 255 % 256] = strOfNums (wordL n 2) := by
  have e : wordL n 2 = [n / 256 % 256, n % 256] := rfl
  rw [e]
  simp only [low_byte]
  congr 1
  simp only [List.cons.injEq, and_true]
  omega
set_option maxRecDepth 100000 in
set_option maxHeartbeats 1000000 in
theorem put_i2 (n : Int) (w : World) : Calls Try.prog 41 #[.int .i64 n, .int .i64 2] w fun e w' => e = .returned (.string (putB n (-32768) 65536 2)) ∧ Below w.heap.size w w' := by
  by_cases h : -32768 ≤ n ∧ n < 65536
  · have HR := hide (show strOfNums [IntKind.u64.wrap n / 256 % 256, IntKind.u64.wrap n % 256] = putB n (-32768) 65536 2 by rw [putB, if_pos h]; exact digs_i2 n)
    have hmk := mk2
    have hkc := kc2
    have h2 : decide (n < -32768) = false := by simp; omega
    have h3 : decide (65536 ≤ n) = false := by simp; omega
    clear h
    go_enter Try.func41, Try.ntmps41
    go_wp2
    refine wp_loop_rounds 3 ?_
    rw [rounds_succ]
    go_wp2
    rw [rounds_succ]
    go_wp2
    rw [rounds_succ]
    go_wp2
    go_ret
    exact ⟨by rw [← HR.out]; rfl, (by repeat (first | exact Below.refl _ _ | assumption | (refine bl_alloc ?_ (Nat.le_refl _) _) | (refine bl_set ?_ (by simp <;> omega) _)))⟩
  · have HR := hide (show putB n (-32768) 65536 2 = ⟨#[]⟩ by rw [putB, if_neg h])
    by_cases h4 : n < -32768
    · go_enter Try.func41, Try.ntmps41
      go_wp2
      go_ret
      exact ⟨by rw [HR.out]; rfl, (by repeat (first | exact Below.refl _ _ | assumption | (refine bl_alloc ?_ (Nat.le_refl _) _) | (refine bl_set ?_ (by simp <;> omega) _)))⟩
    · have h2 : decide (n < -32768) = false := by simp; omega
      have h5 : 65536 ≤ n := by omega
      clear h h4
      go_enter Try.func41, Try.ntmps41
      go_wp2
      go_ret
      exact ⟨by rw [HR.out]; rfl, (by repeat (first | exact Below.refl _ _ | assumption | (refine bl_alloc ?_ (Nat.le_refl _) _) | (refine bl_set ?_ (by simp <;> omega) _)))⟩
set_option maxRecDepth 100000 in
set_option maxHeartbeats 1000000 in
theorem word_s2 (n : Int) (w : World) : Calls Try.prog 69 #[.int .i64 n, .int .i64 2] w fun e w' => e = .returned (.string (strOfNums (wordL n 2))) ∧ Below w.heap.size w w' := by
    have HR := hide (digs_s2 n)
    have hmk := mk2
    have hkc := kc2
    go_enter Try.func69, Try.ntmps69
    go_wp2
    refine wp_loop_rounds 3 ?_
    rw [rounds_succ]
    go_wp2
    rw [rounds_succ]
    go_wp2
    rw [rounds_succ]
    go_wp2
    go_ret
    exact ⟨by rw [← HR.out]; rfl, (by repeat (first | exact Below.refl _ _ | assumption | (refine bl_alloc ?_ (Nat.le_refl _) _) | (refine bl_set ?_ (by simp <;> omega) _)))⟩
theorem power_s2 (w : World) : Calls Try.prog 68 #[.int .i64 2] w fun e w' => e = .returned (.int .i64 65536) ∧ w = w' := by
  go_enter Try.func68, Try.ntmps68
  go_wp2
  go_ret
  exact ⟨rfl, rfl⟩
set_option maxRecDepth 100000 in
set_option maxHeartbeats 1000000 in
theorem put_s2 (n : Int) (w : World) : Calls Try.prog 40 #[.int .i64 n, .int .i64 2] w fun e w' => e = .returned (.string (putB n (-32768) 65536 2)) ∧ Below w.heap.size w w' := by
  by_cases h : -32768 ≤ n ∧ n < 65536
  · have HR := hide (show strOfNums (wordL n 2) = putB n (-32768) 65536 2 by rw [putB, if_pos h])
    have h2 : decide (n < -32768) = false := by simp; omega
    have h3 : decide (65536 ≤ n) = false := by simp; omega
    have h4 : inB 2 1 4 = true := by decide
    clear h
    go_enter Try.func40, Try.ntmps40
    go_wp2_with (first | (go_at_call 69; (with_reducible refine (word_s2 _ _).mono ?_); rintro e w1 ⟨rfl, hb1⟩; obtain ⟨hc1, hf1⟩ := bcell hb1; have hz1 : w.heap.size + 0 ≤ w1.heap.size := (by have hq := hb1.size; (try simp at hq); omega); have hw1 : Below w.heap.size w w1 := bl_call (by repeat (first | exact Below.refl _ _ | assumption | (refine bl_alloc ?_ (Nat.le_refl _) _) | (refine bl_set ?_ (by simp <;> omega) _))) hb1) | (go_at_call 68; (with_reducible refine (power_s2 _).mono ?_); rintro e w1 ⟨rfl, rfl⟩) | (go_at_call 52; (with_reducible refine (l00In_any _ _ _ _).mono ?_); rintro e w1 ⟨rfl, rfl⟩))
    go_ret
    exact ⟨by rw [← HR.out]; rfl, (by repeat (first | exact Below.refl _ _ | assumption | (refine bl_alloc ?_ (Nat.le_refl _) _) | (refine bl_set ?_ (by simp <;> omega) _)))⟩
  · have HR := hide (show putB n (-32768) 65536 2 = ⟨#[]⟩ by rw [putB, if_neg h])
    by_cases h4 : n < -32768
    · go_enter Try.func40, Try.ntmps40
      go_wp2
      go_ret
      exact ⟨by rw [HR.out]; rfl, (by repeat (first | exact Below.refl _ _ | assumption | (refine bl_alloc ?_ (Nat.le_refl _) _) | (refine bl_set ?_ (by simp <;> omega) _)))⟩
    · have h2 : decide (n < -32768) = false := by simp; omega
      have h5 : 65536 ≤ n := by omega
      clear h h4
      go_enter Try.func40, Try.ntmps40
      go_wp2
      go_ret
      exact ⟨by rw [HR.out]; rfl, (by repeat (first | exact Below.refl _ _ | assumption | (refine bl_alloc ?_ (Nat.le_refl _) _) | (refine bl_set ?_ (by simp <;> omega) _)))⟩

theorem mk3 : ∀ w, (Instr.makeSlice 36 (.int .i64 3) (.int .i64 3)).run Try.prog w = .ok (.slice (some ⟨w.heap.size, 0, none⟩) 3 3) (w.alloc (.cells #[.int .u8 0, .int .u8 0, .int .u8 0] 5)) := fun _ => by kernel_rfl
theorem kc3 (x0 x1 x2 : Int) (w : World) : (convert 36 9 (.slice (some ⟨w.heap.size, 0, none⟩) 3 3)).run Try.prog (w.alloc (.cells #[.int .u8 x0, .int .u8 x1, .int .u8 x2] 5)) = .ok (.string (strOfNums [x0, x1, x2])) (w.alloc (.cells #[.int .u8 x0, .int .u8 x1, .int .u8 x2] 5)) :=
  run_convert_bytes_arg _ 36 5 Try.underlying36 Try.underlying5 _ 0 3 3 [x0, x1, x2] rfl (fun i hi => by
    have h : i = 0 ∨ i = 1 ∨ i = 2 := by omega
    rcases h with rfl | rfl | rfl <;> simp [go_sem]) _ Try.underlying9
theorem digs_i3 (n : Int) : strOfNums [IntKind.u64.wrap n / 256 / 256 % 256, IntKind.u64.wrap n / 256 % 256, IntKind.u64.wrap n % 256] = strOfNums (wordL n 3) := by
  have e : wordL n 3 = [n / 256 / 256 % 256, n / 256 % 256, n % 256] := rfl
  rw [e, u64_wrap]
  congr 1
  simp only [List.cons.injEq, and_true]
  omega
theorem digs_s3 (n : Int) : strOfNums [bits BinOp.and IntKind.i64 (n / 256 / 256) 255 % 256, bits BinOp.and IntKind.i64 (n / 256) 255 % 256, bits BinOp.and IntKind.i64 n 255 % 256] = strOfNums (wordL n 3) := by
  have e : wordL n 3 = [n / 256 / 256 % 256, n / 256 % 256, n % 256] := rfl
  rw [e]
  simp only [low_byte]
  congr 1
  simp only [List.cons.injEq, and_true]
  omega
set_option maxRecDepth 100000 in
set_option maxHeartbeats 1000000 in
theorem put_i3 (n : Int) (w : World) : Calls Try.prog 41 #[.int .i64 n, .int .i64 3] w fun e w' => e = .returned (.string (putB n (-8388608) 16777216 3)) ∧ Below w.heap.size w w' := by
  by_cases h : -8388608 ≤ n ∧ n < 16777216
  · have HR := hide (show strOfNums [IntKind.u64.wrap n / 256 / 256 % 256, IntKind.u64.wrap n / 256 % 256, IntKind.u64.wrap n % 256] = putB n (-8388608) 16777216 3 by rw [putB, if_pos h]; exact digs_i3 n)
    have hmk := mk3
    have hkc := kc3
    have h2 : decide (n < -8388608) = false := by simp; omega
    have h3 : decide (16777216 ≤ n) = false := by simp; omega
    clear h
    go_enter Try.func41, Try.ntmps41
    go_wp2
    refine wp_loop_rounds 4 ?_
    rw [rounds_succ]
    go_wp2
    rw [rounds_succ]
    go_wp2
    rw [rounds_succ]
    go_wp2
    rw [rounds_succ]
    go_wp2
    go_ret
    exact ⟨by rw [← HR.out]; rfl, (by repeat (first | exact Below.refl _ _ | assumption | (refine bl_alloc ?_ (Nat.le_refl _) _) | (refine bl_set ?_ (by simp <;> omega) _)))⟩
  · have HR := hide (show putB n (-8388608) 16777216 3 = ⟨#[]⟩ by rw [putB, if_neg h])
    by_cases h4 : n < -8388608
    · go_enter Try.func41, Try.ntmps41
      go_wp2
      go_ret
      exact ⟨by rw [HR.out]; rfl, (by repeat (first | exact Below.refl _ _ | assumption | (refine bl_alloc ?_ (Nat.le_refl _) _) | (refine bl_set ?_ (by simp <;> omega) _)))⟩
    · have h2 : decide (n < -8388608) = false := by simp; omega
      have h5 : 16777216 ≤ n := by omega
      clear h h4
      go_enter Try.func41, Try.ntmps41
      go_wp2
      go_ret
      exact ⟨by rw [HR.out]; rfl, (by repeat (first | exact Below.refl _ _ | assumption | (refine bl_alloc ?_ (Nat.le_refl _) _) | (refine bl_set ?_ (by simp <;> omega) _)))⟩
set_option maxRecDepth 100000 in
set_option maxHeartbeats 1000000 in
theorem word_s3 (n : Int) (w : World) : Calls Try.prog 69 #[.int .i64 n, .int .i64 3] w fun e w' => e = .returned (.string (strOfNums (wordL n 3))) ∧ Below w.heap.size w w' := by
    have HR := hide (digs_s3 n)
    have hmk := mk3
    have hkc := kc3
    go_enter Try.func69, Try.ntmps69
    go_wp2
    refine wp_loop_rounds 4 ?_
    rw [rounds_succ]
    go_wp2
    rw [rounds_succ]
    go_wp2
    rw [rounds_succ]
    go_wp2
    rw [rounds_succ]
    go_wp2
    go_ret
    exact ⟨by rw [← HR.out]; rfl, (by repeat (first | exact Below.refl _ _ | assumption | (refine bl_alloc ?_ (Nat.le_refl _) _) | (refine bl_set ?_ (by simp <;> omega) _)))⟩
theorem power_s3 (w : World) : Calls Try.prog 68 #[.int .i64 3] w fun e w' => e = .returned (.int .i64 16777216) ∧ w = w' := by
  go_enter Try.func68, Try.ntmps68
  go_wp2
  go_ret
  exact ⟨rfl, rfl⟩
set_option maxRecDepth 100000 in
set_option maxHeartbeats 1000000 in
theorem put_s3 (n : Int) (w : World) : Calls Try.prog 40 #[.int .i64 n, .int .i64 3] w fun e w' => e = .returned (.string (putB n (-8388608) 16777216 3)) ∧ Below w.heap.size w w' := by
  by_cases h : -8388608 ≤ n ∧ n < 16777216
  · have HR := hide (show strOfNums (wordL n 3) = putB n (-8388608) 16777216 3 by rw [putB, if_pos h])
    have h2 : decide (n < -8388608) = false := by simp; omega
    have h3 : decide (16777216 ≤ n) = false := by simp; omega
    have h4 : inB 3 1 4 = true := by decide
    clear h
    go_enter Try.func40, Try.ntmps40
    go_wp2_with (first | (go_at_call 69; (with_reducible refine (word_s3 _ _).mono ?_); rintro e w1 ⟨rfl, hb1⟩; obtain ⟨hc1, hf1⟩ := bcell hb1; have hz1 : w.heap.size + 0 ≤ w1.heap.size := (by have hq := hb1.size; (try simp at hq); omega); have hw1 : Below w.heap.size w w1 := bl_call (by repeat (first | exact Below.refl _ _ | assumption | (refine bl_alloc ?_ (Nat.le_refl _) _) | (refine bl_set ?_ (by simp <;> omega) _))) hb1) | (go_at_call 68; (with_reducible refine (power_s3 _).mono ?_); rintro e w1 ⟨rfl, rfl⟩) | (go_at_call 52; (with_reducible refine (l00In_any _ _ _ _).mono ?_); rintro e w1 ⟨rfl, rfl⟩))
    go_ret
    exact ⟨by rw [← HR.out]; rfl, (by repeat (first | exact Below.refl _ _ | assumption | (refine bl_alloc ?_ (Nat.le_refl _) _) | (refine bl_set ?_ (by simp <;> omega) _)))⟩
  · have HR := hide (show putB n (-8388608) 16777216 3 = ⟨#[]⟩ by rw [putB, if_neg h])
    by_cases h4 : n < -8388608
    · go_enter Try.func40, Try.ntmps40
      go_wp2
      go_ret
      exact ⟨by rw [HR.out]; rfl, (by repeat (first | exact Below.refl _ _ | assumption | (refine bl_alloc ?_ (Nat.le_refl _) _) | (refine bl_set ?_ (by simp <;> omega) _)))⟩
    · have h2 : decide (n < -8388608) = false := by simp; omega
      have h5 : 16777216 ≤ n := by omega
      clear h h4
      go_enter Try.func40, Try.ntmps40
      go_wp2
      go_ret
      exact ⟨by rw [HR.out]; rfl, (by repeat (first | exact Below.refl _ _ | assumption | (refine bl_alloc ?_ (Nat.le_refl _) _) | (refine bl_set ?_ (by simp <;> omega) _)))⟩

theorem mk4 : ∀ w, (Instr.makeSlice 36 (.int .i64 4) (.int .i64 4)).run Try.prog w = .ok (.slice (some ⟨w.heap.size, 0, none⟩) 4 4) (w.alloc (.cells #[.int .u8 0, .int .u8 0, .int .u8 0, .int .u8 0] 5)) := fun _ => by kernel_rfl
theorem kc4 (x0 x1 x2 x3 : Int) (w : World) : (convert 36 9 (.slice (some ⟨w.heap.size, 0, none⟩) 4 4)).run Try.prog (w.alloc (.cells #[.int .u8 x0, .int .u8 x1, .int .u8 x2, .int .u8 x3] 5)) = .ok (.string (strOfNums [x0, x1, x2, x3])) (w.alloc (.cells #[.int .u8 x0, .int .u8 x1, .int .u8 x2, .int .u8 x3] 5)) :=
  run_convert_bytes_arg _ 36 5 Try.underlying36 Try.underlying5 _ 0 4 4 [x0, x1, x2, x3] rfl (fun i hi => by
    have h : i = 0 ∨ i = 1 ∨ i = 2 ∨ i = 3 := by omega
    rcases h with rfl | rfl | rfl | rfl <;> simp [go_sem]) _ Try.underlying9
theorem digs_i4 (n : Int) : strOfNums [IntKind.u64.wrap n / 256 / 256 / 256 % 256, IntKind.u64.wrap n / 256 / 256 % 256, IntKind.u64.wrap n / 256 % 256, IntKind.u64.wrap n % 256] = strOfNums (wordL n 4) := by
  have e : wordL n 4 = [n / 256 / 256 / 256 % 256, n / 256 / 256 % 256, n / 256 % 256, n % 256] := rfl
  rw [e, u64_wrap]
  congr 1
  simp only [List.cons.injEq, and_true]
  omega
theorem digs_s4 (n : Int) : strOfNums [bits BinOp.and IntKind.i64 (n / 256 / 256 / 256) 255 % 256, bits BinOp.and IntKind.i64 (n / 256 / 256) 255 % 256, bits BinOp.and IntKind.i64 (n / 256) 255 % 256, bits BinOp.and IntKind.i64 n 255 % 256] = strOfNums (wordL n 4) := by
  have e : wordL n 4 = [n / 256 / 256 / 256 % 256, n / 256 / 256 % 256, n / 256 % 256, n % 256] := rfl
  rw [e]
  simp only [low_byte]
  congr 1
  simp only [List.cons.injEq, and_true]
  omega
set_option maxRecDepth 100000 in
set_option maxHeartbeats 1000000 in
theorem put_i4 (n : Int) (w : World) : Calls Try.prog 41 #[.int .i64 n, .int .i64 4] w fun e w' => e = .returned (.string (putB n (-2147483648) 4294967296 4)) ∧ Below w.heap.size w w' := by
  by_cases h : -2147483648 ≤ n ∧ n < 4294967296
  · have HR := hide (show strOfNums [IntKind.u64.wrap n / 256 / 256 / 256 % 256, IntKind.u64.wrap n / 256 / 256 % 256, IntKind.u64.wrap n / 256 % 256, IntKind.u64.wrap n % 256] = putB n (-2147483648) 4294967296 4 by rw [putB, if_pos h]; exact digs_i4 n)
    have hmk := mk4
    have hkc := kc4
    have h2 : decide (n < -2147483648) = false := by simp; omega
    have h3 : decide (4294967296 ≤ n) = false := by simp; omega
    clear h
    go_enter Try.func41, Try.ntmps41
    go_wp2
    refine wp_loop_rounds 5 ?_
    rw [rounds_succ]
    go_wp2
    rw [rounds_succ]
    go_wp2
    rw [rounds_succ]
    go_wp2
    rw [rounds_succ]
    go_wp2
    rw [rounds_succ]
    go_wp2
    go_ret
    exact ⟨by rw [← HR.out]; rfl, (by repeat (first | exact Below.refl _ _ | assumption | (refine bl_alloc ?_ (Nat.le_refl _) _) | (refine bl_set ?_ (by simp <;> omega) _)))⟩
  · have HR := hide (show putB n (-2147483648) 4294967296 4 = ⟨#[]⟩ by rw [putB, if_neg h])
    by_cases h4 : n < -2147483648
    · go_enter Try.func41, Try.ntmps41
      go_wp2
      go_ret
      exact ⟨by rw [HR.out]; rfl, (by repeat (first | exact Below.refl _ _ | assumption | (refine bl_alloc ?_ (Nat.le_refl _) _) | (refine bl_set ?_ (by simp <;> omega) _)))⟩
    · have h2 : decide (n < -2147483648) = false := by simp; omega
      have h5 : 4294967296 ≤ n := by omega
      clear h h4
      go_enter Try.func41, Try.ntmps41
      go_wp2
      go_ret
      exact ⟨by rw [HR.out]; rfl, (by repeat (first | exact Below.refl _ _ | assumption | (refine bl_alloc ?_ (Nat.le_refl _) _) | (refine bl_set ?_ (by simp <;> omega) _)))⟩
set_option maxRecDepth 100000 in
set_option maxHeartbeats 1000000 in
theorem word_s4 (n : Int) (w : World) : Calls Try.prog 69 #[.int .i64 n, .int .i64 4] w fun e w' => e = .returned (.string (strOfNums (wordL n 4))) ∧ Below w.heap.size w w' := by
    have HR := hide (digs_s4 n)
    have hmk := mk4
    have hkc := kc4
    go_enter Try.func69, Try.ntmps69
    go_wp2
    refine wp_loop_rounds 5 ?_
    rw [rounds_succ]
    go_wp2
    rw [rounds_succ]
    go_wp2
    rw [rounds_succ]
    go_wp2
    rw [rounds_succ]
    go_wp2
    rw [rounds_succ]
    go_wp2
    go_ret
    exact ⟨by rw [← HR.out]; rfl, (by repeat (first | exact Below.refl _ _ | assumption | (refine bl_alloc ?_ (Nat.le_refl _) _) | (refine bl_set ?_ (by simp <;> omega) _)))⟩
theorem power_s4 (w : World) : Calls Try.prog 68 #[.int .i64 4] w fun e w' => e = .returned (.int .i64 4294967296) ∧ w = w' := by
  go_enter Try.func68, Try.ntmps68
  go_wp2
  go_ret
  exact ⟨rfl, rfl⟩
set_option maxRecDepth 100000 in
set_option maxHeartbeats 1000000 in
theorem put_s4 (n : Int) (w : World) : Calls Try.prog 40 #[.int .i64 n, .int .i64 4] w fun e w' => e = .returned (.string (putB n (-2147483648) 4294967296 4)) ∧ Below w.heap.size w w' := by
  by_cases h : -2147483648 ≤ n ∧ n < 4294967296
  · have HR := hide (show strOfNums (wordL n 4) = putB n (-2147483648) 4294967296 4 by rw [putB, if_pos h])
    have h2 : decide (n < -2147483648) = false := by simp; omega
    have h3 : decide (4294967296 ≤ n) = false := by simp; omega
    have h4 : inB 4 1 4 = true := by decide
    clear h
    go_enter Try.func40, Try.ntmps40
    go_wp2_with (first | (go_at_call 69; (with_reducible refine (word_s4 _ _).mono ?_); rintro e w1 ⟨rfl, hb1⟩; obtain ⟨hc1, hf1⟩ := bcell hb1; have hz1 : w.heap.size + 0 ≤ w1.heap.size := (by have hq := hb1.size; (try simp at hq); omega); have hw1 : Below w.heap.size w w1 := bl_call (by repeat (first | exact Below.refl _ _ | assumption | (refine bl_alloc ?_ (Nat.le_refl _) _) | (refine bl_set ?_ (by simp <;> omega) _))) hb1) | (go_at_call 68; (with_reducible refine (power_s4 _).mono ?_); rintro e w1 ⟨rfl, rfl⟩) | (go_at_call 52; (with_reducible refine (l00In_any _ _ _ _).mono ?_); rintro e w1 ⟨rfl, rfl⟩))
    go_ret
    exact ⟨by rw [← HR.out]; rfl, (by repeat (first | exact Below.refl _ _ | assumption | (refine bl_alloc ?_ (Nat.le_refl _) _) | (refine bl_set ?_ (by simp <;> omega) _)))⟩
  · have HR := hide (show putB n (-2147483648) 4294967296 4 = ⟨#[]⟩ by rw [putB, if_neg h])
    by_cases h4 : n < -2147483648
    · go_enter Try.func40, Try.ntmps40
      go_wp2
      go_ret
      exact ⟨by rw [HR.out]; rfl, (by repeat (first | exact Below.refl _ _ | assumption | (refine bl_alloc ?_ (Nat.le_refl _) _) | (refine bl_set ?_ (by simp <;> omega) _)))⟩
    · have h2 : decide (n < -2147483648) = false := by simp; omega
      have h5 : 4294967296 ≤ n := by omega
      clear h h4
      go_enter Try.func40, Try.ntmps40
      go_wp2
      go_ret
      exact ⟨by rw [HR.out]; rfl, (by repeat (first | exact Below.refl _ _ | assumption | (refine bl_alloc ?_ (Nat.le_refl _) _) | (refine bl_set ?_ (by simp <;> omega) _)))⟩

set_option maxHeartbeats 1000000 in
theorem fnPutWord (n b : Int) (_ : (Lit.int .i64 n).wf = true) (_ : (Lit.int .i64 b).wf = true) (w : World) : Calls Try.prog 10 #[.int .i64 n, .int .i64 b] w fun e w' => e = .returned (.bool true) ∧ Below w.heap.size w w' := by
  by_cases h1 : b < 1
  · have h2 : decide (1 ≤ b) = false := by simp; omega
    go_enter Try.func10, Try.ntmps10
    go_wp2
    go_ret
    exact ⟨rfl, (by repeat (first | exact Below.refl _ _ | assumption | (refine bl_alloc ?_ (Nat.le_refl _) _) | (refine bl_set ?_ (by simp <;> omega) _)))⟩
  · by_cases h2 : 4 < b
    · have h3 : decide (b ≤ 4) = false := by simp; omega
      have h4 : 1 ≤ b := by omega
      clear h1
      go_enter Try.func10, Try.ntmps10
      go_wp2
      go_ret
      exact ⟨rfl, (by repeat (first | exact Below.refl _ _ | assumption | (refine bl_alloc ?_ (Nat.le_refl _) _) | (refine bl_set ?_ (by simp <;> omega) _)))⟩
    · have h : b = 1 ∨ b = 2 ∨ b = 3 ∨ b = 4 := by omega
      clear h1 h2
      rcases h with rfl | rfl | rfl | rfl
      · go_enter Try.func10, Try.ntmps10
        go_wp2_with (first | (go_at_call 40; (with_reducible refine (put_s1 _ _).mono ?_); rintro e w1 ⟨rfl, hb1⟩; obtain ⟨hc1, hf1⟩ := bcell hb1; have hz1 : w.heap.size + 0 ≤ w1.heap.size := (by have hq := hb1.size; (try simp at hq); omega); have hw1 : Below w.heap.size w w1 := bl_call (by repeat (first | exact Below.refl _ _ | assumption | (refine bl_alloc ?_ (Nat.le_refl _) _) | (refine bl_set ?_ (by simp <;> omega) _))) hb1) | (go_at_call 41; (with_reducible refine (put_i1 _ _).mono ?_); rintro e w1 ⟨rfl, hb1⟩; obtain ⟨hc1, hf1⟩ := bcell hb1; have hz1 : w.heap.size + 0 ≤ w1.heap.size := (by have hq := hb1.size; (try simp at hq); omega); have hw1 : Below w.heap.size w w1 := bl_call (by repeat (first | exact Below.refl _ _ | assumption | (refine bl_alloc ?_ (Nat.le_refl _) _) | (refine bl_set ?_ (by simp <;> omega) _))) hb1))
        go_ret
        exact ⟨rfl, (by repeat (first | exact Below.refl _ _ | assumption | (refine bl_alloc ?_ (Nat.le_refl _) _) | (refine bl_set ?_ (by simp <;> omega) _)))⟩
      · go_enter Try.func10, Try.ntmps10
        go_wp2_with (first | (go_at_call 40; (with_reducible refine (put_s2 _ _).mono ?_); rintro e w1 ⟨rfl, hb1⟩; obtain ⟨hc1, hf1⟩ := bcell hb1; have hz1 : w.heap.size + 0 ≤ w1.heap.size := (by have hq := hb1.size; (try simp at hq); omega); have hw1 : Below w.heap.size w w1 := bl_call (by repeat (first | exact Below.refl _ _ | assumption | (refine bl_alloc ?_ (Nat.le_refl _) _) | (refine bl_set ?_ (by simp <;> omega) _))) hb1) | (go_at_call 41; (with_reducible refine (put_i2 _ _).mono ?_); rintro e w1 ⟨rfl, hb1⟩; obtain ⟨hc1, hf1⟩ := bcell hb1; have hz1 : w.heap.size + 0 ≤ w1.heap.size := (by have hq := hb1.size; (try simp at hq); omega); have hw1 : Below w.heap.size w w1 := bl_call (by repeat (first | exact Below.refl _ _ | assumption | (refine bl_alloc ?_ (Nat.le_refl _) _) | (refine bl_set ?_ (by simp <;> omega) _))) hb1))
        go_ret
        exact ⟨rfl, (by repeat (first | exact Below.refl _ _ | assumption | (refine bl_alloc ?_ (Nat.le_refl _) _) | (refine bl_set ?_ (by simp <;> omega) _)))⟩
      · go_enter Try.func10, Try.ntmps10
        go_wp2_with (first | (go_at_call 40; (with_reducible refine (put_s3 _ _).mono ?_); rintro e w1 ⟨rfl, hb1⟩; obtain ⟨hc1, hf1⟩ := bcell hb1; have hz1 : w.heap.size + 0 ≤ w1.heap.size := (by have hq := hb1.size; (try simp at hq); omega); have hw1 : Below w.heap.size w w1 := bl_call (by repeat (first | exact Below.refl _ _ | assumption | (refine bl_alloc ?_ (Nat.le_refl _) _) | (refine bl_set ?_ (by simp <;> omega) _))) hb1) | (go_at_call 41; (with_reducible refine (put_i3 _ _).mono ?_); rintro e w1 ⟨rfl, hb1⟩; obtain ⟨hc1, hf1⟩ := bcell hb1; have hz1 : w.heap.size + 0 ≤ w1.heap.size := (by have hq := hb1.size; (try simp at hq); omega); have hw1 : Below w.heap.size w w1 := bl_call (by repeat (first | exact Below.refl _ _ | assumption | (refine bl_alloc ?_ (Nat.le_refl _) _) | (refine bl_set ?_ (by simp <;> omega) _))) hb1))
        go_ret
        exact ⟨rfl, (by repeat (first | exact Below.refl _ _ | assumption | (refine bl_alloc ?_ (Nat.le_refl _) _) | (refine bl_set ?_ (by simp <;> omega) _)))⟩
      · go_enter Try.func10, Try.ntmps10
        go_wp2_with (first | (go_at_call 40; (with_reducible refine (put_s4 _ _).mono ?_); rintro e w1 ⟨rfl, hb1⟩; obtain ⟨hc1, hf1⟩ := bcell hb1; have hz1 : w.heap.size + 0 ≤ w1.heap.size := (by have hq := hb1.size; (try simp at hq); omega); have hw1 : Below w.heap.size w w1 := bl_call (by repeat (first | exact Below.refl _ _ | assumption | (refine bl_alloc ?_ (Nat.le_refl _) _) | (refine bl_set ?_ (by simp <;> omega) _))) hb1) | (go_at_call 41; (with_reducible refine (put_i4 _ _).mono ?_); rintro e w1 ⟨rfl, hb1⟩; obtain ⟨hc1, hf1⟩ := bcell hb1; have hz1 : w.heap.size + 0 ≤ w1.heap.size := (by have hq := hb1.size; (try simp at hq); omega); have hw1 : Below w.heap.size w w1 := bl_call (by repeat (first | exact Below.refl _ _ | assumption | (refine bl_alloc ?_ (Nat.le_refl _) _) | (refine bl_set ?_ (by simp <;> omega) _))) hb1))
        go_ret
        exact ⟨rfl, (by repeat (first | exact Below.refl _ _ | assumption | (refine bl_alloc ?_ (Nat.le_refl _) _) | (refine bl_set ?_ (by simp <;> omega) _)))⟩
end Go.Proofs.Ytooflknjnklglaa

