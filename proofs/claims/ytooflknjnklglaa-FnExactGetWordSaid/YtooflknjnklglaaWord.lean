/-
  CONTRACTS of the functions on words of bytes (Sum32, GetWord; packages spec and impl), and the walks of their laws. The world stays. Conditions: the texts are no longer than the laws let in.
-/
import Derived.Test.YtooflknjnklglaaName
import Derived.Test.YtooflknjnklglaaPt
import Derived.Laws.BitsAllLaws
import Derived.Laws.BitsLemmas
namespace Go.Proofs.Ytooflknjnklglaa
open Go.RowKit Go.Sort
set_option linter.unusedVariables false

theorem ofInt_i64 (a : Nat) (ha : a < 9223372036854775808) : (BitVec.ofInt 64 (a : Int)).toNat = a := by
  rw [BitVec.ofInt_natCast, BitVec.toNat_ofNat]; exact Nat.mod_eq_of_lt (by omega)
theorem i64_and_nat (a b : Nat) (ha : a < 9223372036854775808) (hb : b < 9223372036854775808) : bits .and .i64 (a : Int) (b : Int) = ((a &&& b : Nat) : Int) := by
  have hx : a &&& b < 2 ^ 63 := Nat.and_lt_two_pow _ (by omega)
  show IntKind.i64.wrap ((BitVec.ofInt 64 (a : Int) &&& BitVec.ofInt 64 (b : Int)).toNat : Int) = _
  rw [BitVec.toNat_and, ofInt_i64 a ha, ofInt_i64 b hb, IntKind.wrap_i64]
  omega
theorem i64_or_nat (a b : Nat) (ha : a < 9223372036854775808) (hb : b < 9223372036854775808) : bits .or .i64 (a : Int) (b : Int) = ((a ||| b : Nat) : Int) := by
  have hx : a ||| b < 2 ^ 63 := Nat.or_lt_two_pow (by omega) (by omega)
  show IntKind.i64.wrap ((BitVec.ofInt 64 (a : Int) ||| BitVec.ofInt 64 (b : Int)).toNat : Int) = _
  rw [BitVec.toNat_or, ofInt_i64 a ha, ofInt_i64 b hb, IntKind.wrap_i64]
  omega
/-- a byte behind a number -/
theorem or_byte {m b : Int} (hm0 : 0 ≤ m) (hm1 : m < 16777216) (hb0 : 0 ≤ b) (hb1 : b ≤ 255) : bits .or .i64 (m * 256) b = m * 256 + b := by
  obtain ⟨x, rfl⟩ := Int.eq_ofNat_of_zero_le hm0
  obtain ⟨y, rfl⟩ := Int.eq_ofNat_of_zero_le hb0
  have e : ((x : Int) * 256) = ((x * 256 : Nat) : Int) := by omega
  rw [e, i64_or_nat _ _ (by omega) (by omega)]
  have h := Nat.two_pow_add_eq_or_of_lt (i := 8) (b := y) (by omega) x
  have e2 : x * 256 ||| y = 2 ^ 8 * x ||| y := by rw [Nat.mul_comm x 256]
  rw [e2, ← h]
  omega
theorem and_low {m : Int} (hm0 : 0 ≤ m) (hm1 : m ≤ 9223372036854775807) : bits .and .i64 m 4294967295 = m % 4294967296 := by
  obtain ⟨x, rfl⟩ := Int.eq_ofNat_of_zero_le hm0
  have e : (4294967295 : Int) = ((4294967295 : Nat) : Int) := rfl
  rw [e, i64_and_nat _ _ (by omega) (by omega)]
  have h := Nat.and_two_pow_sub_one_eq_mod x 32
  have h2 : x &&& 4294967295 = x % 4294967296 := h
  rw [h2]
  omega

/-- the sum of a string's numbers of four bytes, of its first k bytes -/
def sumI (s : ByteArray) : Nat → Int
  | 0 => 0
  | k + 1 => sumI s k + byteAt s k * 2 ^ (8 * (3 - k % 4))
theorem pow_bd (k : Nat) : (1 : Int) ≤ 2 ^ (8 * (3 - k % 4)) ∧ (2 : Int) ^ (8 * (3 - k % 4)) ≤ 16777216 := by
  have h : k % 4 = 0 ∨ k % 4 = 1 ∨ k % 4 = 2 ∨ k % 4 = 3 := by omega
  rcases h with h | h | h | h <;> rw [h] <;> decide
theorem term_bd (s : ByteArray) (k : Nat) : 0 ≤ byteAt s k * 2 ^ (8 * (3 - k % 4)) ∧ byteAt s k * 2 ^ (8 * (3 - k % 4)) ≤ 4278190080 := by
  have h := pow_bd k
  have hb := byteAt_bd s k
  refine ⟨Int.mul_nonneg hb.1 (by omega), ?_⟩
  have := Int.mul_le_mul hb.2 h.2 (by omega) (by omega)
  omega
theorem sumI_bd (s : ByteArray) : ∀ k : Nat, 0 ≤ sumI s k ∧ sumI s k ≤ 4278190080 * k
  | 0 => by simp [sumI]
  | k + 1 => by
    have h := sumI_bd s k
    have h2 := term_bd s k
    rw [sumI]
    omega
theorem sum_step {S b p : Int} (h0 : 0 ≤ b) (h1 : b ≤ 255) : (S % 4294967296 + b % 4294967296 * p % 4294967296) % 4294967296 = (S + b * p) % 4294967296 := by
  rw [Int.emod_eq_of_lt (a := b) h0 (by omega)]
  generalize b * p = y
  omega
/-- the number of k bytes of a string from a place on -/
def getI (s : ByteArray) (a : Nat) : Nat → Int
  | 0 => 0
  | k + 1 => getI s a k * 256 + byteAt s (a + k)
theorem getI_bd (s : ByteArray) (a : Nat) : ∀ k : Nat, k ≤ 3 → 0 ≤ getI s a k ∧ getI s a k < 16777216 := by
  intro k hk
  have b0 := byteAt_bd s (a + 0)
  have b1 := byteAt_bd s (a + 1)
  have b2 := byteAt_bd s (a + 2)
  have h : k = 0 ∨ k = 1 ∨ k = 2 ∨ k = 3 := by omega
  rcases h with rfl | rfl | rfl | rfl <;> simp only [getI] <;> omega
/-- may a word of b bytes be read at a place? -/
def getOk (s : ByteArray) (a b : Int) : Bool := decide (1 ≤ b ∧ b ≤ 4 ∧ 0 ≤ a ∧ a ≤ s.size - b)
def getR (s : ByteArray) (a b : Int) : Int := if getOk s a b then getI s a.toNat b.toNat else 0

set_option maxHeartbeats 400000 in
theorem sum32_i (s : ByteArray) (hs : s.size ≤ 1048576) (w : World) : Calls Try.prog 21 #[.string s] w fun e w' => e = .returned (.int .i64 (sumI s s.size % 4294967296)) ∧ w = w' := by
  go_enter Try.func21, Try.ntmps21
  go_wp2
  go_loop [3, 4] (fun n i => ∃ k : Nat, k ≤ s.size ∧ i = .int .i64 k ∧ n = .int .u32 (sumI s k % 4294967296)) (fun _ i => s.size - (intOf i).toNat)
  case atStart => exact ⟨0, Nat.zero_le _, rfl, rfl⟩
  case round =>
    obtain ⟨k, hk, rfl, rfl⟩ := hrel
    by_cases hkn : k < s.size
    · have hb := byteAt_bd s k
      have HS := hide (show (sumI s k % 4294967296 + ((s[k]).toNat : Int) % 4294967296 * 2 ^ (8 * (3 - k % 4)) % 4294967296) % 4294967296 = sumI s (k + 1) % 4294967296 by
        rw [byteAt_eq s k hkn, sum_step hb.1 hb.2]; rfl)
      clear hb
      go_wp2
      go_round
      case rel => exact ⟨k + 1, by omega, by go_num, by rw [HS.out]⟩
      case measure => simp [intOf]; omega
    · obtain rfl : k = s.size := by omega
      have h0 := Int.emod_nonneg (sumI s s.size) (b := 4294967296) (by omega)
      have h1 := Int.emod_lt_of_pos (sumI s s.size) (b := 4294967296) (by omega)
      go_wp2
      go_ret
      exact ⟨ret_int (by first | rfl | (exact IntWalk.wrap64_in _ ⟨by omega, by omega⟩)), rfl⟩
set_option maxHeartbeats 400000 in
theorem sum_s (s : ByteArray) (hs : s.size ≤ 1048576) (w : World) : Calls Try.prog 53 #[.string s] w fun e w' => e = .returned (.int .i64 (sumI s s.size % 4294967296)) ∧ w = w' := by
  go_enter Try.func53, Try.ntmps53
  go_wp2
  go_loop [3, 4] (fun n i => ∃ k : Nat, k ≤ s.size ∧ i = .int .i64 k ∧ n = .int .i64 (sumI s k)) (fun _ i => s.size - (intOf i).toNat)
  case atStart => exact ⟨0, Nat.zero_le _, rfl, rfl⟩
  case round =>
    obtain ⟨k, hk, rfl, rfl⟩ := hrel
    have hsb := sumI_bd s k
    by_cases hkn : k < s.size
    · have ht := term_bd s k
      have hb := byteAt_bd s k
      rw [← byteAt_eq s k hkn] at ht hb
      have HS := hide (show sumI s k + ((s[k]).toNat : Int) * 2 ^ (8 * (3 - k % 4)) = sumI s (k + 1) by rw [byteAt_eq s k hkn]; rfl)
      obtain ⟨ht0, ht1⟩ := ht
      obtain ⟨hs0, hs1⟩ := hsb
      obtain ⟨hb0, hb1⟩ := hb
      go_wp2
      go_round
      case rel => exact ⟨k + 1, by omega, by go_num, by rw [← HS.out]⟩
      case measure => simp [intOf]; omega
    · obtain rfl : k = s.size := by omega
      obtain ⟨hs0, hs1⟩ := hsb
      have HA := hide (and_low (m := sumI s s.size) hs0 (by omega))
      go_wp2
      go_ret
      exact ⟨ret_int HA.out, rfl⟩
set_option maxHeartbeats 400000 in
theorem sum32_s (s : ByteArray) (hs : s.size ≤ 1048576) (w : World) : Calls Try.prog 20 #[.string s] w fun e w' => e = .returned (.int .i64 (sumI s s.size % 4294967296)) ∧ w = w' := by
  go_enter Try.func20, Try.ntmps20
  go_wp2_with (go_at_call 53; (with_reducible refine (sum_s s hs _).mono ?_); rintro e w1 ⟨rfl, rfl⟩)
  go_ret
  exact ⟨rfl, rfl⟩
set_option maxHeartbeats 400000 in
theorem fnSum32 (s : ByteArray) (hs : s.size ≤ maxLen) (w : World) : Calls Try.prog 6 #[.string s] w fun e w' => e = .returned (.bool true) ∧ Below w.heap.size w w' := by
  unfold maxLen at hs
  by_cases h : 1048576 < s.size
  · go_enter Try.func6, Try.ntmps6
    go_wp2
    go_ret
    exact ⟨rfl, (by repeat (first | exact Below.refl _ _ | assumption | (refine bl_alloc ?_ (Nat.le_refl _) _) | (refine bl_set ?_ (by simp <;> omega) _)))⟩
  · have h' : s.size ≤ 1048576 := by omega
    go_enter Try.func6, Try.ntmps6
    go_wp2_with (first | (go_at_call 20; (with_reducible refine (sum32_s s h' _).mono ?_); rintro e w1 ⟨rfl, rfl⟩) | (go_at_call 21; (with_reducible refine (sum32_i s h' _).mono ?_); rintro e w1 ⟨rfl, rfl⟩))
    go_ret
    exact ⟨rfl, (by repeat (first | exact Below.refl _ _ | assumption | (refine bl_alloc ?_ (Nat.le_refl _) _) | (refine bl_set ?_ (by simp <;> omega) _)))⟩
set_option maxHeartbeats 1000000 in
theorem getWord_i (s : ByteArray) (hs : s.size ≤ 1048576) (a b : Int) (hb0 : -9223372036854775808 ≤ b) (w : World) : Calls Try.prog 23 #[.string s, .int .i64 a, .int .i64 b] w fun e w' => e = .returned (.tuple #[.int .i64 (getR s a b), .bool (getOk s a b)]) ∧ w = w' := by
  by_cases h1 : 1 ≤ b
  · by_cases h2 : b ≤ 4
    · by_cases h3 : 0 ≤ a
      · by_cases h4 : a ≤ s.size - b
        · have HO := hide (show getOk s a b = true from decide_eq_true ⟨h1, h2, h3, h4⟩)
          have HR := hide (show getR s a b = getI s a.toNat b.toNat by rw [getR, HO.out]; rfl)
          obtain ⟨x, rfl⟩ := Int.eq_ofNat_of_zero_le h3
          obtain ⟨y, rfl⟩ := Int.eq_ofNat_of_zero_le (show 0 ≤ b by omega)
          have n1 : ¬ (y : Int) < 1 := by omega
          have n2 : ¬ 4 < (y : Int) := by omega
          have n3 : ¬ (x : Int) < 0 := by omega
          have n4 : ¬ (s.size : Int) - y < x := by omega
          go_enter Try.func23, Try.ntmps23
          go_wp2
          clear n1 n2 n3 n4
          go_loop [8, 9] (fun n i => ∃ k : Nat, k ≤ y ∧ i = .int .i64 k ∧ n = .int .i64 (getI s x k)) (fun _ i => y - (intOf i).toNat)
          case atStart => exact ⟨0, Nat.zero_le _, rfl, rfl⟩
          case round =>
            obtain ⟨k, hk, rfl, rfl⟩ := hrel
            by_cases hkn : k < y
            · have hx : x + k < s.size := by omega
              have hg := getI_bd s x k (by omega)
              have hb := byteAt_bd s (x + k)
              have HS := hide (show bits .or .i64 (getI s x k * 256) (wrap64 ((s[x + k]).toNat : Int)) = getI s x (k + 1) by
                rw [byteAt_eq s (x + k) hx, IntWalk.wrap64_in _ ⟨by omega, by omega⟩, or_byte hg.1 hg.2 hb.1 hb.2]; rfl)
              obtain ⟨hg0, hg1⟩ := hg
              clear hb
              go_wp2
              go_round
              case rel => exact ⟨k + 1, by omega, by go_num, by rw [HS.out]⟩
              case measure => simp [intOf]; omega
            · obtain rfl : k = y := by omega
              go_wp2
              go_ret2
              exact ⟨by rw [HO.out, HR.out]; rfl, rfl⟩
        · have HO := hide (show getOk s a b = false from decide_eq_false (fun h => h4 h.2.2.2))
          have HR := hide (show getR s a b = 0 by rw [getR, HO.out]; rfl)
          have n1 : ¬ b < 1 := by omega
          have n2 : ¬ 4 < b := by omega
          have n3 : ¬ a < 0 := by omega
          have n4 : (s.size : Int) - b < a := by omega
          clear h4
          go_enter Try.func23, Try.ntmps23
          go_wp2
          go_ret2
          exact ⟨by rw [HO.out, HR.out]; rfl, rfl⟩
      · have HO := hide (show getOk s a b = false from decide_eq_false (fun h => h3 h.2.2.1))
        have HR := hide (show getR s a b = 0 by rw [getR, HO.out]; rfl)
        have n1 : ¬ b < 1 := by omega
        have n2 : ¬ 4 < b := by omega
        have n3 : a < 0 := by omega
        go_enter Try.func23, Try.ntmps23
        go_wp2
        go_ret2
        exact ⟨by rw [HO.out, HR.out]; rfl, rfl⟩
    · have HO := hide (show getOk s a b = false from decide_eq_false (fun h => h2 h.2.1))
      have HR := hide (show getR s a b = 0 by rw [getR, HO.out]; rfl)
      have n1 : ¬ b < 1 := by omega
      have n2 : 4 < b := by omega
      go_enter Try.func23, Try.ntmps23
      go_wp2
      go_ret2
      exact ⟨by rw [HO.out, HR.out]; rfl, rfl⟩
  · have HO := hide (show getOk s a b = false from decide_eq_false (fun h => h1 h.1))
    have HR := hide (show getR s a b = 0 by rw [getR, HO.out]; rfl)
    have n1 : b < 1 := by omega
    go_enter Try.func23, Try.ntmps23
    go_wp2
    go_ret2
    exact ⟨by rw [HO.out, HR.out]; rfl, rfl⟩
set_option maxHeartbeats 400000 in
theorem l01Get_any (s : ByteArray) (hs : s.size ≤ 1048576) (x y : Nat) (hxy : x + y ≤ s.size) (hy : y ≤ 4) (w : World) : Calls Try.prog 54 #[.string s, .int .i64 x, .int .i64 y] w fun e w' => e = .returned (.int .i64 (getI s x y)) ∧ w = w' := by
  go_enter Try.func54, Try.ntmps54
  go_wp2
  go_loop [7, 8] (fun n i => ∃ k : Nat, k ≤ y ∧ i = .int .i64 k ∧ n = .int .i64 (getI s x k)) (fun _ i => y - (intOf i).toNat)
  case atStart => exact ⟨0, Nat.zero_le _, rfl, rfl⟩
  case round =>
    obtain ⟨k, hk, rfl, rfl⟩ := hrel
    by_cases hkn : k < y
    · have hx : x + k < s.size := by omega
      have hg := getI_bd s x k (by omega)
      have hb := byteAt_bd s (x + k)
      rw [← byteAt_eq s (x + k) hx] at hb
      obtain ⟨hb0, hb1⟩ := hb
      have HS := hide (show 256 * getI s x k + ((s[x + k]).toNat : Int) = getI s x (k + 1) by
        rw [byteAt_eq s (x + k) hx, getI]; omega)
      obtain ⟨hg0, hg1⟩ := hg
      go_wp2
      go_round
      case rel => exact ⟨k + 1, by omega, by go_num, by rw [← HS.out]⟩
      case measure => simp [intOf]; omega
    · obtain rfl : k = y := by omega
      go_wp2
      go_ret
      exact ⟨rfl, rfl⟩
set_option maxHeartbeats 1000000 in
theorem getWord_s (s : ByteArray) (hs : s.size ≤ 1048576) (a b : Int) (w : World) : Calls Try.prog 22 #[.string s, .int .i64 a, .int .i64 b] w fun e w' => e = .returned (.tuple #[.int .i64 (getR s a b), .bool (getOk s a b)]) ∧ w = w' := by
  cases p1 : inB b 1 4
  · have HO := hide (show getOk s a b = false from decide_eq_false (fun h => inB_f p1 ⟨h.1, h.2.1⟩))
    have HR := hide (show getR s a b = 0 by rw [getR, HO.out]; rfl)
    go_enter Try.func22, Try.ntmps22
    go_wp2_with (go_at_call 52; (with_reducible refine (l00In_any _ _ _ _).mono ?_); rintro e w1 ⟨rfl, rfl⟩)
    go_ret2
    exact ⟨by rw [HO.out, HR.out]; rfl, rfl⟩
  · obtain ⟨b1, b2⟩ := inB_t p1
    cases p2 : inB a 0 ((s.size : Int) - b)
    · have HO := hide (show getOk s a b = false from decide_eq_false (fun h => inB_f p2 ⟨h.2.2.1, h.2.2.2⟩))
      have HR := hide (show getR s a b = 0 by rw [getR, HO.out]; rfl)
      go_enter Try.func22, Try.ntmps22
      go_wp2_with (go_at_call 52; (with_reducible refine (l00In_any _ _ _ _).mono ?_); rintro e w1 ⟨rfl, rfl⟩)
      go_ret2
      exact ⟨by rw [HO.out, HR.out]; rfl, rfl⟩
    · obtain ⟨b3, b4⟩ := inB_t p2
      have HO := hide (show getOk s a b = true from decide_eq_true ⟨b1, b2, b3, b4⟩)
      have HR := hide (show getR s a b = getI s a.toNat b.toNat by rw [getR, HO.out]; rfl)
      obtain ⟨x, rfl⟩ := Int.eq_ofNat_of_zero_le b3
      obtain ⟨y, rfl⟩ := Int.eq_ofNat_of_zero_le (show 0 ≤ b by omega)
      go_enter Try.func22, Try.ntmps22
      go_wp2_with (first | (go_at_call 52; (with_reducible refine (l00In_any _ _ _ _).mono ?_); rintro e w1 ⟨rfl, rfl⟩) | (go_at_call 54; (with_reducible refine (l01Get_any s hs x y (by omega) (by omega) _).mono ?_); rintro e w1 ⟨rfl, rfl⟩))
      go_ret2
      exact ⟨by rw [HO.out, HR.out]; rfl, rfl⟩
set_option maxHeartbeats 400000 in
theorem fnGetWord (s : ByteArray) (a b : Int) (hs : s.size ≤ maxLen) (wa : (Lit.int .i64 a).wf = true) (wb : (Lit.int .i64 b).wf = true) (w : World) : Calls Try.prog 7 #[.string s, .int .i64 a, .int .i64 b] w fun e w' => e = .returned (.bool true) ∧ Below w.heap.size w w' := by
  unfold maxLen at hs
  obtain ⟨hb0, hb1⟩ := wf64 wb
  by_cases h : 1048576 < s.size
  · go_enter Try.func7, Try.ntmps7
    go_wp2
    go_ret
    exact ⟨rfl, (by repeat (first | exact Below.refl _ _ | assumption | (refine bl_alloc ?_ (Nat.le_refl _) _) | (refine bl_set ?_ (by simp <;> omega) _)))⟩
  · have h' : s.size ≤ 1048576 := by omega
    go_enter Try.func7, Try.ntmps7
    go_wp2_with (first | (go_at_call 22; (with_reducible refine (getWord_s s h' a b _).mono ?_); rintro e w1 ⟨rfl, rfl⟩) | (go_at_call 23; (with_reducible refine (getWord_i s h' a b hb0 _).mono ?_); rintro e w1 ⟨rfl, rfl⟩))
    go_ret
    exact ⟨rfl, (by repeat (first | exact Below.refl _ _ | assumption | (refine bl_alloc ?_ (Nat.le_refl _) _) | (refine bl_set ?_ (by simp <;> omega) _)))⟩
end Go.Proofs.Ytooflknjnklglaa
