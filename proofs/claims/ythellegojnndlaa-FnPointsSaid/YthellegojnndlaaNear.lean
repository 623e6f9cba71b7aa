/-
  CONTRACTS of the functions that tell whether a point is near a segment (packages impl and spec; the wide products on which they lean), and the plain law that both ways tell the same. Conditions: the points of the helpers are valid; the radius is a coordinate's size.
-/
import Derived.Test.YthellegojnndlaaTurn
import Derived.Shelf.Bits.Mul64
import Derived.Lib.Agree
import Derived.KernelRfl
import Derived.Laws.BitsLemmas
namespace Go.Proofs.Ythellegojnndlaa
open Go.RowKit Go.Sort Go.Shelf
set_option linter.unusedVariables false

def mulRen : Go.Shelf.Ren := ⟨fun | 264 => 128 | n => n, fun | 53 => 109 | 46 => 124 | n => n, fun n => n⟩
theorem mulLays : Lays.n264 Try.prog mulRen := {
  mixed := by kernel_rfl
  f264 := Try.func128.trans (congrArg some (by kernel_rfl))
  t46 := Try.underlying124
  a46 := Try.isAgg124
  z46 := Try.sizeOf124
  v46 := Try.zeroValue124
  t53 := Try.underlying109
  a53 := Try.isAgg109
  z53 := Try.sizeOf109
  v53 := Try.zeroValue109 }
theorem mul64_any (x y : Nat) (hx : x < 18446744073709551616) (hy : y < 18446744073709551616) (w : World) :
    Calls Try.prog 128 #[.int .u64 x, .int .u64 y] w fun e w' => e = .returned (.tuple #[.int .u64 ((x * y / 18446744073709551616 : Nat) : Int), .int .u64 ((x * y % 18446744073709551616 : Nat) : Int)]) ∧ w' = w := Any.bits_Mul64 mulLays x y hx hy w

attribute [local go_sem] cell_grow frozen_grow

theorem u64_of (x : Int) (h0 : 0 ≤ x) (h1 : x < 18446744073709551616) : IntKind.u64.wrap x = x := by rw [IntKind.wrap_u64]; omega
theorem mul64_int (x y : Int) (hx0 : 0 ≤ x) (hx1 : x < 18446744073709551616) (hy0 : 0 ≤ y) (hy1 : y < 18446744073709551616) (w : World) :
    Calls Try.prog 128 #[.int .u64 x, .int .u64 y] w fun e w' => e = .returned (.tuple #[.int .u64 (x * y / 18446744073709551616), .int .u64 (x * y % 18446744073709551616)]) ∧ w = w' := by
  obtain ⟨a, rfl⟩ := Int.eq_ofNat_of_zero_le hx0
  obtain ⟨b, rfl⟩ := Int.eq_ofNat_of_zero_le hy0
  refine (mul64_any a b (by omega) (by omega) w).mono ?_
  rintro e w' ⟨rfl, rfl⟩
  refine ⟨?_, rfl⟩
  simp [Int.natCast_ediv, Int.natCast_emod]

/-- a product at most another one -/
def pamB (a b c d : Int) : Bool := decide (a * b ≤ c * d)
theorem pam_t1 {x y M : Int} (hM : 0 < M) (h : x / M < y / M) : x ≤ y := by
  have h1 := Int.mul_ediv_add_emod x M
  have h2 := Int.mul_ediv_add_emod y M
  have h3 := Int.emod_lt_of_pos x hM
  have h4 := Int.emod_nonneg y (b := M) (by omega)
  have h5 : M * (x / M + 1) ≤ M * (y / M) := Int.mul_le_mul_of_nonneg_left (by omega) (by omega)
  rw [Int.mul_add] at h5
  omega
theorem pam_t2 {x y M : Int} (hM : 0 < M) (h : y / M < x / M) : ¬ x ≤ y := by
  have h1 := Int.mul_ediv_add_emod x M
  have h2 := Int.mul_ediv_add_emod y M
  have h3 := Int.emod_lt_of_pos y hM
  have h4 := Int.emod_nonneg x (b := M) (by omega)
  have h5 : M * (y / M + 1) ≤ M * (x / M) := Int.mul_le_mul_of_nonneg_left (by omega) (by omega)
  rw [Int.mul_add] at h5
  omega
theorem pam_t3 {x y M : Int} (h : x / M = y / M) : x ≤ y ↔ x % M ≤ y % M := by
  have h1 := Int.mul_ediv_add_emod x M
  have h2 := Int.mul_ediv_add_emod y M
  rw [h] at h1
  omega

set_option maxHeartbeats 1000000 in
theorem productAtMost_any (a b c d : Int) (a0 : 0 ≤ a) (a1 : a ≤ 1000000000000000000) (b0 : 0 ≤ b) (b1 : b ≤ 1000000000000000000) (c0 : 0 ≤ c) (c1 : c ≤ 1000000000000000000) (d0 : 0 ≤ d) (d1 : d ≤ 1000000000000000000) (w : World) :
    Calls Try.prog 103 #[.int .i64 a, .int .i64 b, .int .i64 c, .int .i64 d] w fun e w' => e = .returned (.bool (pamB a b c d)) ∧ w = w' := by
  rcases Int.lt_trichotomy (a * b / 18446744073709551616) (c * d / 18446744073709551616) with h | h | h
  · have HR := hide (show pamB a b c d = true from decide_eq_true (pam_t1 (by omega) h))
    go_enter Try.func103, Try.ntmps103
    go_wp2_with (first | (go_at_call 128; (with_reducible refine (mul64_int a b a0 (by omega) b0 (by omega) _).mono ?_); rintro e w1 ⟨rfl, rfl⟩) | (go_at_call 128; (with_reducible refine (mul64_int c d c0 (by omega) d0 (by omega) _).mono ?_); rintro e w1 ⟨rfl, rfl⟩))
    go_ret
    exact ⟨ret_bool HR.out.symm, rfl⟩
  · have HR := hide (show pamB a b c d = decide (a * b % 18446744073709551616 ≤ c * d % 18446744073709551616) by unfold pamB; rw [Bool.eq_iff_iff]; simp only [decide_eq_true_eq]; exact pam_t3 h)
    by_cases h2 : a * b % 18446744073709551616 ≤ c * d % 18446744073709551616
    · rw [decide_eq_true h2] at HR
      go_enter Try.func103, Try.ntmps103
      go_wp2_with (first | (go_at_call 128; (with_reducible refine (mul64_int a b a0 (by omega) b0 (by omega) _).mono ?_); rintro e w1 ⟨rfl, rfl⟩) | (go_at_call 128; (with_reducible refine (mul64_int c d c0 (by omega) d0 (by omega) _).mono ?_); rintro e w1 ⟨rfl, rfl⟩))
      go_ret
      exact ⟨ret_bool HR.out.symm, rfl⟩
    · rw [decide_eq_false h2] at HR
      go_enter Try.func103, Try.ntmps103
      go_wp2_with (first | (go_at_call 128; (with_reducible refine (mul64_int a b a0 (by omega) b0 (by omega) _).mono ?_); rintro e w1 ⟨rfl, rfl⟩) | (go_at_call 128; (with_reducible refine (mul64_int c d c0 (by omega) d0 (by omega) _).mono ?_); rintro e w1 ⟨rfl, rfl⟩))
      go_ret
      exact ⟨ret_bool (by rw [HR.out]; try exact decide_eq_false (by omega)), rfl⟩
  · have HR := hide (show pamB a b c d = false from decide_eq_false (pam_t2 (by omega) h))
    go_enter Try.func103, Try.ntmps103
    go_wp2_with (first | (go_at_call 128; (with_reducible refine (mul64_int a b a0 (by omega) b0 (by omega) _).mono ?_); rintro e w1 ⟨rfl, rfl⟩) | (go_at_call 128; (with_reducible refine (mul64_int c d c0 (by omega) d0 (by omega) _).mono ?_); rintro e w1 ⟨rfl, rfl⟩))
    go_ret
    exact ⟨ret_bool (by rw [HR.out]; try exact decide_eq_false (by omega)), rfl⟩
theorem and31 (x : Int) (h0 : 0 ≤ x) (h1 : x < 9223372036854775808) : bits .and .i64 x 2147483647 = x % 2147483648 :=
  bits_mask .i64 63 (by decide) (fun n h0 h1 => by rw [show (2 : Int) ^ 63 = 9223372036854775808 from by decide] at h1; rw [IntKind.wrap_i64]; omega) 31 (by decide) x h0 h1
theorem or31 (x y : Int) (h0 : 0 ≤ x) (h1 : x < 2147483648) (h2 : 0 ≤ y) (h3 : y < 2147483648) : bits .or .i64 (x * 2147483648) y = x * 2147483648 + y :=
  bits_join .i64 63 (by decide) (fun n h0 h1 => by rw [show (2 : Int) ^ 63 = 9223372036854775808 from by decide] at h1; rw [IntKind.wrap_i64]; omega) 31 _ _ (by omega) (by show _ % 2147483648 = _; omega) (by show _ < 9223372036854775808; omega) h2 (by show _ < 2147483648; omega) (by show _ < 9223372036854775808; omega)
theorem wide_eq {a b p q X : Int} (hp : p = a / 2147483648 * (b / 2147483648)) (hq : q = a / 2147483648 * (b % 2147483648) + a % 2147483648 * (b / 2147483648)) (hX : X = a % 2147483648 * (b % 2147483648)) : a * b = p * 4611686018427387904 + q * 2147483648 + X := by
  have h1 := Int.mul_ediv_add_emod a 2147483648
  have h2 := Int.mul_ediv_add_emod b 2147483648
  generalize a / 2147483648 = a1 at *
  generalize a % 2147483648 = a0 at *
  generalize b / 2147483648 = b1 at *
  generalize b % 2147483648 = b0 at *
  subst hp hq hX h1 h2
  grind
set_option maxHeartbeats 1000000 in
theorem l03Wide_any (a b : Int) (a0 : 0 ≤ a) (a1 : a ≤ 1000000000000000000) (b0 : 0 ≤ b) (b1 : b ≤ 1000000000000000000) (w : World) :
    Calls Try.prog 127 #[.int .i64 a, .int .i64 b] w fun e w' => e = .returned (.tuple #[.int .i64 (a * b / 4611686018427387904), .int .i64 (a * b % 4611686018427387904)]) ∧ w = w' := by
  have he := wide_eq (a := a) (b := b) rfl rfl rfl
  have m1 := and31 a a0 (by omega)
  have m2 := and31 b b0 (by omega)
  have k1 := mul_bd (a / 2147483648) (b / 2147483648) 500000000 500000000 (by omega) (by omega) (by omega) (by omega)
  have k2 := mul_bd (a / 2147483648) (b % 2147483648) 500000000 2147483648 (by omega) (by omega) (by omega) (by omega)
  have k3 := mul_bd (a % 2147483648) (b / 2147483648) 2147483648 500000000 (by omega) (by omega) (by omega) (by omega)
  have k4 := mul_bd (a % 2147483648) (b % 2147483648) 2147483647 2147483647 (by omega) (by omega) (by omega) (by omega)
  have n1 := Int.mul_nonneg (a := a / 2147483648) (b := b / 2147483648) (by omega) (by omega)
  have n2 := Int.mul_nonneg (a := a / 2147483648) (b := b % 2147483648) (by omega) (by omega)
  have n3 := Int.mul_nonneg (a := a % 2147483648) (b := b / 2147483648) (by omega) (by omega)
  have n4 := Int.mul_nonneg (a := a % 2147483648) (b := b % 2147483648) (by omega) (by omega)
  obtain ⟨_, k1⟩ := k1
  obtain ⟨_, k2⟩ := k2
  obtain ⟨_, k3⟩ := k3
  obtain ⟨_, k4⟩ := k4
  simp only [Nat.reduceMul, Int.cast_ofNat_Int] at k1 k2 k3 k4
  have m3 := and31 (a / 2147483648 * (b % 2147483648) + a % 2147483648 * (b / 2147483648) + a % 2147483648 * (b % 2147483648) / 2147483648) (by omega) (by omega)
  have m4 := and31 (a % 2147483648 * (b % 2147483648)) (by omega) (by omega)
  have m5 := or31 ((a / 2147483648 * (b % 2147483648) + a % 2147483648 * (b / 2147483648) + a % 2147483648 * (b % 2147483648) / 2147483648) % 2147483648) (a % 2147483648 * (b % 2147483648) % 2147483648) (by omega) (by omega) (by omega) (by omega)
  have e1 := hide (show a * b / 4611686018427387904 = a / 2147483648 * (b / 2147483648) + (a / 2147483648 * (b % 2147483648) + a % 2147483648 * (b / 2147483648) + a % 2147483648 * (b % 2147483648) / 2147483648) / 2147483648 by omega)
  have e2 := hide (show a * b % 4611686018427387904 = (a / 2147483648 * (b % 2147483648) + a % 2147483648 * (b / 2147483648) + a % 2147483648 * (b % 2147483648) / 2147483648) % 2147483648 * 2147483648 + a % 2147483648 * (b % 2147483648) % 2147483648 by omega)
  clear he
  go_enter Try.func127, Try.ntmps127
  go_wp2
  refine bodyPost_ret (v := .tuple #[.int .i64 (a * b / 4611686018427387904), .int .i64 (a * b % 4611686018427387904)]) ?_ rfl ⟨rfl, rfl⟩
  rw [e1.out, e2.out]
  simp [results, Try.results127, go_sem, *]
set_option maxHeartbeats 1000000 in
theorem l03Less_any (a b c d : Int) (a0 : 0 ≤ a) (a1 : a ≤ 1000000000000000000) (b0 : 0 ≤ b) (b1 : b ≤ 1000000000000000000) (c0 : 0 ≤ c) (c1 : c ≤ 1000000000000000000) (d0 : 0 ≤ d) (d1 : d ≤ 1000000000000000000) (w : World) :
    Calls Try.prog 102 #[.int .i64 a, .int .i64 b, .int .i64 c, .int .i64 d] w fun e w' => e = .returned (.bool (pamB a b c d)) ∧ w = w' := by
  rcases Int.lt_trichotomy (a * b / 4611686018427387904) (c * d / 4611686018427387904) with h | h | h
  · have HR := hide (show pamB a b c d = true from decide_eq_true (pam_t1 (by omega) h))
    go_enter Try.func102, Try.ntmps102
    go_wp2_with (first | (go_at_call 127; (with_reducible refine (l03Wide_any a b a0 a1 b0 b1 _).mono ?_); rintro e w1 ⟨rfl, rfl⟩) | (go_at_call 127; (with_reducible refine (l03Wide_any c d c0 c1 d0 d1 _).mono ?_); rintro e w1 ⟨rfl, rfl⟩))
    go_ret
    exact ⟨ret_bool HR.out.symm, rfl⟩
  · have HR := hide (show pamB a b c d = decide (a * b % 4611686018427387904 ≤ c * d % 4611686018427387904) by unfold pamB; rw [Bool.eq_iff_iff]; simp only [decide_eq_true_eq]; exact pam_t3 h)
    by_cases h2 : a * b % 4611686018427387904 ≤ c * d % 4611686018427387904
    · rw [decide_eq_true h2] at HR
      go_enter Try.func102, Try.ntmps102
      go_wp2_with (first | (go_at_call 127; (with_reducible refine (l03Wide_any a b a0 a1 b0 b1 _).mono ?_); rintro e w1 ⟨rfl, rfl⟩) | (go_at_call 127; (with_reducible refine (l03Wide_any c d c0 c1 d0 d1 _).mono ?_); rintro e w1 ⟨rfl, rfl⟩))
      go_ret
      exact ⟨ret_bool HR.out.symm, rfl⟩
    · rw [decide_eq_false h2] at HR
      go_enter Try.func102, Try.ntmps102
      go_wp2_with (first | (go_at_call 127; (with_reducible refine (l03Wide_any a b a0 a1 b0 b1 _).mono ?_); rintro e w1 ⟨rfl, rfl⟩) | (go_at_call 127; (with_reducible refine (l03Wide_any c d c0 c1 d0 d1 _).mono ?_); rintro e w1 ⟨rfl, rfl⟩))
      go_ret
      exact ⟨ret_bool (by rw [HR.out]; try exact decide_eq_false (by omega)), rfl⟩
  · have HR := hide (show pamB a b c d = false from decide_eq_false (pam_t2 (by omega) h))
    go_enter Try.func102, Try.ntmps102
    go_wp2_with (first | (go_at_call 127; (with_reducible refine (l03Wide_any a b a0 a1 b0 b1 _).mono ?_); rintro e w1 ⟨rfl, rfl⟩) | (go_at_call 127; (with_reducible refine (l03Wide_any c d c0 c1 d0 d1 _).mono ?_); rintro e w1 ⟨rfl, rfl⟩))
    go_ret
    exact ⟨ret_bool (by rw [HR.out]; try exact decide_eq_false (by omega)), rfl⟩
/-- how far a point's foot lies along a segment -/
def dot (a b c d e f : Int) : Int := (e - a) * (c - a) + (f - b) * (d - b)
/-- near a segment -/
def nearB (a b c d e f r : Int) : Bool :=
  if dot a b c d e f ≤ 0 then decide (dsq a b e f ≤ r * r)
  else if dsq a b c d ≤ dot a b c d e f then decide (dsq c d e f ≤ r * r)
  else decide (tn a b c d e f * tn a b c d e f ≤ r * r * dsq a b c d)
def nearR (a b c d e f r : Int) : Bool := okPt a b && okPt c d && okPt e f && decide (0 ≤ r) && decide (r ≤ 262144) && nearB a b c d e f r
theorem dsq_nn (a b c d : Int) : 0 ≤ dsq a b c d := by
  have h1 := sq_nn (c - a)
  have h2 := sq_nn (d - b)
  unfold dsq; omega
theorem cosine (a b c d e f : Int) : dsq c d e f = dsq a b e f - 2 * dot a b c d e f + dsq a b c d := by unfold dsq dot; grind
theorem lagrange1 (a b c d e f : Int) : tn a b c d e f * tn a b c d e f + dot a b c d e f * dot a b c d e f = dsq a b e f * dsq a b c d := by unfold dsq dot tn; grind
theorem lagrange2 (a b c d e f : Int) : tn a b c d e f * tn a b c d e f + (dsq a b c d - dot a b c d e f) * (dsq a b c d - dot a b c d e f) = dsq c d e f * dsq a b c d := by unfold dsq dot tn; grind
theorem near_true {a b c d e f r : Int} (h : dsq a b e f ≤ r * r ∨ dsq c d e f ≤ r * r) : nearB a b c d e f r = true := by
  have h1 := cosine a b c d e f
  have h2 := dsq_nn a b c d
  unfold nearB
  split
  · exact decide_eq_true (by omega)
  · split
    · exact decide_eq_true (by omega)
    · apply decide_eq_true
      rcases h with h | h
      · have h3 := lagrange1 a b c d e f
        have h4 := sq_nn (dot a b c d e f)
        have h5 := Int.mul_le_mul_of_nonneg_right h h2
        omega
      · have h3 := lagrange2 a b c d e f
        have h4 := sq_nn (dsq a b c d - dot a b c d e f)
        have h5 := Int.mul_le_mul_of_nonneg_right h h2
        omega
theorem near_false {a b c d e f r : Int} (h1 : ¬ dsq a b e f ≤ r * r) (h2 : ¬ dsq c d e f ≤ r * r) (h : dot a b c d e f ≤ 0 ∨ dsq a b c d ≤ dot a b c d e f) : nearB a b c d e f r = false := by
  unfold nearB
  split
  · exact decide_eq_false h1
  · rw [if_pos (by omega)]; exact decide_eq_false h2
theorem near_mid {a b c d e f r : Int} (h1 : ¬ dot a b c d e f ≤ 0) (h2 : ¬ dsq a b c d ≤ dot a b c d e f) : nearB a b c d e f r = decide (tn a b c d e f * tn a b c d e f ≤ r * r * dsq a b c d) := by
  unfold nearB; rw [if_neg h1, if_neg h2]
theorem near_lo {a b c d e f r : Int} (h1 : dot a b c d e f ≤ 0) : nearB a b c d e f r = decide (dsq a b e f ≤ r * r) := by
  unfold nearB; rw [if_pos h1]
theorem near_hi {a b c d e f r : Int} (h1 : ¬ dot a b c d e f ≤ 0) (h2 : dsq a b c d ≤ dot a b c d e f) : nearB a b c d e f r = decide (dsq c d e f ≤ r * r) := by
  unfold nearB; rw [if_neg h1, if_pos h2]
theorem dot_bd {a b c d e f : Int} (h1 : okPt a b = true) (h2 : okPt c d = true) (h3 : okPt e f = true) : -274877906944 ≤ (e - a) * (c - a) ∧ (e - a) * (c - a) ≤ 274877906944 ∧ -274877906944 ≤ (f - b) * (d - b) ∧ (f - b) * (d - b) ≤ 274877906944 := by
  obtain ⟨a0, a1, b0, b1⟩ := okPt_t h1
  obtain ⟨c0, c1, d0, d1⟩ := okPt_t h2
  obtain ⟨e0, e1, f0, f1⟩ := okPt_t h3
  have h4 := mul_bd (e - a) (c - a) 524288 524288 (by omega) (by omega) (by omega) (by omega)
  have h5 := mul_bd (f - b) (d - b) 524288 524288 (by omega) (by omega) (by omega) (by omega)
  omega
theorem tn_abs {a b c d e f : Int} (h1 : okPt a b = true) (h2 : okPt c d = true) (h3 : okPt e f = true) : -549755813888 ≤ tn a b c d e f ∧ tn a b c d e f ≤ 549755813888 := by
  have := tn_bd h1 h2 h3
  unfold tn; omega
theorem dsq_hi {a b c d : Int} (h1 : okPt a b = true) (h2 : okPt c d = true) : dsq a b c d ≤ 549755813888 := by
  have := dsq_bd h1 h2
  unfold dsq; omega
theorem rr_bd {r : Int} (h0 : 0 ≤ r) (h1 : r ≤ 262144) : 0 ≤ r * r ∧ r * r ≤ 68719476736 := by
  have h3 := mul_bd r r 262144 262144 (by omega) (by omega) (by omega) (by omega)
  exact ⟨sq_nn r, by omega⟩
theorem pam_neg (s m l : Int) : pamB (-s) (-s) m l = decide (s * s ≤ m * l) := by unfold pamB; rw [Int.neg_mul_neg]
theorem dot_eq (a b c d e f : Int) : (e - a) * (c - a) + (f - b) * (d - b) = dot a b c d e f := rfl

set_option maxHeartbeats 2000000 in
theorem nearSegment_any (a b c d e f r : Int) (h1 : okPt a b = true) (h2 : okPt c d = true) (h3 : okPt e f = true) (r0 : 0 ≤ r) (r1 : r ≤ 262144) (w : World) : Calls Try.prog 63 #[.agg #[.int .i64 a, .int .i64 b], .agg #[.int .i64 c, .int .i64 d], .agg #[.int .i64 e, .int .i64 f], .int .i64 r] w fun E w' => E = .returned (.bool (nearB a b c d e f r)) ∧ Below w.heap.size w w' := by
  obtain ⟨a0, a1, b0, b1⟩ := okPt_t h1
  obtain ⟨c0, c1, d0, d1⟩ := okPt_t h2
  obtain ⟨e0, e1, f0, f1⟩ := okPt_t h3
  obtain ⟨p0, p1, p2, p3⟩ := dot_bd h1 h2 h3
  obtain ⟨t0, t1⟩ := tn_abs h1 h2 h3
  have l0 := dsq_nn a b c d
  have l1 := dsq_hi h1 h2
  obtain ⟨q0, q1⟩ := rr_bd r0 r1
  by_cases g1 : dot a b c d e f ≤ 0
  · have HR := hide (near_lo (r := r) g1)
    have g2 : (e - a) * (c - a) + (f - b) * (d - b) ≤ 0 := g1
    clear g1
    go_enter Try.func63, Try.ntmps63
    go_wp2_with (first | (go_at_call 96; (with_reducible refine (distSq_any _ _ _ _ h1 h2 _).mono ?_); rintro e w1 ⟨rfl, hb1⟩; obtain ⟨hc1, hf1⟩ := bcell hb1; have hw1 : Below w.heap.size w w1 := bl_call (by repeat (first | exact Below.refl _ _ | assumption | (refine bl_alloc ?_ (Nat.le_refl _) _) | (refine bl_set ?_ (by simp <;> omega) _))) hb1; have hz1 : w.heap.size + 3 ≤ w1.heap.size := (by have hq := hb1.size; have hr := hw1.size; (try simp at hq); omega); have hza : w.heap.size < w1.heap.size := (by omega); have hzb : w.heap.size + 1 < w1.heap.size := (by omega); have hzc : w.heap.size + 1 + 1 < w1.heap.size := (by omega); have hz4 := hb1.size; (try simp at hz4); (try have hz5 := Nat.lt_of_succ_le hz4)) | (go_at_call 96; (with_reducible refine (distSq_any _ _ _ _ h1 h3 _).mono ?_); rintro e w1 ⟨rfl, hb1⟩; obtain ⟨hc1, hf1⟩ := bcell hb1; have hw1 : Below w.heap.size w w1 := bl_call (by repeat (first | exact Below.refl _ _ | assumption | (refine bl_alloc ?_ (Nat.le_refl _) _) | (refine bl_set ?_ (by simp <;> omega) _))) hb1; have hz1 : w.heap.size + 3 ≤ w1.heap.size := (by have hq := hb1.size; have hr := hw1.size; (try simp at hq); omega); have hza : w.heap.size < w1.heap.size := (by omega); have hzb : w.heap.size + 1 < w1.heap.size := (by omega); have hzc : w.heap.size + 1 + 1 < w1.heap.size := (by omega); have hz4 := hb1.size; (try simp at hz4); (try have hz5 := Nat.lt_of_succ_le hz4)))
    all_goals
      go_ret
      exact ⟨ret_bool (by rw [HR.out]), (by repeat (first | exact Below.refl _ _ | assumption | (refine bl_alloc ?_ (Nat.le_refl _) _) | (refine bl_set ?_ (by simp <;> omega) _)))⟩
  · by_cases g3 : dsq a b c d ≤ dot a b c d e f
    · have HR := hide (near_hi (r := r) g1 g3)
      have g2 : ¬ (e - a) * (c - a) + (f - b) * (d - b) ≤ 0 := g1
      have g4 : dsq a b c d ≤ (e - a) * (c - a) + (f - b) * (d - b) := g3
      clear g1 g3
      go_enter Try.func63, Try.ntmps63
      go_wp2_with (first | (go_at_call 96; (with_reducible refine (distSq_any _ _ _ _ h1 h2 _).mono ?_); rintro e w1 ⟨rfl, hb1⟩; obtain ⟨hc1, hf1⟩ := bcell hb1; have hw1 : Below w.heap.size w w1 := bl_call (by repeat (first | exact Below.refl _ _ | assumption | (refine bl_alloc ?_ (Nat.le_refl _) _) | (refine bl_set ?_ (by simp <;> omega) _))) hb1; have hz1 : w.heap.size + 3 ≤ w1.heap.size := (by have hq := hb1.size; have hr := hw1.size; (try simp at hq); omega); have hza : w.heap.size < w1.heap.size := (by omega); have hzb : w.heap.size + 1 < w1.heap.size := (by omega); have hzc : w.heap.size + 1 + 1 < w1.heap.size := (by omega); have hz4 := hb1.size; (try simp at hz4); (try have hz5 := Nat.lt_of_succ_le hz4)) | (go_at_call 96; (with_reducible refine (distSq_any _ _ _ _ h2 h3 _).mono ?_); rintro e w1 ⟨rfl, hb1⟩; obtain ⟨hc1, hf1⟩ := bcell hb1; have hw1 : Below w.heap.size w w1 := bl_call (by repeat (first | exact Below.refl _ _ | assumption | (refine bl_alloc ?_ (Nat.le_refl _) _) | (refine bl_set ?_ (by simp <;> omega) _))) hb1; have hz1 : w.heap.size + 3 ≤ w1.heap.size := (by have hq := hb1.size; have hr := hw1.size; (try simp at hq); omega); have hza : w.heap.size < w1.heap.size := (by omega); have hzb : w.heap.size + 1 < w1.heap.size := (by omega); have hzc : w.heap.size + 1 + 1 < w1.heap.size := (by omega); have hz4 := hb1.size; (try simp at hz4); (try have hz5 := Nat.lt_of_succ_le hz4)))
      all_goals
        go_ret
        exact ⟨ret_bool (by rw [HR.out]), (by repeat (first | exact Below.refl _ _ | assumption | (refine bl_alloc ?_ (Nat.le_refl _) _) | (refine bl_set ?_ (by simp <;> omega) _)))⟩
    · have HR := hide (near_mid (r := r) g1 g3)
      have g2 : ¬ (e - a) * (c - a) + (f - b) * (d - b) ≤ 0 := g1
      have g4 : ¬ dsq a b c d ≤ (e - a) * (c - a) + (f - b) * (d - b) := g3
      clear g1 g3
      by_cases g5 : tn a b c d e f < 0
      · go_enter Try.func63, Try.ntmps63
        go_wp2_with (first | (go_at_call 96; (with_reducible refine (distSq_any _ _ _ _ h1 h2 _).mono ?_); rintro e w1 ⟨rfl, hb1⟩; obtain ⟨hc1, hf1⟩ := bcell hb1; have hw1 : Below w.heap.size w w1 := bl_call (by repeat (first | exact Below.refl _ _ | assumption | (refine bl_alloc ?_ (Nat.le_refl _) _) | (refine bl_set ?_ (by simp <;> omega) _))) hb1; have hz1 : w.heap.size + 3 ≤ w1.heap.size := (by have hq := hb1.size; have hr := hw1.size; (try simp at hq); omega); have hza : w.heap.size < w1.heap.size := (by omega); have hzb : w.heap.size + 1 < w1.heap.size := (by omega); have hzc : w.heap.size + 1 + 1 < w1.heap.size := (by omega); have hz4 := hb1.size; (try simp at hz4); (try have hz5 := Nat.lt_of_succ_le hz4)) | (go_at_call 95; (with_reducible refine (turn_any _ _ _ _ _ _ h1 h2 h3 _).mono ?_); rintro e w1 ⟨rfl, hb1⟩; obtain ⟨hc1, hf1⟩ := bcell hb1; have hw1 : Below w.heap.size w w1 := bl_call (by repeat (first | exact Below.refl _ _ | assumption | (refine bl_alloc ?_ (Nat.le_refl _) _) | (refine bl_set ?_ (by simp <;> omega) _))) hb1; have hz1 : w.heap.size + 3 ≤ w1.heap.size := (by have hq := hb1.size; have hr := hw1.size; (try simp at hq); omega); have hza : w.heap.size < w1.heap.size := (by omega); have hzb : w.heap.size + 1 < w1.heap.size := (by omega); have hzc : w.heap.size + 1 + 1 < w1.heap.size := (by omega); have hz4 := hb1.size; (try simp at hz4); (try have hz5 := Nat.lt_of_succ_le hz4)) | (go_at_call 103; (with_reducible refine (productAtMost_any (-tn a b c d e f) (-tn a b c d e f) (r * r) (dsq a b c d) (by omega) (by omega) (by omega) (by omega) (by omega) (by omega) (by omega) (by omega) _).mono ?_); rintro e w1 ⟨rfl, rfl⟩))
        go_ret
        exact ⟨ret_bool (by rw [HR.out, pam_neg]), (by repeat (first | exact Below.refl _ _ | assumption | (refine bl_alloc ?_ (Nat.le_refl _) _) | (refine bl_set ?_ (by simp <;> omega) _)))⟩
      · go_enter Try.func63, Try.ntmps63
        go_wp2_with (first | (go_at_call 96; (with_reducible refine (distSq_any _ _ _ _ h1 h2 _).mono ?_); rintro e w1 ⟨rfl, hb1⟩; obtain ⟨hc1, hf1⟩ := bcell hb1; have hw1 : Below w.heap.size w w1 := bl_call (by repeat (first | exact Below.refl _ _ | assumption | (refine bl_alloc ?_ (Nat.le_refl _) _) | (refine bl_set ?_ (by simp <;> omega) _))) hb1; have hz1 : w.heap.size + 3 ≤ w1.heap.size := (by have hq := hb1.size; have hr := hw1.size; (try simp at hq); omega); have hza : w.heap.size < w1.heap.size := (by omega); have hzb : w.heap.size + 1 < w1.heap.size := (by omega); have hzc : w.heap.size + 1 + 1 < w1.heap.size := (by omega); have hz4 := hb1.size; (try simp at hz4); (try have hz5 := Nat.lt_of_succ_le hz4)) | (go_at_call 95; (with_reducible refine (turn_any _ _ _ _ _ _ h1 h2 h3 _).mono ?_); rintro e w1 ⟨rfl, hb1⟩; obtain ⟨hc1, hf1⟩ := bcell hb1; have hw1 : Below w.heap.size w w1 := bl_call (by repeat (first | exact Below.refl _ _ | assumption | (refine bl_alloc ?_ (Nat.le_refl _) _) | (refine bl_set ?_ (by simp <;> omega) _))) hb1; have hz1 : w.heap.size + 3 ≤ w1.heap.size := (by have hq := hb1.size; have hr := hw1.size; (try simp at hq); omega); have hza : w.heap.size < w1.heap.size := (by omega); have hzb : w.heap.size + 1 < w1.heap.size := (by omega); have hzc : w.heap.size + 1 + 1 < w1.heap.size := (by omega); have hz4 := hb1.size; (try simp at hz4); (try have hz5 := Nat.lt_of_succ_le hz4)) | (go_at_call 103; (with_reducible refine (productAtMost_any (tn a b c d e f) (tn a b c d e f) (r * r) (dsq a b c d) (by omega) (by omega) (by omega) (by omega) (by omega) (by omega) (by omega) (by omega) _).mono ?_); rintro e w1 ⟨rfl, rfl⟩))
        go_ret
        exact ⟨ret_bool (by rw [HR.out]; rfl), (by repeat (first | exact Below.refl _ _ | assumption | (refine bl_alloc ?_ (Nat.le_refl _) _) | (refine bl_set ?_ (by simp <;> omega) _)))⟩
set_option maxHeartbeats 2000000 in
theorem l03Near_any (a b c d e f r : Int) (h1 : okPt a b = true) (h2 : okPt c d = true) (h3 : okPt e f = true) (r0 : 0 ≤ r) (r1 : r ≤ 262144) (w : World) : Calls Try.prog 61 #[.agg #[.int .i64 a, .int .i64 b], .agg #[.int .i64 c, .int .i64 d], .agg #[.int .i64 e, .int .i64 f], .int .i64 r] w fun E w' => E = .returned (.bool (nearB a b c d e f r)) ∧ Below w.heap.size w w' := by
  obtain ⟨a0, a1, b0, b1⟩ := okPt_t h1
  obtain ⟨c0, c1, d0, d1⟩ := okPt_t h2
  obtain ⟨e0, e1, f0, f1⟩ := okPt_t h3
  obtain ⟨p0, p1, p2, p3⟩ := dot_bd h1 h2 h3
  obtain ⟨t0, t1⟩ := tn_abs h1 h2 h3
  have l0 := dsq_nn a b c d
  have l1 := dsq_hi h1 h2
  obtain ⟨q0, q1⟩ := rr_bd r0 r1
  by_cases g1 : dsq a b e f ≤ r * r
  · have HR := hide (near_true (c := c) (d := d) (Or.inl g1))
    go_enter Try.func61, Try.ntmps61
    go_wp2_with (first | (go_at_call 100; (with_reducible refine (l03Sq_any _ _ _ _ h1 h3 _).mono ?_); rintro e w1 ⟨rfl, hb1⟩; obtain ⟨hc1, hf1⟩ := bcell hb1; have hw1 : Below w.heap.size w w1 := bl_call (by repeat (first | exact Below.refl _ _ | assumption | (refine bl_alloc ?_ (Nat.le_refl _) _) | (refine bl_set ?_ (by simp <;> omega) _))) hb1; have hz1 : w.heap.size + 3 ≤ w1.heap.size := (by have hq := hb1.size; have hr := hw1.size; (try simp at hq); omega); have hza : w.heap.size < w1.heap.size := (by omega); have hzb : w.heap.size + 1 < w1.heap.size := (by omega); have hzc : w.heap.size + 1 + 1 < w1.heap.size := (by omega); have hz4 := hb1.size; (try simp at hz4); (try have hz5 := Nat.lt_of_succ_le hz4)) | (go_at_call 100; (with_reducible refine (l03Sq_any _ _ _ _ h2 h3 _).mono ?_); rintro e w1 ⟨rfl, hb1⟩; obtain ⟨hc1, hf1⟩ := bcell hb1; have hw1 : Below w.heap.size w w1 := bl_call (by repeat (first | exact Below.refl _ _ | assumption | (refine bl_alloc ?_ (Nat.le_refl _) _) | (refine bl_set ?_ (by simp <;> omega) _))) hb1; have hz1 : w.heap.size + 3 ≤ w1.heap.size := (by have hq := hb1.size; have hr := hw1.size; (try simp at hq); omega); have hza : w.heap.size < w1.heap.size := (by omega); have hzb : w.heap.size + 1 < w1.heap.size := (by omega); have hzc : w.heap.size + 1 + 1 < w1.heap.size := (by omega); have hz4 := hb1.size; (try simp at hz4); (try have hz5 := Nat.lt_of_succ_le hz4)))
    go_ret
    exact ⟨ret_bool HR.out.symm, (by repeat (first | exact Below.refl _ _ | assumption | (refine bl_alloc ?_ (Nat.le_refl _) _) | (refine bl_set ?_ (by simp <;> omega) _)))⟩
  by_cases g2 : dsq c d e f ≤ r * r
  · have HR := hide (near_true (a := a) (b := b) (Or.inr g2))
    go_enter Try.func61, Try.ntmps61
    go_wp2_with (first | (go_at_call 100; (with_reducible refine (l03Sq_any _ _ _ _ h1 h3 _).mono ?_); rintro e w1 ⟨rfl, hb1⟩; obtain ⟨hc1, hf1⟩ := bcell hb1; have hw1 : Below w.heap.size w w1 := bl_call (by repeat (first | exact Below.refl _ _ | assumption | (refine bl_alloc ?_ (Nat.le_refl _) _) | (refine bl_set ?_ (by simp <;> omega) _))) hb1; have hz1 : w.heap.size + 3 ≤ w1.heap.size := (by have hq := hb1.size; have hr := hw1.size; (try simp at hq); omega); have hza : w.heap.size < w1.heap.size := (by omega); have hzb : w.heap.size + 1 < w1.heap.size := (by omega); have hzc : w.heap.size + 1 + 1 < w1.heap.size := (by omega); have hz4 := hb1.size; (try simp at hz4); (try have hz5 := Nat.lt_of_succ_le hz4)) | (go_at_call 100; (with_reducible refine (l03Sq_any _ _ _ _ h2 h3 _).mono ?_); rintro e w1 ⟨rfl, hb1⟩; obtain ⟨hc1, hf1⟩ := bcell hb1; have hw1 : Below w.heap.size w w1 := bl_call (by repeat (first | exact Below.refl _ _ | assumption | (refine bl_alloc ?_ (Nat.le_refl _) _) | (refine bl_set ?_ (by simp <;> omega) _))) hb1; have hz1 : w.heap.size + 3 ≤ w1.heap.size := (by have hq := hb1.size; have hr := hw1.size; (try simp at hq); omega); have hza : w.heap.size < w1.heap.size := (by omega); have hzb : w.heap.size + 1 < w1.heap.size := (by omega); have hzc : w.heap.size + 1 + 1 < w1.heap.size := (by omega); have hz4 := hb1.size; (try simp at hz4); (try have hz5 := Nat.lt_of_succ_le hz4)))
    go_ret
    exact ⟨ret_bool HR.out.symm, (by repeat (first | exact Below.refl _ _ | assumption | (refine bl_alloc ?_ (Nat.le_refl _) _) | (refine bl_set ?_ (by simp <;> omega) _)))⟩
  by_cases g3 : dot a b c d e f ≤ 0
  · have HR := hide (near_false g1 g2 (Or.inl g3))
    have g4 : (e - a) * (c - a) + (f - b) * (d - b) ≤ 0 := g3
    clear g3
    go_enter Try.func61, Try.ntmps61
    go_wp2_with (first | (go_at_call 100; (with_reducible refine (l03Sq_any _ _ _ _ h1 h3 _).mono ?_); rintro e w1 ⟨rfl, hb1⟩; obtain ⟨hc1, hf1⟩ := bcell hb1; have hw1 : Below w.heap.size w w1 := bl_call (by repeat (first | exact Below.refl _ _ | assumption | (refine bl_alloc ?_ (Nat.le_refl _) _) | (refine bl_set ?_ (by simp <;> omega) _))) hb1; have hz1 : w.heap.size + 3 ≤ w1.heap.size := (by have hq := hb1.size; have hr := hw1.size; (try simp at hq); omega); have hza : w.heap.size < w1.heap.size := (by omega); have hzb : w.heap.size + 1 < w1.heap.size := (by omega); have hzc : w.heap.size + 1 + 1 < w1.heap.size := (by omega); have hz4 := hb1.size; (try simp at hz4); (try have hz5 := Nat.lt_of_succ_le hz4)) | (go_at_call 100; (with_reducible refine (l03Sq_any _ _ _ _ h2 h3 _).mono ?_); rintro e w1 ⟨rfl, hb1⟩; obtain ⟨hc1, hf1⟩ := bcell hb1; have hw1 : Below w.heap.size w w1 := bl_call (by repeat (first | exact Below.refl _ _ | assumption | (refine bl_alloc ?_ (Nat.le_refl _) _) | (refine bl_set ?_ (by simp <;> omega) _))) hb1; have hz1 : w.heap.size + 3 ≤ w1.heap.size := (by have hq := hb1.size; have hr := hw1.size; (try simp at hq); omega); have hza : w.heap.size < w1.heap.size := (by omega); have hzb : w.heap.size + 1 < w1.heap.size := (by omega); have hzc : w.heap.size + 1 + 1 < w1.heap.size := (by omega); have hz4 := hb1.size; (try simp at hz4); (try have hz5 := Nat.lt_of_succ_le hz4)))
    go_ret
    exact ⟨ret_bool HR.out.symm, (by repeat (first | exact Below.refl _ _ | assumption | (refine bl_alloc ?_ (Nat.le_refl _) _) | (refine bl_set ?_ (by simp <;> omega) _)))⟩
  by_cases g5 : dsq a b c d ≤ dot a b c d e f
  · have HR := hide (near_false g1 g2 (Or.inr g5))
    have g4 : ¬ (e - a) * (c - a) + (f - b) * (d - b) ≤ 0 := g3
    have g6 : dsq a b c d ≤ (e - a) * (c - a) + (f - b) * (d - b) := g5
    clear g3 g5
    go_enter Try.func61, Try.ntmps61
    go_wp2_with (first | (go_at_call 100; (with_reducible refine (l03Sq_any _ _ _ _ h1 h3 _).mono ?_); rintro e w1 ⟨rfl, hb1⟩; obtain ⟨hc1, hf1⟩ := bcell hb1; have hw1 : Below w.heap.size w w1 := bl_call (by repeat (first | exact Below.refl _ _ | assumption | (refine bl_alloc ?_ (Nat.le_refl _) _) | (refine bl_set ?_ (by simp <;> omega) _))) hb1; have hz1 : w.heap.size + 3 ≤ w1.heap.size := (by have hq := hb1.size; have hr := hw1.size; (try simp at hq); omega); have hza : w.heap.size < w1.heap.size := (by omega); have hzb : w.heap.size + 1 < w1.heap.size := (by omega); have hzc : w.heap.size + 1 + 1 < w1.heap.size := (by omega); have hz4 := hb1.size; (try simp at hz4); (try have hz5 := Nat.lt_of_succ_le hz4)) | (go_at_call 100; (with_reducible refine (l03Sq_any _ _ _ _ h2 h3 _).mono ?_); rintro e w1 ⟨rfl, hb1⟩; obtain ⟨hc1, hf1⟩ := bcell hb1; have hw1 : Below w.heap.size w w1 := bl_call (by repeat (first | exact Below.refl _ _ | assumption | (refine bl_alloc ?_ (Nat.le_refl _) _) | (refine bl_set ?_ (by simp <;> omega) _))) hb1; have hz1 : w.heap.size + 3 ≤ w1.heap.size := (by have hq := hb1.size; have hr := hw1.size; (try simp at hq); omega); have hza : w.heap.size < w1.heap.size := (by omega); have hzb : w.heap.size + 1 < w1.heap.size := (by omega); have hzc : w.heap.size + 1 + 1 < w1.heap.size := (by omega); have hz4 := hb1.size; (try simp at hz4); (try have hz5 := Nat.lt_of_succ_le hz4)) | (go_at_call 100; (with_reducible refine (l03Sq_any _ _ _ _ h1 h2 _).mono ?_); rintro e w1 ⟨rfl, hb1⟩; obtain ⟨hc1, hf1⟩ := bcell hb1; have hw1 : Below w.heap.size w w1 := bl_call (by repeat (first | exact Below.refl _ _ | assumption | (refine bl_alloc ?_ (Nat.le_refl _) _) | (refine bl_set ?_ (by simp <;> omega) _))) hb1; have hz1 : w.heap.size + 3 ≤ w1.heap.size := (by have hq := hb1.size; have hr := hw1.size; (try simp at hq); omega); have hza : w.heap.size < w1.heap.size := (by omega); have hzb : w.heap.size + 1 < w1.heap.size := (by omega); have hzc : w.heap.size + 1 + 1 < w1.heap.size := (by omega); have hz4 := hb1.size; (try simp at hz4); (try have hz5 := Nat.lt_of_succ_le hz4)))
    go_ret
    exact ⟨ret_bool HR.out.symm, (by repeat (first | exact Below.refl _ _ | assumption | (refine bl_alloc ?_ (Nat.le_refl _) _) | (refine bl_set ?_ (by simp <;> omega) _)))⟩
  have HR := hide (near_mid (r := r) g3 g5)
  have g4 : ¬ (e - a) * (c - a) + (f - b) * (d - b) ≤ 0 := g3
  have g6 : ¬ dsq a b c d ≤ (e - a) * (c - a) + (f - b) * (d - b) := g5
  clear g3 g5
  by_cases g7 : tn a b c d e f < 0
  · go_enter Try.func61, Try.ntmps61
    go_wp2_with (first | (go_at_call 100; (with_reducible refine (l03Sq_any _ _ _ _ h1 h3 _).mono ?_); rintro e w1 ⟨rfl, hb1⟩; obtain ⟨hc1, hf1⟩ := bcell hb1; have hw1 : Below w.heap.size w w1 := bl_call (by repeat (first | exact Below.refl _ _ | assumption | (refine bl_alloc ?_ (Nat.le_refl _) _) | (refine bl_set ?_ (by simp <;> omega) _))) hb1; have hz1 : w.heap.size + 3 ≤ w1.heap.size := (by have hq := hb1.size; have hr := hw1.size; (try simp at hq); omega); have hza : w.heap.size < w1.heap.size := (by omega); have hzb : w.heap.size + 1 < w1.heap.size := (by omega); have hzc : w.heap.size + 1 + 1 < w1.heap.size := (by omega); have hz4 := hb1.size; (try simp at hz4); (try have hz5 := Nat.lt_of_succ_le hz4)) | (go_at_call 100; (with_reducible refine (l03Sq_any _ _ _ _ h2 h3 _).mono ?_); rintro e w1 ⟨rfl, hb1⟩; obtain ⟨hc1, hf1⟩ := bcell hb1; have hw1 : Below w.heap.size w w1 := bl_call (by repeat (first | exact Below.refl _ _ | assumption | (refine bl_alloc ?_ (Nat.le_refl _) _) | (refine bl_set ?_ (by simp <;> omega) _))) hb1; have hz1 : w.heap.size + 3 ≤ w1.heap.size := (by have hq := hb1.size; have hr := hw1.size; (try simp at hq); omega); have hza : w.heap.size < w1.heap.size := (by omega); have hzb : w.heap.size + 1 < w1.heap.size := (by omega); have hzc : w.heap.size + 1 + 1 < w1.heap.size := (by omega); have hz4 := hb1.size; (try simp at hz4); (try have hz5 := Nat.lt_of_succ_le hz4)) | (go_at_call 100; (with_reducible refine (l03Sq_any _ _ _ _ h1 h2 _).mono ?_); rintro e w1 ⟨rfl, hb1⟩; obtain ⟨hc1, hf1⟩ := bcell hb1; have hw1 : Below w.heap.size w w1 := bl_call (by repeat (first | exact Below.refl _ _ | assumption | (refine bl_alloc ?_ (Nat.le_refl _) _) | (refine bl_set ?_ (by simp <;> omega) _))) hb1; have hz1 : w.heap.size + 3 ≤ w1.heap.size := (by have hq := hb1.size; have hr := hw1.size; (try simp at hq); omega); have hza : w.heap.size < w1.heap.size := (by omega); have hzb : w.heap.size + 1 < w1.heap.size := (by omega); have hzc : w.heap.size + 1 + 1 < w1.heap.size := (by omega); have hz4 := hb1.size; (try simp at hz4); (try have hz5 := Nat.lt_of_succ_le hz4)) | (go_at_call 101; (with_reducible refine (l03Turn_any _ _ _ _ _ _ h1 h2 h3 _).mono ?_); rintro e w1 ⟨rfl, hb1⟩; obtain ⟨hc1, hf1⟩ := bcell hb1; have hw1 : Below w.heap.size w w1 := bl_call (by repeat (first | exact Below.refl _ _ | assumption | (refine bl_alloc ?_ (Nat.le_refl _) _) | (refine bl_set ?_ (by simp <;> omega) _))) hb1; have hz1 : w.heap.size + 3 ≤ w1.heap.size := (by have hq := hb1.size; have hr := hw1.size; (try simp at hq); omega); have hza : w.heap.size < w1.heap.size := (by omega); have hzb : w.heap.size + 1 < w1.heap.size := (by omega); have hzc : w.heap.size + 1 + 1 < w1.heap.size := (by omega); have hz4 := hb1.size; (try simp at hz4); (try have hz5 := Nat.lt_of_succ_le hz4)) | (go_at_call 102; (with_reducible refine (l03Less_any (-tn a b c d e f) (-tn a b c d e f) (r * r) (dsq a b c d) (by omega) (by omega) (by omega) (by omega) (by omega) (by omega) (by omega) (by omega) _).mono ?_); rintro e w1 ⟨rfl, rfl⟩))
    go_ret
    exact ⟨ret_bool (by rw [HR.out, pam_neg]), (by repeat (first | exact Below.refl _ _ | assumption | (refine bl_alloc ?_ (Nat.le_refl _) _) | (refine bl_set ?_ (by simp <;> omega) _)))⟩
  · go_enter Try.func61, Try.ntmps61
    go_wp2_with (first | (go_at_call 100; (with_reducible refine (l03Sq_any _ _ _ _ h1 h3 _).mono ?_); rintro e w1 ⟨rfl, hb1⟩; obtain ⟨hc1, hf1⟩ := bcell hb1; have hw1 : Below w.heap.size w w1 := bl_call (by repeat (first | exact Below.refl _ _ | assumption | (refine bl_alloc ?_ (Nat.le_refl _) _) | (refine bl_set ?_ (by simp <;> omega) _))) hb1; have hz1 : w.heap.size + 3 ≤ w1.heap.size := (by have hq := hb1.size; have hr := hw1.size; (try simp at hq); omega); have hza : w.heap.size < w1.heap.size := (by omega); have hzb : w.heap.size + 1 < w1.heap.size := (by omega); have hzc : w.heap.size + 1 + 1 < w1.heap.size := (by omega); have hz4 := hb1.size; (try simp at hz4); (try have hz5 := Nat.lt_of_succ_le hz4)) | (go_at_call 100; (with_reducible refine (l03Sq_any _ _ _ _ h2 h3 _).mono ?_); rintro e w1 ⟨rfl, hb1⟩; obtain ⟨hc1, hf1⟩ := bcell hb1; have hw1 : Below w.heap.size w w1 := bl_call (by repeat (first | exact Below.refl _ _ | assumption | (refine bl_alloc ?_ (Nat.le_refl _) _) | (refine bl_set ?_ (by simp <;> omega) _))) hb1; have hz1 : w.heap.size + 3 ≤ w1.heap.size := (by have hq := hb1.size; have hr := hw1.size; (try simp at hq); omega); have hza : w.heap.size < w1.heap.size := (by omega); have hzb : w.heap.size + 1 < w1.heap.size := (by omega); have hzc : w.heap.size + 1 + 1 < w1.heap.size := (by omega); have hz4 := hb1.size; (try simp at hz4); (try have hz5 := Nat.lt_of_succ_le hz4)) | (go_at_call 100; (with_reducible refine (l03Sq_any _ _ _ _ h1 h2 _).mono ?_); rintro e w1 ⟨rfl, hb1⟩; obtain ⟨hc1, hf1⟩ := bcell hb1; have hw1 : Below w.heap.size w w1 := bl_call (by repeat (first | exact Below.refl _ _ | assumption | (refine bl_alloc ?_ (Nat.le_refl _) _) | (refine bl_set ?_ (by simp <;> omega) _))) hb1; have hz1 : w.heap.size + 3 ≤ w1.heap.size := (by have hq := hb1.size; have hr := hw1.size; (try simp at hq); omega); have hza : w.heap.size < w1.heap.size := (by omega); have hzb : w.heap.size + 1 < w1.heap.size := (by omega); have hzc : w.heap.size + 1 + 1 < w1.heap.size := (by omega); have hz4 := hb1.size; (try simp at hz4); (try have hz5 := Nat.lt_of_succ_le hz4)) | (go_at_call 101; (with_reducible refine (l03Turn_any _ _ _ _ _ _ h1 h2 h3 _).mono ?_); rintro e w1 ⟨rfl, hb1⟩; obtain ⟨hc1, hf1⟩ := bcell hb1; have hw1 : Below w.heap.size w w1 := bl_call (by repeat (first | exact Below.refl _ _ | assumption | (refine bl_alloc ?_ (Nat.le_refl _) _) | (refine bl_set ?_ (by simp <;> omega) _))) hb1; have hz1 : w.heap.size + 3 ≤ w1.heap.size := (by have hq := hb1.size; have hr := hw1.size; (try simp at hq); omega); have hza : w.heap.size < w1.heap.size := (by omega); have hzb : w.heap.size + 1 < w1.heap.size := (by omega); have hzc : w.heap.size + 1 + 1 < w1.heap.size := (by omega); have hz4 := hb1.size; (try simp at hz4); (try have hz5 := Nat.lt_of_succ_le hz4)) | (go_at_call 102; (with_reducible refine (l03Less_any (tn a b c d e f) (tn a b c d e f) (r * r) (dsq a b c d) (by omega) (by omega) (by omega) (by omega) (by omega) (by omega) (by omega) (by omega) _).mono ?_); rintro e w1 ⟨rfl, rfl⟩))
    go_ret
    exact ⟨ret_bool (by rw [HR.out]; rfl), (by repeat (first | exact Below.refl _ _ | assumption | (refine bl_alloc ?_ (Nat.le_refl _) _) | (refine bl_set ?_ (by simp <;> omega) _)))⟩
set_option maxHeartbeats 1000000 in
theorem nearSegment_i (a b c d e f r : Int) (w : World) : Calls Try.prog 15 #[.agg #[.int .i64 a, .int .i64 b], .agg #[.int .i64 c, .int .i64 d], .agg #[.int .i64 e, .int .i64 f], .int .i64 r] w fun E w' => E = .returned (.bool (nearR a b c d e f r)) ∧ Below w.heap.size w w' := by
  by_cases hk : okPt a b = true ∧ okPt c d = true ∧ okPt e f = true
  · obtain ⟨h1, h2, h3⟩ := hk
    by_cases r0 : 0 ≤ r
    · by_cases r1 : r ≤ 262144
      · have HR := hide (show nearR a b c d e f r = nearB a b c d e f r by unfold nearR; rw [h1, h2, h3, decide_eq_true r0, decide_eq_true r1]; rfl)
        go_enter Try.func15, Try.ntmps15
        go_wp2_with (first | (go_at_call 62; (with_reducible refine (validPts3 _ _ a b c d e f _ (by simp) (by simp [go_sem]) (by simp [go_sem]) (by simp [go_sem]) (by simp [go_sem]) (by simp [go_sem]) (by simp [go_sem])).mono ?_); rintro e w1 ⟨rfl, hb1⟩; obtain ⟨hc1, hf1⟩ := bcell hb1; have hw1 : Below w.heap.size w w1 := bl_call (by repeat (first | exact Below.refl _ _ | assumption | (refine bl_alloc ?_ (Nat.le_refl _) _) | (refine bl_set ?_ (by simp <;> omega) _))) hb1; have hz1 : w.heap.size + 3 ≤ w1.heap.size := (by have hq := hb1.size; have hr := hw1.size; (try simp at hq); omega); have hza : w.heap.size < w1.heap.size := (by omega); have hzb : w.heap.size + 1 < w1.heap.size := (by omega); have hzc : w.heap.size + 1 + 1 < w1.heap.size := (by omega); have hz4 := hb1.size; (try simp at hz4); (try have hz5 := Nat.lt_of_succ_le hz4)) | (go_at_call 63; (with_reducible refine (nearSegment_any _ _ _ _ _ _ _ h1 h2 h3 r0 r1 _).mono ?_); rintro e w1 ⟨rfl, hb1⟩; obtain ⟨hc1, hf1⟩ := bcell hb1; have hw1 : Below w.heap.size w w1 := bl_call (by repeat (first | exact Below.refl _ _ | assumption | (refine bl_alloc ?_ (Nat.le_refl _) _) | (refine bl_set ?_ (by simp <;> omega) _))) hb1; have hz1 : w.heap.size + 3 ≤ w1.heap.size := (by have hq := hb1.size; have hr := hw1.size; (try simp at hq); omega); have hza : w.heap.size < w1.heap.size := (by omega); have hzb : w.heap.size + 1 < w1.heap.size := (by omega); have hzc : w.heap.size + 1 + 1 < w1.heap.size := (by omega); have hz4 := hb1.size; (try simp at hz4); (try have hz5 := Nat.lt_of_succ_le hz4)))
        go_ret
        exact ⟨ret_bool HR.out.symm, (by repeat (first | exact Below.refl _ _ | assumption | (refine bl_alloc ?_ (Nat.le_refl _) _) | (refine bl_set ?_ (by simp <;> omega) _)))⟩
      · have HR := hide (show nearR a b c d e f r = false by unfold nearR; rw [decide_eq_false r1]; simp)
        go_enter Try.func15, Try.ntmps15
        go_wp2_with (first | (go_at_call 62; (with_reducible refine (validPts3 _ _ a b c d e f _ (by simp) (by simp [go_sem]) (by simp [go_sem]) (by simp [go_sem]) (by simp [go_sem]) (by simp [go_sem]) (by simp [go_sem])).mono ?_); rintro e w1 ⟨rfl, hb1⟩; obtain ⟨hc1, hf1⟩ := bcell hb1; have hw1 : Below w.heap.size w w1 := bl_call (by repeat (first | exact Below.refl _ _ | assumption | (refine bl_alloc ?_ (Nat.le_refl _) _) | (refine bl_set ?_ (by simp <;> omega) _))) hb1; have hz1 : w.heap.size + 3 ≤ w1.heap.size := (by have hq := hb1.size; have hr := hw1.size; (try simp at hq); omega); have hza : w.heap.size < w1.heap.size := (by omega); have hzb : w.heap.size + 1 < w1.heap.size := (by omega); have hzc : w.heap.size + 1 + 1 < w1.heap.size := (by omega); have hz4 := hb1.size; (try simp at hz4); (try have hz5 := Nat.lt_of_succ_le hz4)))
        go_ret
        exact ⟨ret_bool HR.out.symm, (by repeat (first | exact Below.refl _ _ | assumption | (refine bl_alloc ?_ (Nat.le_refl _) _) | (refine bl_set ?_ (by simp <;> omega) _)))⟩
    · have HR := hide (show nearR a b c d e f r = false by unfold nearR; rw [decide_eq_false r0]; simp)
      go_enter Try.func15, Try.ntmps15
      go_wp2_with (first | (go_at_call 62; (with_reducible refine (validPts3 _ _ a b c d e f _ (by simp) (by simp [go_sem]) (by simp [go_sem]) (by simp [go_sem]) (by simp [go_sem]) (by simp [go_sem]) (by simp [go_sem])).mono ?_); rintro e w1 ⟨rfl, hb1⟩; obtain ⟨hc1, hf1⟩ := bcell hb1; have hw1 : Below w.heap.size w w1 := bl_call (by repeat (first | exact Below.refl _ _ | assumption | (refine bl_alloc ?_ (Nat.le_refl _) _) | (refine bl_set ?_ (by simp <;> omega) _))) hb1; have hz1 : w.heap.size + 3 ≤ w1.heap.size := (by have hq := hb1.size; have hr := hw1.size; (try simp at hq); omega); have hza : w.heap.size < w1.heap.size := (by omega); have hzb : w.heap.size + 1 < w1.heap.size := (by omega); have hzc : w.heap.size + 1 + 1 < w1.heap.size := (by omega); have hz4 := hb1.size; (try simp at hz4); (try have hz5 := Nat.lt_of_succ_le hz4)))
      go_ret
      exact ⟨ret_bool HR.out.symm, (by repeat (first | exact Below.refl _ _ | assumption | (refine bl_alloc ?_ (Nat.le_refl _) _) | (refine bl_set ?_ (by simp <;> omega) _)))⟩
  · have hf : (okPt a b && okPt c d && okPt e f) = false := by
      cases h1 : okPt a b <;> cases h2 : okPt c d <;> cases h3 : okPt e f <;> simp_all
    have HR := hide (show nearR a b c d e f r = false by unfold nearR; rw [hf]; rfl)
    have HF := hide hf
    clear hf hk
    go_enter Try.func15, Try.ntmps15
    go_wp2_with fail
    refine (validPts3 _ _ a b c d e f _ (by simp) (by simp [go_sem]) (by simp [go_sem]) (by simp [go_sem]) (by simp [go_sem]) (by simp [go_sem]) (by simp [go_sem])).mono ?_
    rw [HF.out]
    rintro E w1 ⟨rfl, hb1⟩
    have hw1 : Below w.heap.size w w1 := bl_call (by repeat (first | exact Below.refl _ _ | assumption | (refine bl_alloc ?_ (Nat.le_refl _) _) | (refine bl_set ?_ (by simp <;> omega) _))) hb1
    go_wp2
    go_ret
    exact ⟨ret_bool HR.out.symm, (by repeat (first | exact Below.refl _ _ | assumption | (refine bl_alloc ?_ (Nat.le_refl _) _) | (refine bl_set ?_ (by simp <;> omega) _)))⟩
set_option maxHeartbeats 1000000 in
theorem nearSegment_s (a b c d e f r : Int) (w : World) : Calls Try.prog 13 #[.agg #[.int .i64 a, .int .i64 b], .agg #[.int .i64 c, .int .i64 d], .agg #[.int .i64 e, .int .i64 f], .int .i64 r] w fun E w' => E = .returned (.bool (nearR a b c d e f r)) ∧ Below w.heap.size w w' := by
  have hr : nearR a b c d e f r = (okPt a b && okPt c d && okPt e f && inB r 0 262144 && nearB a b c d e f r) := by
    unfold nearR inB
    simp only [Bool.decide_and, Bool.and_assoc]
  cases h1 : okPt a b <;> cases h2 : okPt c d <;> cases h3 : okPt e f <;> cases h4 : inB r 0 262144
  all_goals have HR := hide hr
  all_goals rw [h1, h2, h3, h4] at HR
  all_goals clear hr
  all_goals have h5 := hide h4
  all_goals
    go_enter Try.func13, Try.ntmps13
    go_wp2_with (first | (go_at_call 59; (with_reducible refine (l03Ok_any _ _ _).mono ?_); rintro e w1 ⟨rfl, hb1⟩; obtain ⟨hc1, hf1⟩ := bcell hb1; have hw1 : Below w.heap.size w w1 := bl_call (by repeat (first | exact Below.refl _ _ | assumption | (refine bl_alloc ?_ (Nat.le_refl _) _) | (refine bl_set ?_ (by simp <;> omega) _))) hb1; have hz1 : w.heap.size + 3 ≤ w1.heap.size := (by have hq := hb1.size; have hr := hw1.size; (try simp at hq); omega); have hza : w.heap.size < w1.heap.size := (by omega); have hzb : w.heap.size + 1 < w1.heap.size := (by omega); have hzc : w.heap.size + 1 + 1 < w1.heap.size := (by omega); have hz4 := hb1.size; (try simp at hz4); (try have hz5 := Nat.lt_of_succ_le hz4)) | (go_at_call 60; (with_reducible refine (l00In_any _ _ _ _).mono ?_); rintro e w1 ⟨rfl, rfl⟩) | (go_at_call 61; (with_reducible refine (l03Near_any _ _ _ _ _ _ _ h1 h2 h3 (inB_t h5.out).1 (inB_t h5.out).2 _).mono ?_); rintro e w1 ⟨rfl, hb1⟩; obtain ⟨hc1, hf1⟩ := bcell hb1; have hw1 : Below w.heap.size w w1 := bl_call (by repeat (first | exact Below.refl _ _ | assumption | (refine bl_alloc ?_ (Nat.le_refl _) _) | (refine bl_set ?_ (by simp <;> omega) _))) hb1; have hz1 : w.heap.size + 3 ≤ w1.heap.size := (by have hq := hb1.size; have hr := hw1.size; (try simp at hq); omega); have hza : w.heap.size < w1.heap.size := (by omega); have hzb : w.heap.size + 1 < w1.heap.size := (by omega); have hzc : w.heap.size + 1 + 1 < w1.heap.size := (by omega); have hz4 := hb1.size; (try simp at hz4); (try have hz5 := Nat.lt_of_succ_le hz4)))
    go_ret
    exact ⟨ret_bool HR.out.symm, (by repeat (first | exact Below.refl _ _ | assumption | (refine bl_alloc ?_ (Nat.le_refl _) _) | (refine bl_set ?_ (by simp <;> omega) _)))⟩
set_option maxHeartbeats 1000000 in
theorem fnNearSegment (a b c d e f r : Int) (_ : (Lit.int .i64 a).wf = true) (_ : (Lit.int .i64 b).wf = true) (_ : (Lit.int .i64 c).wf = true) (_ : (Lit.int .i64 d).wf = true) (_ : (Lit.int .i64 e).wf = true) (_ : (Lit.int .i64 f).wf = true) (_ : (Lit.int .i64 r).wf = true) (w : World) : Calls Try.prog 3 #[.agg #[.int .i64 a, .int .i64 b], .agg #[.int .i64 c, .int .i64 d], .agg #[.int .i64 e, .int .i64 f], .int .i64 r] w fun E w' => E = .returned (.bool true) ∧ Below w.heap.size w w' := by
  go_enter Try.func3, Try.ntmps3
  go_wp2
  refine wp_region_quiet_below (by kernel_rfl) (by kernel_rfl) ?_
  repeat (first | go_big_quiet_step ((first | (go_at_call 14; with_reducible exact Calls.regrown_of (toPt_any _ _ _)) | (go_at_call 13; with_reducible exact Calls.regrown_of (nearSegment_s _ _ _ _ _ _ _ _)))) | quiet_step ((first | (go_at_call 14; with_reducible exact Calls.regrown_of (toPt_any _ _ _)) | (go_at_call 13; with_reducible exact Calls.regrown_of (nearSegment_s _ _ _ _ _ _ _ _)))))
  refine wpQuiet_nil ?_
  intro w1 hw1
  obtain ⟨pq, hpq⟩ := hw1
  have hb1 := below_of hpq
  clear hpq pq
  have hz4 := hb1.size
  (try simp at hz4)
  obtain ⟨hc1, hf1⟩ := bcell hb1
  have hw1 : Below w.heap.size w w1 := bl_call (by repeat (first | exact Below.refl _ _ | assumption | (refine bl_alloc ?_ (Nat.le_refl _) _) | (refine bl_set ?_ (by simp <;> omega) _))) hb1
  have hz1 : w.heap.size + 3 ≤ w1.heap.size := (by have hq := hb1.size; have hr := hw1.size; (try simp at hq); omega)
  have hza : w.heap.size < w1.heap.size := (by omega)
  have hzb : w.heap.size + 1 < w1.heap.size := (by omega)
  have hzc : w.heap.size + 1 + 1 < w1.heap.size := (by omega)
  go_wp2
  refine wp_region_quiet_below (by kernel_rfl) (by kernel_rfl) ?_
  repeat (first | go_big_quiet_step ((first | (go_at_call 14; with_reducible exact Calls.regrown_of (toPt_any _ _ _)) | (go_at_call 15; with_reducible exact Calls.regrown_of (nearSegment_i _ _ _ _ _ _ _ _)))) | quiet_step ((first | (go_at_call 14; with_reducible exact Calls.regrown_of (toPt_any _ _ _)) | (go_at_call 15; with_reducible exact Calls.regrown_of (nearSegment_i _ _ _ _ _ _ _ _)))))
  refine wpQuiet_nil ?_
  intro w1 hw1
  obtain ⟨pq, hpq⟩ := hw1
  have hb1 := below_of hpq
  clear hpq pq
  have hz4 := hb1.size
  (try simp at hz4)
  obtain ⟨hc1, hf1⟩ := bcell hb1
  have hw1 : Below w.heap.size w w1 := bl_call (by repeat (first | exact Below.refl _ _ | assumption | (refine bl_alloc ?_ (Nat.le_refl _) _) | (refine bl_set ?_ (by simp <;> omega) _))) hb1
  have hz1 : w.heap.size + 3 ≤ w1.heap.size := (by have hq := hb1.size; have hr := hw1.size; (try simp at hq); omega)
  have hza : w.heap.size < w1.heap.size := (by omega)
  have hzb : w.heap.size + 1 < w1.heap.size := (by omega)
  have hzc : w.heap.size + 1 + 1 < w1.heap.size := (by omega)
  go_wp2
  go_ret
  exact ⟨rfl, (by repeat (first | exact Below.refl _ _ | assumption | (refine bl_alloc ?_ (Nat.le_refl _) _) | (refine bl_set ?_ (by simp <;> omega) _)))⟩
end Go.Proofs.Ythellegojnndlaa
