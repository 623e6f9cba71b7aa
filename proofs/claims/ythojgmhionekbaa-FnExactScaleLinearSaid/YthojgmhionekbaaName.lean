/-
  CONTRACTS of the functions on names (impl.IsName, spec.IsName) and their bytes; the world stays. Conditions: none (lengths are those of any string).
-/
import Derived.Test.YthojgmhionekbaaBase
namespace Go.Proofs.Ythojgmhionekbaa
open Go.RowKit Go.Sort
set_option linter.unusedVariables false

/-- the byte of a string at a place -/
def byteAt (s : ByteArray) (k : Nat) : Int := ((s.data.toList.getD k 0).toNat : Int)
theorem byteAt_eq (s : ByteArray) (k : Nat) (h : k < s.size) : ((s[k]).toNat : Int) = byteAt s k := by
  have h' : k < s.data.toList.length := by simpa using h
  unfold byteAt
  rw [List.getD_eq_getElem?_getD, List.getElem?_eq_getElem h']
  rfl
theorem byteAt_bd (s : ByteArray) (k : Nat) : 0 ≤ byteAt s k ∧ byteAt s k ≤ 255 := by
  unfold byteAt
  have := UInt8.toNat_lt (s.data.toList.getD k 0)
  omega
/-- p at each place below n -/
def allN (p : Nat → Bool) : Nat → Bool
  | 0 => true
  | n + 1 => allN p n && p n
theorem allN_f {p : Nat → Bool} {k : Nat} (h : p k = false) : ∀ n, k < n → allN p n = false
  | 0, hk => by omega
  | n + 1, hk => by
    by_cases e : k = n
    · subst e; simp [allN, h]
    · simp [allN, allN_f h n (by omega)]
theorem allN_t {p : Nat → Bool} : ∀ n, allN p n = true → ∀ k, k < n → p k = true
  | 0, _, k, hk => by omega
  | n + 1, h, k, hk => by
    simp only [allN, Bool.and_eq_true] at h
    by_cases e : k = n
    · subst e; exact h.2
    · exact allN_t n h.1 k (by omega)
/-- a small letter, a digit, a byte of a name -/
def smI (b : Int) : Bool := decide (97 ≤ b ∧ b ≤ 122)
def dgI (b : Int) : Bool := decide (48 ≤ b ∧ b ≤ 57)
def nmI (b : Int) : Bool := smI b || dgI b || (b == 46)
/-- a name -/
def isNm (s : ByteArray) : Bool := decide (1 ≤ s.size) && decide (s.size ≤ 12) && smI (byteAt s 0) && allN (fun j => nmI (byteAt s j)) s.size
theorem isNm_first {s : ByteArray} (h : smI (byteAt s 0) = true) : nmI (byteAt s 0) = true := by unfold nmI; rw [h]; rfl

set_option maxHeartbeats 400000 in
theorem isSmall_i (b : Int) (w : World) : Calls Try.prog 64 #[.int .u8 b] w fun e w' => e = .returned (.bool (smI b)) ∧ w = w' := by
  go_enter Try.func64, Try.ntmps64
  go_wp2
  all_goals
    go_ret
    exact ⟨ret_bool (by unfold smI; rw [Bool.eq_iff_iff]; simp; try omega), rfl⟩
set_option maxHeartbeats 400000 in
theorem isDigit_i (b : Int) (w : World) : Calls Try.prog 65 #[.int .u8 b] w fun e w' => e = .returned (.bool (dgI b)) ∧ w = w' := by
  go_enter Try.func65, Try.ntmps65
  go_wp2
  all_goals
    go_ret
    exact ⟨ret_bool (by unfold dgI; rw [Bool.eq_iff_iff]; simp; try omega), rfl⟩
set_option maxHeartbeats 400000 in
theorem isSmall_s (b : Int) (w : World) : Calls Try.prog 85 #[.int .u8 b] w fun e w' => e = .returned (.bool (smI b)) ∧ w = w' := by
  go_enter Try.func85, Try.ntmps85
  go_wp2
  all_goals
    go_ret
    exact ⟨ret_bool (by unfold smI; rw [Bool.eq_iff_iff]; simp; try omega), rfl⟩
set_option maxHeartbeats 400000 in
theorem isDigit_s (b : Int) (w : World) : Calls Try.prog 86 #[.int .u8 b] w fun e w' => e = .returned (.bool (dgI b)) ∧ w = w' := by
  go_enter Try.func86, Try.ntmps86
  go_wp2
  all_goals
    go_ret
    exact ⟨ret_bool (by unfold dgI; rw [Bool.eq_iff_iff]; simp; try omega), rfl⟩
set_option maxHeartbeats 1000000 in
theorem isName_i (s : ByteArray) (hs : s.size ≤ maxLen) (w : World) : Calls Try.prog 40 #[.string s] w fun e w' => e = .returned (.bool (isNm s)) ∧ w = w' := by
  unfold maxLen at hs
  by_cases h1 : 1 ≤ s.size
  · by_cases h2 : s.size ≤ 12
    · have e0 := byteAt_eq s 0 (by omega)
      cases h3 : smI (byteAt s 0)
      · have HR := hide (show isNm s = false by unfold isNm; rw [h3]; simp)
        have h4 : smI ((s[0]).toNat : Int) = false := by rw [e0]; exact h3
        clear e0 h3
        go_enter Try.func40, Try.ntmps40
        go_wp2_with (go_at_call 64; (with_reducible refine (isSmall_i _ _).mono ?_); rintro e w1 ⟨rfl, rfl⟩)
        go_ret
        exact ⟨ret_bool HR.out.symm, rfl⟩
      · have HF := hide (isNm_first h3)
        have HR := hide (show isNm s = allN (fun j => nmI (byteAt s j)) s.size by unfold isNm; rw [h3]; simp [h1, h2])
        have h4 : smI ((s[0]).toNat : Int) = true := by rw [e0]; exact h3
        clear e0 h3
        go_enter Try.func40, Try.ntmps40
        go_wp2_with (go_at_call 64; (with_reducible refine (isSmall_i _ _).mono ?_); rintro e w1 ⟨rfl, rfl⟩)
        clear h4
        go_loop [3] (fun i => ∃ k : Nat, 1 ≤ k ∧ k ≤ s.size ∧ i = .int .i64 k ∧ Hid (allN (fun j => nmI (byteAt s j)) k = true)) (fun i => s.size - (intOf i).toNat)
        case atStart => exact ⟨1, by omega, h1, rfl, by unfold Hid; simp [allN, HF.out]⟩
        case round =>
          obtain ⟨k, hk0, hk, rfl, ho⟩ := hrel
          by_cases hkn : k < s.size
          · have e1 := byteAt_eq s k hkn
            cases p1 : smI (byteAt s k)
            · cases p2 : dgI (byteAt s k)
              · cases p3 : (byteAt s k == 46)
                · have HE := hide (allN_f (p := fun j => nmI (byteAt s j)) (k := k) (by simp [nmI, p1, p2, p3]) s.size hkn)
                  have q1 : smI ((s[k]).toNat : Int) = false := by rw [e1]; exact p1
                  have q2 : dgI ((s[k]).toNat : Int) = false := by rw [e1]; exact p2
                  have q3 : (((s[k]).toNat : Int) == 46) = false := by rw [e1]; exact p3
                  have q4 : (((s[k]).toNat : Int) != 46) = true := by rw [bne, q3]; rfl
                  clear e1 p1 p2 p3
                  go_wp2_with (first | (go_at_call 64; (with_reducible refine (isSmall_i _ _).mono ?_); rintro e w1 ⟨rfl, rfl⟩) | (go_at_call 65; (with_reducible refine (isDigit_i _ _).mono ?_); rintro e w1 ⟨rfl, rfl⟩))
                  go_ret
                  exact ⟨ret_bool (by rw [HR.out, HE.out]), rfl⟩
                · have HE := hide (show allN (fun j => nmI (byteAt s j)) (k + 1) = true by rw [allN, ho.out]; simp [nmI, p3])
                  have q1 : smI ((s[k]).toNat : Int) = false := by rw [e1]; exact p1
                  have q2 : dgI ((s[k]).toNat : Int) = false := by rw [e1]; exact p2
                  have q3 : (((s[k]).toNat : Int) == 46) = true := by rw [e1]; exact p3
                  have q4 : (((s[k]).toNat : Int) != 46) = false := by rw [bne, q3]; rfl
                  clear e1 p1 p2 p3
                  go_wp2_with (first | (go_at_call 64; (with_reducible refine (isSmall_i _ _).mono ?_); rintro e w1 ⟨rfl, rfl⟩) | (go_at_call 65; (with_reducible refine (isDigit_i _ _).mono ?_); rintro e w1 ⟨rfl, rfl⟩))
                  go_round
                  case rel => exact ⟨k + 1, by omega, by omega, by go_num, HE⟩
                  case measure => simp [intOf]; omega
              · have HE := hide (show allN (fun j => nmI (byteAt s j)) (k + 1) = true by rw [allN, ho.out]; simp [nmI, p2])
                have q1 : smI ((s[k]).toNat : Int) = false := by rw [e1]; exact p1
                have q2 : dgI ((s[k]).toNat : Int) = true := by rw [e1]; exact p2
                clear e1 p1 p2
                go_wp2_with (first | (go_at_call 64; (with_reducible refine (isSmall_i _ _).mono ?_); rintro e w1 ⟨rfl, rfl⟩) | (go_at_call 65; (with_reducible refine (isDigit_i _ _).mono ?_); rintro e w1 ⟨rfl, rfl⟩))
                go_round
                case rel => exact ⟨k + 1, by omega, by omega, by go_num, HE⟩
                case measure => simp [intOf]; omega
            · have HE := hide (show allN (fun j => nmI (byteAt s j)) (k + 1) = true by rw [allN, ho.out]; simp [nmI, p1])
              have q1 : smI ((s[k]).toNat : Int) = true := by rw [e1]; exact p1
              clear e1 p1
              go_wp2_with (first | (go_at_call 64; (with_reducible refine (isSmall_i _ _).mono ?_); rintro e w1 ⟨rfl, rfl⟩) | (go_at_call 65; (with_reducible refine (isDigit_i _ _).mono ?_); rintro e w1 ⟨rfl, rfl⟩))
              go_round
              case rel => exact ⟨k + 1, by omega, by omega, by go_num, HE⟩
              case measure => simp [intOf]; omega
          · obtain rfl : k = s.size := by omega
            go_wp2
            go_ret
            exact ⟨ret_bool (by rw [HR.out, ho.out]), rfl⟩
    · have HR := hide (show isNm s = false by unfold isNm; simp [h2])
      have h3 : ¬ s.size < 1 := by omega
      go_enter Try.func40, Try.ntmps40
      go_wp2
      go_ret
      exact ⟨ret_bool HR.out.symm, rfl⟩
  · have HR := hide (show isNm s = false by unfold isNm; simp [h1])
    go_enter Try.func40, Try.ntmps40
    go_wp2
    go_ret
    exact ⟨ret_bool HR.out.symm, rfl⟩
set_option maxHeartbeats 1000000 in
theorem isName_s (s : ByteArray) (hs : s.size ≤ maxLen) (w : World) : Calls Try.prog 57 #[.string s] w fun e w' => e = .returned (.bool (isNm s)) ∧ w = w' := by
  unfold maxLen at hs
  by_cases h1 : 1 ≤ s.size
  · have hne : s.toList.isEmpty = false := by
      rw [ByteArray.toList_eq]
      have hl : s.data.toList.length = s.size := by simp
      cases hc : s.data.toList with
      | nil => rw [hc] at hl; simp at hl; omega
      | cons a b => rfl
    have hne2 : (!s.toList.isEmpty) = true := by rw [hne]; rfl
    by_cases h2 : s.size ≤ 12
    · have e0 := byteAt_eq s 0 (by omega)
      cases h3 : smI (byteAt s 0)
      · have HR := hide (show isNm s = false by unfold isNm; rw [h3]; simp)
        have h4 : smI ((s[0]).toNat : Int) = false := by rw [e0]; exact h3
        clear e0 h3
        go_enter Try.func57, Try.ntmps57
        go_wp2_with (go_at_call 85; (with_reducible refine (isSmall_s _ _).mono ?_); rintro e w1 ⟨rfl, rfl⟩)
        go_ret
        exact ⟨ret_bool HR.out.symm, rfl⟩
      · have HF := hide (isNm_first h3)
        have HR := hide (show isNm s = allN (fun j => nmI (byteAt s j)) s.size by unfold isNm; rw [h3]; simp [h1, h2])
        have h4 : smI ((s[0]).toNat : Int) = true := by rw [e0]; exact h3
        clear e0 h3
        go_enter Try.func57, Try.ntmps57
        go_wp2_with (go_at_call 85; (with_reducible refine (isSmall_s _ _).mono ?_); rintro e w1 ⟨rfl, rfl⟩)
        clear h4
        go_loop [3] (fun i => ∃ k : Nat, k ≤ s.size ∧ i = .int .i64 k ∧ Hid (allN (fun j => nmI (byteAt s j)) k = true)) (fun i => s.size - (intOf i).toNat)
        case atStart => exact ⟨0, by omega, rfl, rfl⟩
        case round =>
          obtain ⟨k, hk, rfl, ho⟩ := hrel
          by_cases hkn : k < s.size
          · have e1 := byteAt_eq s k hkn
            cases p1 : smI (byteAt s k)
            · cases p2 : dgI (byteAt s k)
              · cases p3 : (byteAt s k == 46)
                · have HE := hide (allN_f (p := fun j => nmI (byteAt s j)) (k := k) (by simp [nmI, p1, p2, p3]) s.size hkn)
                  have q1 : smI ((s[k]).toNat : Int) = false := by rw [e1]; exact p1
                  have q2 : dgI ((s[k]).toNat : Int) = false := by rw [e1]; exact p2
                  have q3 : (((s[k]).toNat : Int) == 46) = false := by rw [e1]; exact p3
                  have q4 : (((s[k]).toNat : Int) != 46) = true := by rw [bne, q3]; rfl
                  clear e1 p1 p2 p3
                  go_wp2_with (first | (go_at_call 85; (with_reducible refine (isSmall_s _ _).mono ?_); rintro e w1 ⟨rfl, rfl⟩) | (go_at_call 86; (with_reducible refine (isDigit_s _ _).mono ?_); rintro e w1 ⟨rfl, rfl⟩))
                  go_ret
                  exact ⟨ret_bool (by rw [HR.out, HE.out]), rfl⟩
                · have HE := hide (show allN (fun j => nmI (byteAt s j)) (k + 1) = true by rw [allN, ho.out]; simp [nmI, p3])
                  have q1 : smI ((s[k]).toNat : Int) = false := by rw [e1]; exact p1
                  have q2 : dgI ((s[k]).toNat : Int) = false := by rw [e1]; exact p2
                  have q3 : (((s[k]).toNat : Int) == 46) = true := by rw [e1]; exact p3
                  have q4 : (((s[k]).toNat : Int) != 46) = false := by rw [bne, q3]; rfl
                  clear e1 p1 p2 p3
                  go_wp2_with (first | (go_at_call 85; (with_reducible refine (isSmall_s _ _).mono ?_); rintro e w1 ⟨rfl, rfl⟩) | (go_at_call 86; (with_reducible refine (isDigit_s _ _).mono ?_); rintro e w1 ⟨rfl, rfl⟩))
                  go_round
                  case rel => exact ⟨k + 1, by omega, by go_num, HE⟩
                  case measure => simp [intOf]; omega
              · have HE := hide (show allN (fun j => nmI (byteAt s j)) (k + 1) = true by rw [allN, ho.out]; simp [nmI, p2])
                have q1 : smI ((s[k]).toNat : Int) = false := by rw [e1]; exact p1
                have q2 : dgI ((s[k]).toNat : Int) = true := by rw [e1]; exact p2
                clear e1 p1 p2
                go_wp2_with (first | (go_at_call 85; (with_reducible refine (isSmall_s _ _).mono ?_); rintro e w1 ⟨rfl, rfl⟩) | (go_at_call 86; (with_reducible refine (isDigit_s _ _).mono ?_); rintro e w1 ⟨rfl, rfl⟩))
                go_round
                case rel => exact ⟨k + 1, by omega, by go_num, HE⟩
                case measure => simp [intOf]; omega
            · have HE := hide (show allN (fun j => nmI (byteAt s j)) (k + 1) = true by rw [allN, ho.out]; simp [nmI, p1])
              have q1 : smI ((s[k]).toNat : Int) = true := by rw [e1]; exact p1
              clear e1 p1
              go_wp2_with (first | (go_at_call 85; (with_reducible refine (isSmall_s _ _).mono ?_); rintro e w1 ⟨rfl, rfl⟩) | (go_at_call 86; (with_reducible refine (isDigit_s _ _).mono ?_); rintro e w1 ⟨rfl, rfl⟩))
              go_round
              case rel => exact ⟨k + 1, by omega, by go_num, HE⟩
              case measure => simp [intOf]; omega
          · obtain rfl : k = s.size := by omega
            go_wp2
            go_ret
            exact ⟨ret_bool (by rw [HR.out, ho.out]), rfl⟩
    · have HR := hide (show isNm s = false by unfold isNm; simp [h2])
      have h3 : ¬ s.size < 1 := by omega
      go_enter Try.func57, Try.ntmps57
      go_wp2
      go_ret
      exact ⟨ret_bool HR.out.symm, rfl⟩
  · have HR := hide (show isNm s = false by unfold isNm; simp [h1])
    have hne : s.toList.isEmpty = true := by
      rw [ByteArray.toList_eq]
      have hl : s.data.toList.length = s.size := by simp
      cases hc : s.data.toList with
      | nil => rfl
      | cons a b => rw [hc] at hl; simp at hl; omega
    go_enter Try.func57, Try.ntmps57
    go_wp2
    go_ret
    exact ⟨ret_bool HR.out.symm, rfl⟩
end Go.Proofs.Ythojgmhionekbaa
