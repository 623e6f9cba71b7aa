/-
  CONTRACTS of the functions on names (impl.IsName, spec.IsName) and their bytes; the world stays. Conditions: none (lengths are those of any string).
-/
import Derived.Test.YtickgkfgmbaalaaDoorBase
namespace Go.Proofs.YtickgkfgmbaalaaDoor
open Go.RowKit Go.Sort
set_option linter.unusedVariables false

/-- the byte of a string at a place -/
def byteAt (s : ByteArray) (k : Nat) : Int := ((s.data.toList.getD k 0).toNat : Int)
theorem byteAt_eq (s : ByteArray) (k : Nat) (h : k < s.size) : ((s[k]).toNat : Int) = byteAt s k := by
  have h' : k < s.data.toList.length := by simpa using h
  unfold byteAt
  rw [List.getD_eq_getElem?_getD, List.getElem?_eq_getElem h']
  rfl
theorem byteAt_bd (s : ByteArray) (k : Nat) : 0 ≤ byteAt s k ∧ byteAt s k ≤ 255 := by
  unfold byteAt
  have := UInt8.toNat_lt (s.data.toList.getD k 0)
  omega
/-- p at each place below n -/
def allN (p : Nat → Bool) : Nat → Bool
  | 0 => true
  | n + 1 => allN p n && p n
theorem allN_f {p : Nat → Bool} {k : Nat} (h : p k = false) : ∀ n, k < n → allN p n = false
  | 0, hk => by omega
  | n + 1, hk => by
    by_cases e : k = n
    · subst e; simp [allN, h]
    · simp [allN, allN_f h n (by omega)]
theorem allN_t {p : Nat → Bool} : ∀ n, allN p n = true → ∀ k, k < n → p k = true
  | 0, _, k, hk => by omega
  | n + 1, h, k, hk => by
    simp only [allN, Bool.and_eq_true] at h
    by_cases e : k = n
    · subst e; exact h.2
    · exact allN_t n h.1 k (by omega)
/-- a small letter, a digit, a byte of a name -/
def smI (b : Int) : Bool := decide (97 ≤ b ∧ b ≤ 122)
def dgI (b : Int) : Bool := decide (48 ≤ b ∧ b ≤ 57)
def nmI (b : Int) : Bool := smI b || dgI b || (b == 46)
/-- a name -/
def isNm (s : ByteArray) : Bool := decide (1 ≤ s.size) && decide (s.size ≤ 12) && smI (byteAt s 0) && allN (fun j => nmI (byteAt s j)) s.size
theorem isNm_first {s : ByteArray} (h : smI (byteAt s 0) = true) : nmI (byteAt s 0) = true := by unfold nmI; rw [h]; rfl

set_option maxHeartbeats 400000 in
theorem isDigit_i (b : Int) (w : World) : Calls Tryd.prog 76 #[.int .u8 b] w fun e w' => e = .returned (.bool (dgI b)) ∧ w = w' := by
  go_enter Tryd.func76, Tryd.ntmps76
  go_wp2
  all_goals
    go_ret
    exact ⟨ret_bool (by unfold dgI; rw [Bool.eq_iff_iff]; simp; try omega), rfl⟩
end Go.Proofs.YtickgkfgmbaalaaDoor
