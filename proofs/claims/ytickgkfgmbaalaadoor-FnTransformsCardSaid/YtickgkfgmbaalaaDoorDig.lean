/-
  PLAIN LAW OF DECIMAL TEXTS: the digits of a number, the text of a number, the number of a text. No program in sight. Conditions: those of each lemma.
-/
import Derived.WalkKit
namespace Go.Proofs.YtickgkfgmbaalaaDoor
open Go.RowKit
set_option linter.unusedVariables false

/-- the digit of n below ten, as a byte -/
def dg (n : Nat) : UInt8 := UInt8.ofNat (48 + n)
theorem dg_toNat {n : Nat} (h : n < 10) : (dg n).toNat = 48 + n := by
  unfold dg; rw [UInt8.toNat_ofNat']; exact Nat.mod_eq_of_lt (by omega)
/-- the digits of a number, none of 0 -/
def digs0 (n : Nat) : List UInt8 := if h : n = 0 then [] else digs0 (n / 10) ++ [dg (n % 10)]
decreasing_by omega
theorem digs0_zero : digs0 0 = [] := by rw [digs0]; simp
theorem digs0_pos {n : Nat} (h : n ≠ 0) : digs0 n = digs0 (n / 10) ++ [dg (n % 10)] := by rw [digs0]; simp [h]
/-- the digits of a number -/
def digs (n : Nat) : List UInt8 := if n = 0 then [48] else digs0 n
theorem digs_eq (n : Nat) : digs n = digs0 (n / 10) ++ [dg (n % 10)] := by
  unfold digs
  by_cases h : n = 0
  · subst h; simp [digs0_zero, dg]
  · rw [if_neg h, digs0_pos h]
/-- the text of a number -/
def decL (n : Int) : List UInt8 := if n < 0 then 45 :: digs n.natAbs else digs n.natAbs
def decB (n : Int) : ByteArray := ⟨(decL n).toArray⟩
theorem digs0_len (k : Nat) : ∀ n, n < 10 ^ k → (digs0 n).length ≤ k := by
  induction k with
  | zero => intro n h; have : n = 0 := by simpa using h
            subst this; simp [digs0_zero]
  | succ k ih =>
    intro n h
    by_cases h0 : n = 0
    · subst h0; simp [digs0_zero]
    · rw [digs0_pos h0]; simp
      exact ih _ (by rw [Nat.pow_succ] at h; omega)
theorem digs_len {n : Nat} {k : Nat} (hk : 1 ≤ k) (h : n < 10 ^ k) : 1 ≤ (digs n).length ∧ (digs n).length ≤ k := by
  unfold digs
  by_cases h0 : n = 0
  · subst h0; simp; exact hk
  · rw [if_neg h0]
    refine ⟨by rw [digs0_pos h0]; simp, digs0_len k n h⟩
theorem digs_ne (n : Nat) : digs n ≠ [] := by rw [digs_eq]; simp
/-- a digit -/
def isDg (c : UInt8) : Bool := 48 ≤ c && c ≤ 57
theorem isDg_dg {n : Nat} (h : n < 10) : isDg (dg n) = true := by
  unfold isDg; simp [UInt8.le_iff_toNat_le, dg_toNat h]; omega
theorem digs0_all (n : Nat) : (digs0 n).all isDg = true := by
  induction n using Nat.strongRecOn with
  | _ n ih =>
    by_cases h : n = 0
    · subst h; simp [digs0_zero]
    · rw [digs0_pos h, List.all_append, ih (n / 10) (by omega)]
      simp [isDg_dg (Nat.mod_lt n (by omega))]
theorem digs_all (n : Nat) : (digs n).all isDg = true := by
  rw [digs_eq, List.all_append, digs0_all]
  simp [isDg_dg (Nat.mod_lt n (by omega))]
/-- the number of some digits -/
def valL (l : List UInt8) : Nat := l.foldl (fun n c => n * 10 + (c.toNat - 48)) 0
theorem valL_snoc (l : List UInt8) (c : UInt8) : valL (l ++ [c]) = valL l * 10 + (c.toNat - 48) := by
  unfold valL; rw [List.foldl_append]; rfl
theorem valL_digs0 (n : Nat) : valL (digs0 n) = n := by
  induction n using Nat.strongRecOn with
  | _ n ih =>
    by_cases h : n = 0
    · subst h; simp [digs0_zero, valL]
    · rw [digs0_pos h, valL_snoc, ih (n / 10) (by omega), dg_toNat (Nat.mod_lt n (by omega))]
      omega
theorem valL_digs (n : Nat) : valL (digs n) = n := by
  rw [digs_eq, valL_snoc, valL_digs0, dg_toNat (Nat.mod_lt n (by omega))]
  omega
theorem isDg_le {c : UInt8} (h : isDg c = true) : 48 ≤ c.toNat ∧ c.toNat ≤ 57 := by
  unfold isDg at h; simpa [UInt8.le_iff_toNat_le] using h
theorem valL_go (l : List UInt8) (h : l.all isDg = true) : ∀ acc : Nat, l.foldl (fun n c => n * 10 + (c.toNat - 48)) acc < (acc + 1) * 10 ^ l.length := by
  induction l with
  | nil => intro acc; simp
  | cons c l ih =>
    intro acc
    simp only [List.all_cons, Bool.and_eq_true] at h
    have hc := isDg_le h.1
    have h1 := ih h.2 (acc * 10 + (c.toNat - 48))
    have h2 : (acc * 10 + (c.toNat - 48) + 1) * 10 ^ l.length ≤ ((acc + 1) * 10) * 10 ^ l.length := Nat.mul_le_mul_right _ (by omega)
    rw [List.foldl_cons, List.length_cons, Nat.pow_succ, Nat.mul_comm (10 ^ l.length) 10, ← Nat.mul_assoc]
    omega
theorem valL_lt (l : List UInt8) (h : l.all isDg = true) : valL l < 10 ^ l.length := by
  have := valL_go l h 0
  simpa [valL] using this
/-- a text's head, if it is a minus, is struck -/
def bareL : List UInt8 → List UInt8
  | 45 :: r => r
  | l => l
def negL : List UInt8 → Bool
  | 45 :: _ => true
  | _ => false
/-- the number of a text, by its digits alone -/
def numL (l : List UInt8) : Int := if negL l then -(valL (bareL l) : Int) else valL (bareL l)
/-- is it the text of a number of at most 18 digits? -/
def okDec (l : List UInt8) : Bool := decide (1 ≤ (bareL l).length) && decide ((bareL l).length ≤ 18) && (bareL l).all isDg && (decL (numL l) == l)
def readN (l : List UInt8) : Int := if okDec l then numL l else 0
end Go.Proofs.YtickgkfgmbaalaaDoor
