/-
  CONTRACTS of ReadDecimal (packages impl and spec): the number of a decimal text. And the walk of its law. Conditions: none.
-/
import Derived.Test.YthojgmhionekbaaDec
import Derived.Test.YthojgmhionekbaaName
import Derived.Shelf.Small.Wraps
import Derived.Lib.Agree
namespace Go.Proofs.Ythojgmhionekbaa
open Go.RowKit Go.Shelf
set_option linter.unusedVariables false

theorem bareL_ne {x : UInt8} {r : List UInt8} (h : x ≠ 45) : bareL (x :: r) = x :: r := by
  unfold bareL
  split
  · rename_i h2; exact absurd (List.cons.inj h2).1 h
  · rfl
theorem negL_ne {x : UInt8} {r : List UInt8} (h : x ≠ 45) : negL (x :: r) = false := by
  unfold negL
  split
  · rename_i h2; exact absurd (List.cons.inj h2).1 h
  · rfl
theorem trim_bare (l : List UInt8) : Lib.trimPrefix l [45] = bareL l := by
  cases l with
  | nil => rfl
  | cons x r =>
    by_cases h : x = 45
    · subst h; rfl
    · rw [bareL_ne h]
      have : Lib.hasPrefix (x :: r) [45] = false := by
        have e : (45 == x) = false := by simp [Ne.symm h]
        show ([45] : List UInt8).isPrefixOf (x :: r) = false
        simp only [List.isPrefixOf, e, Bool.false_and]
      unfold Lib.trimPrefix
      rw [this]; rfl
theorem has_neg (l : List UInt8) : Lib.hasPrefix l [45] = negL l := by
  cases l with
  | nil => rfl
  | cons x r =>
    by_cases h : x = 45
    · subst h; rfl
    · rw [negL_ne h]
      have e : (45 == x) = false := by simp [Ne.symm h]
      show ([45] : List UInt8).isPrefixOf (x :: r) = false
      simp only [List.isPrefixOf, e, Bool.false_and]

theorem ba_beq {a s : ByteArray} (h : a = s) : (a.toList == s.toList) = true := by rw [h]; exact beq_self_eq_true _
theorem ba_bne {a s : ByteArray} (h : a = s) : (a.toList != s.toList) = false := by rw [bne, ba_beq h]; rfl
theorem ba_nbeq {a s : ByteArray} (h : ¬ a = s) : (a.toList == s.toList) = false := by
  refine (beq_eq_false_iff_ne).mpr fun x => h ?_
  rw [ByteArray.toList_eq, ByteArray.toList_eq] at x
  obtain ⟨⟨d⟩⟩ := a
  obtain ⟨⟨e⟩⟩ := s
  have : d = e := x
  rw [this]
theorem ba_nbne {a s : ByteArray} (h : ¬ a = s) : (a.toList != s.toList) = true := by rw [bne, ba_nbeq h]; rfl
/-- the digits, the sign, the value of the first digits -/
def rs (s : ByteArray) : ByteArray := ⟨(bareL s.data.toList).toArray⟩
def ng (s : ByteArray) : Bool := negL s.data.toList
def vN (r : ByteArray) : Nat → Int
  | 0 => 0
  | k + 1 => vN r k * 10 + (byteAt r k - 48)
def dgs (r : ByteArray) (k : Nat) : Bool := allN (fun j => dgI (byteAt r j)) k
theorem vN_bd (r : ByteArray) : ∀ k, dgs r k = true → 0 ≤ vN r k ∧ vN r k < ((10 ^ k : Nat) : Int)
  | 0, _ => by simp [vN]
  | k + 1, h => by
    unfold dgs at h
    simp only [allN, Bool.and_eq_true] at h
    obtain ⟨h0, h1⟩ := vN_bd r k h.1
    have h2 : 48 ≤ byteAt r k ∧ byteAt r k ≤ 57 := of_decide_eq_true h.2
    rw [vN, Nat.pow_succ]
    omega
theorem vN_17 (r : ByteArray) (k : Nat) (hk : k ≤ 17) (h : dgs r k = true) : 0 ≤ vN r k ∧ vN r k ≤ 100000000000000000 := by
  obtain ⟨h0, h1⟩ := vN_bd r k h
  have : 10 ^ k ≤ 10 ^ 17 := Nat.pow_le_pow_right (by decide) hk
  omega
theorem vN_18 (r : ByteArray) (k : Nat) (hk : k ≤ 18) (h : dgs r k = true) : 0 ≤ vN r k ∧ vN r k ≤ 1000000000000000000 := by
  obtain ⟨h0, h1⟩ := vN_bd r k h
  have : 10 ^ k ≤ 10 ^ 18 := Nat.pow_le_pow_right (by decide) hk
  omega
def rdAll (s : ByteArray) : Bool := decide (1 ≤ (rs s).size) && decide ((rs s).size ≤ 18) && dgs (rs s) (rs s).size
def rdV (s : ByteArray) : Int := if ng s then -(vN (rs s) (rs s).size) else vN (rs s) (rs s).size
def rdOk (s : ByteArray) : Bool := rdAll s && decide (decB (rdV s) = s)
def rdN (s : ByteArray) : Int := if rdOk s then rdV s else 0
def rdT (s : ByteArray) : Value := .tuple #[.int .i64 (rdN s), .bool (rdOk s)]
theorem rdT_f {s : ByteArray} (h : rdOk s = false) : rdT s = .tuple #[.int .i64 0, .bool false] := by unfold rdT rdN; rw [h]; rfl
theorem rdT_t {s : ByteArray} (h : rdOk s = true) : rdT s = .tuple #[.int .i64 (rdV s), .bool true] := by unfold rdT rdN; rw [h]; rfl

end Go.Proofs.Ythojgmhionekbaa
