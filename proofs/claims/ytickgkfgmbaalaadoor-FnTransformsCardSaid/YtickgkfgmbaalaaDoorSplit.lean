/-
  PLAIN LAW of SplitWords: the parts between blanks that are not empty are the words that one pass finds. Conditions: none.
-/
import Derived.Test.YtickgkfgmbaalaaDoorName
namespace Go.Proofs.YtickgkfgmbaalaaDoor
open Go.RowKit Go.Sort
set_option linter.unusedVariables false

/-- one pass: where the word under way begins (-1: nowhere), and the words so far -/
def stI (s : ByteArray) : Nat → Int
  | 0 => -1
  | k + 1 => if byteAt s k = 32 then -1 else if stI s k < 0 then k else stI s k
def wsI (s : ByteArray) : Nat → List ByteArray
  | 0 => []
  | k + 1 => if byteAt s k = 32 ∧ 0 ≤ stI s k then wsI s k ++ [s.extract (stI s k).toNat k] else wsI s k
def wordsOf (s : ByteArray) : List ByteArray := if 0 ≤ stI s s.size then wsI s s.size ++ [s.extract (stI s s.size).toNat s.size] else wsI s s.size
/-- the parts between the bytes b: where the part under way begins, and the parts so far -/
def frS (s : ByteArray) (b : Int) : Nat → Nat
  | 0 => 0
  | k + 1 => if byteAt s k = b then k + 1 else frS s b k
def wsS (s : ByteArray) (b : Int) : Nat → List ByteArray
  | 0 => []
  | k + 1 => if byteAt s k = b then wsS s b k ++ [s.extract (frS s b k) k] else wsS s b k
def splitOf (s : ByteArray) (b : Int) : List ByteArray := wsS s b s.size ++ [s.extract (frS s b s.size) s.size]
def full (x : ByteArray) : Bool := decide (x.size ≠ 0)
theorem frS_le (s : ByteArray) (b : Int) : ∀ k, frS s b k ≤ k
  | 0 => Nat.le_refl _
  | k + 1 => by
    unfold frS
    have := frS_le s b k
    split <;> omega
theorem wsS_len (s : ByteArray) (b : Int) : ∀ k, (wsS s b k).length ≤ k
  | 0 => Nat.le_refl _
  | k + 1 => by
    unfold wsS
    have := wsS_len s b k
    split
    · simp; omega
    · omega
theorem splitOf_len (s : ByteArray) (b : Int) : (splitOf s b).length ≤ s.size + 1 := by
  have := wsS_len s b s.size
  unfold splitOf; simp; omega
theorem wsI_len (s : ByteArray) : ∀ k, (wsI s k).length ≤ k
  | 0 => Nat.le_refl _
  | k + 1 => by
    unfold wsI
    have := wsI_len s k
    split
    · simp; omega
    · omega
theorem wordsOf_len (s : ByteArray) : (wordsOf s).length ≤ s.size + 1 := by
  have := wsI_len s s.size
  unfold wordsOf; split
  · simp; omega
  · omega
theorem stI_bd (s : ByteArray) : ∀ k, -1 ≤ stI s k ∧ stI s k < k ∨ stI s k = -1
  | 0 => .inr rfl
  | k + 1 => by
    have := stI_bd s k
    unfold stI
    split
    · exact .inr rfl
    · split
      · left; omega
      · left; omega
theorem full_ext (s : ByteArray) {a k : Nat} (h1 : a < k) (h2 : k ≤ s.size) : full (s.extract a k) = true := by
  unfold full
  apply decide_eq_true
  rw [ByteArray.size_extract]; omega
theorem full_no (s : ByteArray) (k : Nat) : full (s.extract k k) = false := by
  unfold full
  apply decide_eq_false
  rw [ByteArray.size_extract]; omega
theorem wsS_s (s : ByteArray) (b : Int) (k : Nat) : wsS s b (k + 1) = if byteAt s k = b then wsS s b k ++ [s.extract (frS s b k) k] else wsS s b k := rfl
theorem wsI_s (s : ByteArray) (k : Nat) : wsI s (k + 1) = if byteAt s k = 32 ∧ 0 ≤ stI s k then wsI s k ++ [s.extract (stI s k).toNat k] else wsI s k := rfl
theorem frS_s (s : ByteArray) (b : Int) (k : Nat) : frS s b (k + 1) = if byteAt s k = b then k + 1 else frS s b k := rfl
theorem stI_s (s : ByteArray) (k : Nat) : stI s (k + 1) = if byteAt s k = 32 then -1 else if stI s k < 0 then (k : Int) else stI s k := rfl
theorem filt_no (s : ByteArray) (k : Nat) : [s.extract k k].filter full = [] := by
  rw [List.filter_cons_of_neg (by rw [full_no]; decide)]; rfl
theorem filt_yes (s : ByteArray) {a k : Nat} (h1 : a < k) (h2 : k ≤ s.size) : [s.extract a k].filter full = [s.extract a k] := by
  rw [List.filter_cons_of_pos (full_ext s h1 h2)]; rfl
theorem split_inv (s : ByteArray) : ∀ k, k ≤ s.size → (wsS s 32 k).filter full = wsI s k ∧ (frS s 32 k = k ∧ stI s k = -1 ∨ frS s 32 k < k ∧ stI s k = (frS s 32 k : Int))
  | 0, _ => ⟨rfl, .inl ⟨rfl, rfl⟩⟩
  | k + 1, hk => by
    obtain ⟨h1, h2⟩ := split_inv s k (by omega)
    rw [wsS_s, wsI_s, frS_s, stI_s]
    by_cases hb : byteAt s k = 32
    · rw [if_pos hb, if_pos hb, if_pos hb]
      refine ⟨?_, .inl ⟨rfl, rfl⟩⟩
      rw [List.filter_append, h1]
      rcases h2 with ⟨e1, e2⟩ | ⟨e1, e2⟩
      · rw [if_neg (fun h => by have := h.2; omega), e1, filt_no, List.append_nil]
      · rw [if_pos ⟨hb, by omega⟩]
        have e3 : (stI s k).toNat = frS s 32 k := by omega
        rw [e3, filt_yes s e1 (by omega)]
    · rw [if_neg hb, if_neg hb, if_neg hb, if_neg (fun h => hb h.1)]
      refine ⟨h1, ?_⟩
      rcases h2 with ⟨e1, e2⟩ | ⟨e1, e2⟩
      · rw [if_pos (by omega)]; right; omega
      · rw [if_neg (by omega)]; right; omega
theorem split_words (s : ByteArray) : (splitOf s 32).filter full = wordsOf s := by
  obtain ⟨h1, h2⟩ := split_inv s s.size (Nat.le_refl _)
  unfold splitOf wordsOf
  rw [List.filter_append, h1]
  rcases h2 with ⟨e1, e2⟩ | ⟨e1, e2⟩
  · rw [if_neg (by omega), e1, filt_no, List.append_nil]
  · rw [if_pos (by omega)]
    have e3 : (stI s s.size).toNat = frS s 32 s.size := by omega
    rw [e3, filt_yes s e1 (Nat.le_refl _)]
end Go.Proofs.YtickgkfgmbaalaaDoor
