/-
  PLAIN LAW: the pieces that strings.Split finds at one blank are the parts between blanks. Conditions: none.
-/
import Derived.Test.YtickgkfgmbaalaaDoorCutP
import Derived.Lib.SplitLaws
import Derived.Lib.CountLaws
import Derived.Lib.IndexBytes
namespace Go.Proofs.YtickgkfgmbaalaaDoor
open Go.RowKit Go.Sort
set_option linter.unusedVariables false
def sep32 : ByteArray := ⟨#[32]⟩
theorem indexB_32 (s : ByteArray) : Lib.indexB s sep32 = fstI s 32 := Lib.index_one _ _
theorem ext_all (s : ByteArray) : s.extract 0 s.size = s := by
  obtain ⟨⟨l⟩⟩ := s
  apply ByteArray.ext
  simp [ByteArray.size]
theorem ext_ext (s : ByteArray) {a e c d : Nat} (h : a + d ≤ e) : (s.extract a e).extract c d = s.extract (a + c) (a + d) := by
  obtain ⟨l⟩ := s
  apply ByteArray.ext
  simp only [ByteArray.data_extract, Array.extract_extract]
  rw [Nat.min_eq_left h]
theorem ext_size (s : ByteArray) {a : Nat} (h : a ≤ s.size) : (s.extract a s.size).size = s.size - a := by
  simp
theorem split_tail {s : ByteArray} {b : Int} {i : Nat} (hl : i < s.size) (hi : byteAt s i = b) (h : ∀ j, j < i → byteAt s j ≠ b) : ∀ m, i + 1 + m ≤ s.size →
    frS s b (i + 1 + m) = i + 1 + frS (s.extract (i + 1) s.size) b m ∧ wsS s b (i + 1 + m) = s.extract 0 i :: wsS (s.extract (i + 1) s.size) b m
  | 0, _ => by
    obtain ⟨h1, h2⟩ := split_none i h
    constructor
    · show (if byteAt s i = b then i + 1 else frS s b i) = _
      rw [if_pos hi]; rfl
    · show (if byteAt s i = b then wsS s b i ++ [s.extract (frS s b i) i] else wsS s b i) = _
      rw [if_pos hi, h1, h2]; rfl
  | m + 1, hm => by
    obtain ⟨h1, h2⟩ := split_tail hl hi h m (by omega)
    have hb : byteAt (s.extract (i + 1) s.size) m = byteAt s (i + 1 + m) := byteAt_ext s (by omega) (Nat.le_refl _)
    have e1 : frS s b (i + 1 + (m + 1)) = if byteAt s (i + 1 + m) = b then i + 1 + m + 1 else frS s b (i + 1 + m) := rfl
    have e2 : wsS s b (i + 1 + (m + 1)) = if byteAt s (i + 1 + m) = b then wsS s b (i + 1 + m) ++ [s.extract (frS s b (i + 1 + m)) (i + 1 + m)] else wsS s b (i + 1 + m) := rfl
    rw [e1, e2, frS, wsS, hb]
    by_cases hc : byteAt s (i + 1 + m) = b
    · rw [if_pos hc, if_pos hc, if_pos hc, if_pos hc, h1, h2, ext_ext s (by omega)]
      exact ⟨by omega, rfl⟩
    · rw [if_neg hc, if_neg hc, if_neg hc, if_neg hc]
      exact ⟨h1, h2⟩
theorem split_next {s : ByteArray} {b : Int} {i : Nat} (hl : i < s.size) (hi : byteAt s i = b) (h : ∀ j, j < i → byteAt s j ≠ b) : splitOf s b = s.extract 0 i :: splitOf (s.extract (i + 1) s.size) b := by
  obtain ⟨h1, h2⟩ := split_tail hl hi h (s.size - (i + 1)) (by omega)
  have e : i + 1 + (s.size - (i + 1)) = s.size := by omega
  rw [e] at h1 h2
  have hz := ext_size s (a := i + 1) (by omega)
  unfold splitOf
  rw [h1, h2, hz, ext_ext s (by omega), e]
  rfl
theorem splitB_of : ∀ (k : Nat) (s : ByteArray), Lib.countB s sep32 = k → Lib.splitB sep32 0 k s = splitOf s 32
  | 0, s, hk => by
    rcases Lib.indexB_cases s sep32 with h | ⟨i, h, _⟩
    · rw [indexB_32] at h
      have hm := split_miss (b := 32) (s := s) (fst_none h)
      rw [Lib.splitB_zero, hm, ext_all]
    · rw [Lib.countB_hit s sep32 i (by decide) h] at hk
      omega
  | k + 1, s, hk => by
    rcases Lib.indexB_cases s sep32 with h | ⟨i, h, _⟩
    · rw [Lib.countB_miss s sep32 h] at hk
      omega
    · have hc := Lib.countB_hit s sep32 i (by decide) h
      rw [Lib.splitB_hit sep32 0 k s i h]
      have e1 : sep32.size = 1 := rfl
      rw [e1] at hc ⊢
      rw [splitB_of k _ (by omega)]
      rw [indexB_32] at h
      obtain ⟨h1, h2, h3⟩ := fst_some h
      have hn := split_next (b := 32) h1 h2 h3
      rw [hn, Nat.add_zero]
end Go.Proofs.YtickgkfgmbaalaaDoor
