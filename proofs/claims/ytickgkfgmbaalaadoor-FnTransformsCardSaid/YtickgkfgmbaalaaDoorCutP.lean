/-
  PLAIN: a text cut at its first byte of a kind, against its parts between such bytes; what a decimal text may hold. Conditions: none.
-/
import Derived.Test.YtickgkfgmbaalaaDoorRead
import Derived.Test.YtickgkfgmbaalaaDoorSplit
import Derived.Test.YtickgkfgmbaalaaDoorPt
import Derived.Lib.IndexLaws
namespace Go.Proofs.YtickgkfgmbaalaaDoor
open Go.RowKit Go.Sort
set_option linter.unusedVariables false

/-- the first place of a byte (-1: nowhere) -/
def fstI (s : ByteArray) (c : UInt8) : Int := Lib.indexByte s.data.toList c
theorem byteAt_of {s : ByteArray} {k : Nat} {c : UInt8} (hk : k < s.size) : byteAt s k = (c.toNat : Int) ↔ s.data.toList[k]? = some c := by
  have h : k < s.data.toList.length := by simpa using hk
  unfold byteAt
  rw [List.getD_eq_getElem?_getD, List.getElem?_eq_getElem h]
  simp only [Option.getD_some, Option.some.injEq]
  constructor
  · intro e
    apply UInt8.toNat_inj.mp
    omega
  · intro e; rw [e]
theorem fst_none {s : ByteArray} {c : UInt8} (h : fstI s c = -1) : ∀ k, k < s.size → byteAt s k ≠ (c.toNat : Int) := fun k hk e => Lib.indexByte_none h k ((byteAt_of hk).1 e)
theorem fst_some {s : ByteArray} {c : UInt8} {i : Nat} (h : fstI s c = i) : i < s.size ∧ byteAt s i = (c.toNat : Int) ∧ ∀ k, k < i → byteAt s k ≠ (c.toNat : Int) := by
  obtain ⟨h1, h2⟩ := Lib.indexByte_some h
  have hi : i < s.size := by
    have := (List.getElem?_eq_some_iff.1 h1).1
    simpa using this
  exact ⟨hi, (byteAt_of hi).2 h1, fun k hk e => h2 k hk ((byteAt_of (by omega)).1 e)⟩
theorem fst_cases (s : ByteArray) (c : UInt8) : fstI s c = -1 ∨ ∃ i : Nat, fstI s c = i := by
  have := Lib.indexByte_ge s.data.toList c
  unfold fstI
  by_cases h : Lib.indexByte s.data.toList c = -1
  · exact .inl h
  · exact .inr ⟨(Lib.indexByte s.data.toList c).toNat, by omega⟩
/-- no such byte so far: one part under way from the beginning -/
theorem split_none {s : ByteArray} {b : Int} : ∀ k, (∀ j, j < k → byteAt s j ≠ b) → frS s b k = 0 ∧ wsS s b k = []
  | 0, _ => ⟨rfl, rfl⟩
  | k + 1, h => by
    obtain ⟨h1, h2⟩ := split_none k (fun j hj => h j (by omega))
    unfold frS wsS
    rw [if_neg (h k (by omega)), if_neg (h k (by omega))]
    exact ⟨h1, h2⟩
theorem split_miss {s : ByteArray} {b : Int} (h : ∀ j, j < s.size → byteAt s j ≠ b) : splitOf s b = [s.extract 0 s.size] := by
  obtain ⟨h1, h2⟩ := split_none s.size h
  unfold splitOf
  rw [h1, h2]; rfl
/-- behind the first such byte -/
theorem split_more {s : ByteArray} {b : Int} {i : Nat} (hi : byteAt s i = b) (h : ∀ j, j < i → byteAt s j ≠ b) : ∀ m,
    ((∀ j, j < m → byteAt s (i + 1 + j) ≠ b) → frS s b (i + 1 + m) = i + 1 ∧ wsS s b (i + 1 + m) = [s.extract 0 i]) ∧ (¬ (∀ j, j < m → byteAt s (i + 1 + j) ≠ b) → 2 ≤ (wsS s b (i + 1 + m)).length) ∧ 1 ≤ (wsS s b (i + 1 + m)).length
  | 0 => by
    obtain ⟨h1, h2⟩ := split_none i h
    have e1 : frS s b (i + 1) = i + 1 := by unfold frS; rw [if_pos hi]
    have e2 : wsS s b (i + 1) = [s.extract 0 i] := by unfold wsS; rw [if_pos hi, h1, h2]; rfl
    refine ⟨fun _ => ⟨e1, e2⟩, fun k => absurd (fun j hj => by omega) k, ?_⟩
    show 1 ≤ (wsS s b (i + 1)).length
    rw [e2]; simp
  | m + 1 => by
    obtain ⟨h1, h2, h3⟩ := split_more hi h m
    by_cases hb : byteAt s (i + 1 + m) = b
    · have e2 : wsS s b (i + 1 + (m + 1)) = wsS s b (i + 1 + m) ++ [s.extract (frS s b (i + 1 + m)) (i + 1 + m)] := by
        show wsS s b (i + 1 + m + 1) = _
        rw [wsS, if_pos hb]
      rw [e2]
      refine ⟨fun k => absurd hb (k m (by omega)), fun _ => ?_, ?_⟩ <;> simp <;> omega
    · have e1 : frS s b (i + 1 + (m + 1)) = frS s b (i + 1 + m) := by
        show frS s b (i + 1 + m + 1) = _
        rw [frS, if_neg hb]
      have e2 : wsS s b (i + 1 + (m + 1)) = wsS s b (i + 1 + m) := by
        show wsS s b (i + 1 + m + 1) = _
        rw [wsS, if_neg hb]
      rw [e1, e2]
      refine ⟨fun k => h1 (fun j hj => k j (by omega)), fun k => h2 (fun k2 => k (fun j hj => ?_)), h3⟩
      by_cases e : j = m
      · subst e; exact hb
      · exact k2 j (by omega)
theorem split_hit {s : ByteArray} {b : Int} {i : Nat} (hl : i < s.size) (hi : byteAt s i = b) (h : ∀ j, j < i → byteAt s j ≠ b) :
    (splitOf s b = [s.extract 0 i, s.extract (i + 1) s.size] ∧ ∀ j, i < j → j < s.size → byteAt s j ≠ b) ∨ (3 ≤ (splitOf s b).length ∧ ∃ j, i < j ∧ j < s.size ∧ byteAt s j = b) := by
  obtain ⟨h1, h2, _⟩ := split_more hi h (s.size - (i + 1))
  have e : i + 1 + (s.size - (i + 1)) = s.size := by omega
  rw [e] at h1 h2
  by_cases k : ∀ j, j < s.size - (i + 1) → byteAt s (i + 1 + j) ≠ b
  · left
    obtain ⟨e1, e2⟩ := h1 k
    refine ⟨by unfold splitOf; rw [e1, e2]; rfl, fun j h3 h4 => ?_⟩
    have := k (j - (i + 1)) (by omega)
    rwa [show i + 1 + (j - (i + 1)) = j by omega] at this
  · right
    have h3 := h2 k
    refine ⟨by unfold splitOf; simp; omega, ?_⟩
    apply Classical.byContradiction
    intro hn
    refine k fun j hj e3 => hn ⟨i + 1 + j, by omega, by omega, e3⟩
/-- the bytes of a part -/
theorem byteAt_ext (s : ByteArray) {a e k : Nat} (h : a + k < e) (he : e ≤ s.size) : byteAt (s.extract a e) k = byteAt s (a + k) := by
  have h1 : k < (s.extract a e).size := by rw [ByteArray.size_extract]; omega
  have h2 : a + k < s.size := by omega
  rw [← byteAt_eq _ _ h1, ← byteAt_eq _ _ h2]
  congr 2
  rw [ByteArray.getElem_extract]
/-- a decimal text holds digits, and a minus at its head -/
theorem dec_bytes {y : ByteArray} (h : dgs (rs y) (rs y).size = true) : ∀ k, k < y.size → byteAt y k = 45 ∨ (48 ≤ byteAt y k ∧ byteAt y k ≤ 57) := by
  have hd := allN_t (p := fun j => dgI (byteAt (rs y) j)) _ h
  intro k hk
  cases hn : ng y
  · rw [rs_pos hn] at hd
    have := hd k hk
    exact .inr (of_decide_eq_true this)
  · obtain ⟨e1, e2, e3⟩ := rs_neg hn
    cases k with
    | zero =>
      left
      obtain ⟨⟨l⟩⟩ := y
      cases l with
      | nil => simp [ng, negL] at hn
      | cons x r =>
        by_cases hx : x = 45
        · subst hx; rfl
        · have : ng ⟨⟨x :: r⟩⟩ = false := negL_ne hx
          rw [this] at hn; cases hn
    | succ k =>
      right
      have h1 := hd k (by omega)
      rw [← e1, byteAt_ext y (by omega) (Nat.le_refl _), Nat.add_comm] at h1
      exact of_decide_eq_true h1
theorem rdOk_dgs {y : ByteArray} (h : rdOk y = true) : dgs (rs y) (rs y).size = true := by
  unfold rdOk rdAll at h
  simp only [Bool.and_eq_true] at h
  exact h.1.2
theorem rdOk_no {y : ByteArray} {k : Nat} (hk : k < y.size) (h : byteAt y k = 44 ∨ byteAt y k = 47) : rdOk y = false := by
  cases hr : rdOk y
  · rfl
  · have := dec_bytes (rdOk_dgs hr) k hk
    omega
/-- what ReadPt yields -/
def rpOk (s : ByteArray) : Bool := match splitOf s 44 with
  | [x, y] => rdOk x && rdOk y && okPt (rdN x) (rdN y)
  | _ => false
def rpT (s : ByteArray) : Value := match splitOf s 44 with
  | [x, y] => if rpOk s then .tuple #[.agg #[.int .i64 (rdN x), .int .i64 (rdN y)], .bool true] else .tuple #[.agg #[.int .i64 0, .int .i64 0], .bool false]
  | _ => .tuple #[.agg #[.int .i64 0, .int .i64 0], .bool false]
def rpF : Value := .tuple #[.agg #[.int .i64 0, .int .i64 0], .bool false]
theorem rpT_f {s : ByteArray} (h : rpOk s = false) : rpT s = rpF := by
  unfold rpT
  split
  · rw [h]; rfl
  · rfl
theorem rpT_len {s : ByteArray} (h : (splitOf s 44).length ≠ 2) : rpT s = rpF := by
  unfold rpT
  split
  · rename_i e; rw [e] at h; simp at h
  · rfl
theorem rpT_miss {s : ByteArray} (h : fstI s 44 = -1) : rpT s = rpF := by
  have := split_miss (s := s) (b := 44) (fst_none h)
  apply rpT_len
  rw [this]; simp
theorem rpT_hit {s : ByteArray} {i : Nat} (h : fstI s 44 = i) : rpT s = if rdOk (s.extract 0 i) && rdOk (s.extract (i + 1) s.size) && okPt (rdN (s.extract 0 i)) (rdN (s.extract (i + 1) s.size)) then .tuple #[.agg #[.int .i64 (rdN (s.extract 0 i)), .int .i64 (rdN (s.extract (i + 1) s.size))], .bool true] else rpF := by
  obtain ⟨h1, h2, h3⟩ := fst_some h
  rcases split_hit (b := 44) h1 h2 h3 with ⟨e, _⟩ | ⟨e, j, h4, h5, h6⟩
  · unfold rpT rpOk; rw [e]; rfl
  · rw [rpT_len (by omega)]
    have : rdOk (s.extract (i + 1) s.size) = false := by
      refine rdOk_no (k := j - (i + 1)) ?_ (.inl ?_)
      · rw [ByteArray.size_extract]; omega
      · rw [byteAt_ext s (by omega) (Nat.le_refl _), show i + 1 + (j - (i + 1)) = j by omega]; exact h6
    rw [this]; simp
theorem rpT_two {s x y : ByteArray} (h : splitOf s 44 = [x, y]) : rpT s = if rdOk x && rdOk y && okPt (rdN x) (rdN y) then .tuple #[.agg #[.int .i64 (rdN x), .int .i64 (rdN y)], .bool true] else rpF := by
  unfold rpT rpOk; rw [h]; rfl
end Go.Proofs.YtickgkfgmbaalaaDoor
