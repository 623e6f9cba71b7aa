/-
  THE WAY BACK OF A MAP'S TEXT (plain): six joined texts split into the six, each read back. Conditions: a valid map.
-/
import Derived.Test.YtickgkfgmbaalaaDoorMapX
import Derived.Test.YtickgkfgmbaalaaDoorRdmA
namespace Go.Proofs.YtickgkfgmbaalaaDoor
open Go.RowKit Go.Sort
set_option linter.unusedVariables false
theorem ext_pre (s t : ByteArray) {a k : Nat} (h : k ≤ s.size) : (s ++ t).extract a k = s.extract a k := by
  obtain ⟨⟨l⟩⟩ := s
  obtain ⟨⟨m⟩⟩ := t
  have h' : k ≤ l.length := by simpa [ByteArray.size] using h
  apply ByteArray.ext
  apply Array.toList_inj.mp
  simp [List.extract]
  by_cases ha : a ≤ l.length
  · rw [List.drop_append_of_le_length ha, List.take_append_of_le_length (by rw [List.length_drop]; omega)]
  · rw [show k - a = 0 by omega, List.take_zero, List.take_zero]
theorem ws_pre (s t : ByteArray) (b : Int) : ∀ k, k ≤ s.size → frS (s ++ t) b k = frS s b k ∧ wsS (s ++ t) b k = wsS s b k
  | 0, _ => ⟨rfl, rfl⟩
  | k + 1, h => by
    obtain ⟨e1, e2⟩ := ws_pre s t b k (by omega)
    rw [frS_s, frS_s, wsS_s, wsS_s, byteAt_app_l s t (by omega), e1, e2, ext_pre s t (by omega)]
    exact ⟨rfl, rfl⟩
theorem ws_same (s : ByteArray) (b : Int) (a : Nat) : ∀ k, (∀ j, j < k → byteAt s (a + j) ≠ b) → frS s b (a + k) = frS s b a ∧ wsS s b (a + k) = wsS s b a
  | 0, _ => ⟨rfl, rfl⟩
  | k + 1, h => by
    obtain ⟨e1, e2⟩ := ws_same s b a k (fun j hj => h j (by omega))
    rw [← Nat.add_assoc, frS_s, wsS_s, if_neg (h k (by omega)), if_neg (h k (by omega))]
    exact ⟨e1, e2⟩
theorem byteAt_app_r (a b : ByteArray) (c : UInt8) {j : Nat} (h : j < b.size) : byteAt (a ++ ⟨#[c]⟩ ++ b) (a.size + 1 + j) = byteAt b j := by
  have hz : (a ++ ⟨#[c]⟩ ++ b).size = a.size + 1 + b.size := by
    rw [app_size, app_size]; rfl
  have e := byteAt_ext (a ++ ⟨#[c]⟩ ++ b) (a := a.size + 1) (e := (a ++ ⟨#[c]⟩ ++ b).size) (k := j) (by omega) (Nat.le_refl _)
  rw [ext_app_r] at e
  exact e.symm
/-- one more part behind -/
theorem split_snoc (s p : ByteArray) (h : ∀ j, j < p.size → byteAt p j ≠ 32) : splitOf (s ++ ⟨#[32]⟩ ++ p) 32 = splitOf s 32 ++ [p] := by
  have hz : (s ++ ⟨#[32]⟩ ++ p).size = s.size + 1 + p.size := by
    rw [app_size, app_size]; rfl
  have hm : byteAt (s ++ ⟨#[32]⟩ ++ p) s.size = 32 := byteAt_mid s p 32
  obtain ⟨e1, e2⟩ := ws_pre s (⟨#[32]⟩ ++ p) 32 s.size (Nat.le_refl _)
  rw [← ByteArray.append_assoc] at e1 e2
  obtain ⟨e3, e4⟩ := ws_same (s ++ ⟨#[32]⟩ ++ p) 32 (s.size + 1) p.size (fun j hj => by rw [byteAt_app_r s p 32 hj]; exact h j hj)
  have e5 := ext_pre s (⟨#[32]⟩ ++ p) (a := frS s 32 s.size) (Nat.le_refl _)
  rw [← ByteArray.append_assoc] at e5
  unfold splitOf
  rw [hz, e3, e4, frS_s, wsS_s, if_pos hm, if_pos hm, e1, e2, e5, ← hz, ext_app_r]
theorem split_one (p : ByteArray) (h : ∀ j, j < p.size → byteAt p j ≠ 32) : splitOf p 32 = [p] := by
  rw [split_miss h]
  congr 1
  obtain ⟨⟨l⟩⟩ := p
  apply ByteArray.ext
  simp [ByteArray.size]
theorem dec_32 {n : Int} (h0 : -1000000000 ≤ n) (h1 : n ≤ 1000000000) {k : Nat} (hk : k < (decB n).size) : byteAt (decB n) k ≠ 32 := by
  have := dec_bytes (rdAll_dec h0 h1).2.2 k hk
  omega
theorem ft_32 {n d : Int} (h : okFr n d = true) : ∀ j, j < (ftB n d).size → byteAt (ftB n d) j ≠ 32 := by
  obtain ⟨a, b, c, e⟩ := okFr_bd h
  intro j hj
  unfold ftB at *
  by_cases hd : d = 1
  · rw [if_pos hd] at hj ⊢
    exact dec_32 a b hj
  · rw [if_neg hd] at hj ⊢
    have hz : (decB n ++ ⟨#[47]⟩ ++ decB d).size = (decB n).size + 1 + (decB d).size := by
      rw [app_size, app_size]; rfl
    rcases Nat.lt_trichotomy j (decB n).size with h1 | h1 | h1
    · rw [ByteArray.append_assoc, byteAt_app_l _ _ h1]
      exact dec_32 a b h1
    · rw [h1, byteAt_mid]; decide
    · obtain ⟨i, rfl⟩ : ∃ i, j = (decB n).size + 1 + i := ⟨j - ((decB n).size + 1), by omega⟩
      rw [byteAt_app_r _ _ _ (by omega)]
      exact dec_32 (by omega) (by omega) (by omega)
theorem mtS_1 (m : Af) : mtS m 1 = ptT m 0 := by
  show (⟨#[]⟩ : ByteArray) ++ ptT m 0 = ptT m 0
  apply ByteArray.ext
  simp
/-- the text of a valid map splits into its six parts -/
theorem split_map {m : Af} (h : okAf m = true) : splitOf (mtS m 6) 32 = txts m := by
  have hp : ∀ k, k < 6 → ∀ j, j < (ptT m k).size → byteAt (ptT m k) j ≠ 32 := fun k hk => ft_32 (mp_ok h k hk)
  have e : mtS m 6 = ptT m 0 ++ ⟨#[32]⟩ ++ ptT m 1 ++ ⟨#[32]⟩ ++ ptT m 2 ++ ⟨#[32]⟩ ++ ptT m 3 ++ ⟨#[32]⟩ ++ ptT m 4 ++ ⟨#[32]⟩ ++ ptT m 5 := by
    rw [← mtS_1 m]; rfl
  rw [e, split_snoc _ _ (hp 5 (by decide)), split_snoc _ _ (hp 4 (by decide)), split_snoc _ _ (hp 3 (by decide)), split_snoc _ _ (hp 2 (by decide)), split_snoc _ _ (hp 1 (by decide)), split_one _ (hp 0 (by decide))]
  rfl
theorem pt_back {m : Af} (h : okAf m = true) {k : Nat} (hk : k < 6) : rfOk (ptT m k) = true ∧ rfN (ptT m k) = ((mpL m).getD k (0, 0)).1 ∧ rfD (ptT m k) = ((mpL m).getD k (0, 0)).2 := by
  have hb := rf_back (mp_ok h k hk)
  rw [fracText_ok (mp_ok h k hk)] at hb
  exact hb
/-- the text of a valid map is read back -/
theorem map_back {m : Af} (h : okAf m = true) : rmT (splitOf (mapT m) 32) = .tuple #[afV m, .bool true] ∧ (mapT m).size ≤ 1048576 := by
  have e : mapT m = mtS m 6 := by unfold mapT; rw [if_pos h]
  have hz := mtS_size h 6 (Nat.le_refl _)
  rw [e, split_map h]
  refine ⟨?_, by omega⟩
  rw [rm_ok (L := txts m) rfl (allN_of _ fun k hk => by
    rcases (show k = 0 ∨ k = 1 ∨ k = 2 ∨ k = 3 ∨ k = 4 ∨ k = 5 by omega) with rfl | rfl | rfl | rfl | rfl | rfl <;> exact (pt_back h (by decide)).1)]
  obtain ⟨_, a0, b0⟩ := pt_back h (k := 0) (by decide)
  obtain ⟨_, a1, b1⟩ := pt_back h (k := 1) (by decide)
  obtain ⟨_, a2, b2⟩ := pt_back h (k := 2) (by decide)
  obtain ⟨_, a3, b3⟩ := pt_back h (k := 3) (by decide)
  obtain ⟨_, a4, b4⟩ := pt_back h (k := 4) (by decide)
  obtain ⟨_, a5, b5⟩ := pt_back h (k := 5) (by decide)
  show Value.tuple #[affV (rfN (ptT m 0)) (rfD (ptT m 0)) (rfN (ptT m 1)) (rfD (ptT m 1)) (rfN (ptT m 2)) (rfD (ptT m 2)) (rfN (ptT m 3)) (rfD (ptT m 3)) (rfN (ptT m 4)) (rfD (ptT m 4)) (rfN (ptT m 5)) (rfD (ptT m 5)), .bool true] = _
  rw [a0, a1, a2, a3, a4, a5, b0, b1, b2, b3, b4, b5]
  rfl
end Go.Proofs.YtickgkfgmbaalaaDoor
