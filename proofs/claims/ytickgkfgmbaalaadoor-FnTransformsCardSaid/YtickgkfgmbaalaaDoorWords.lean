/-
  CONTRACTS of impl.SplitWords, spec.l01Split, spec.SplitWords: the words of a text, in a slice of the call's own. Conditions: the text has at most 1048576 bytes.
-/
import Derived.Test.YtickgkfgmbaalaaDoorMark
import Derived.Test.YtickgkfgmbaalaaDoorSplit
namespace Go.Proofs.YtickgkfgmbaalaaDoor
open Go.RowKit Go.Sort
set_option linter.unusedVariables false
attribute [local go_sem] cell_grow frozen_grow

theorem own_strs {w : World} {B : Nat} {t : TypeId} {v : Value} {L : List ByteArray} (h : w.ownsRow B t 1 v L.length (L.map .string)) : StrsAt w v L ∧ ∀ g, v.ownBlock = some g → B ≤ g ∧ g < w.heap.size := by
  refine ⟨?_, fun g hg => h.lt g hg⟩
  rcases h.2 with ⟨rfl, h0⟩ | ⟨g, cap, cur, rfl, hb, hg, _⟩
  · exact ⟨none, 0, by rw [h0], fun k => absurd k (by omega)⟩
  · refine ⟨_, cap, rfl, fun _ => ⟨g, rfl, (Array.getElem?_eq_some_iff.1 hg).1, fun j hj => ?_, fun j => ug_frozen hg j⟩⟩
    rw [h.cellAt j (by omega), List.getElem?_map, List.getElem?_eq_getElem hj, List.getD_eq_getElem?_getD, List.getElem?_eq_getElem hj]
    rfl
theorem own_val {w : World} {B n : Nat} {t : TypeId} {v : Value} {xs : List Value} {sz : Nat} (h : w.ownsRow B t sz v n xs) : ∃ A c, v = .slice A n c := by
  rcases h.2 with ⟨rfl, h0⟩ | ⟨g, cap, cur, rfl, _⟩
  · exact ⟨none, 0, by rw [h0]⟩
  · exact ⟨_, cap, rfl⟩
theorem info_str : (Tryd.prog.info? 9).map (fun i => (i.zero, i.size, i.bytes)) = some (some (.string ⟨#[]⟩), 1, 16) := by kernel_rfl
/-- what a call that makes texts leaves -/
def StrsPost (w : World) (L : List ByteArray) (e : Ending) (w' : World) : Prop := ∃ v, e = .returned v ∧ StrsAt w' v L ∧ (∀ g, v.ownBlock = some g → w.heap.size ≤ g ∧ g < w'.heap.size) ∧ Below w.heap.size w w'
theorem size_zero {x : ByteArray} (h : x.size = 0) : x = ⟨#[]⟩ := by
  obtain ⟨⟨l⟩⟩ := x
  cases l with
  | nil => rfl
  | cons a r => simp [ByteArray.size] at h
set_option maxRecDepth 100000 in
set_option maxHeartbeats 4000000 in
theorem l01Split_any (s : ByteArray) (b : Int) (hs : s.size ≤ 1048576) (w : World) : Calls Tryd.prog 20 #[.string s, .int .u8 b] w (StrsPost w (splitOf s b)) := by
  obtain ⟨i0, hi, hzA, hzB, hzC⟩ := info_parts info_str
  go_enter Tryd.func20, Tryd.ntmps20
  go_wp2
  go_loopw [5, 6, 7] (fun v st i wr => ∃ k : Nat, k ≤ s.size ∧ i = .int .i64 k ∧ st = .int .i64 (frS s b k) ∧ Under 9 1 w.heap.size v (wsS s b k).length ((wsS s b k).map .string) w (w.alloc (.cells #[] 9)) wr) (fun _ _ i _ => s.size - (intOf i).toNat)
  case atStart => exact ⟨0, by omega, rfl, rfl, Under.start (own_empty w _ _ (Nat.le_refl _)) (fun k hk => by simp [Value.ownBlock] at hk; exact hk.symm) (Nat.le_refl _) (by simp) ((Below.refl _ _).alloc (Nat.le_refl _) _)⟩
  case round =>
    obtain ⟨k, hk, rfl, rfl, hU⟩ := hrel
    obtain ⟨A, c, rfl⟩ := own_val hU.own
    have hl := wsS_len s b k
    have hfl := frS_le s b k
    have HU := hide hU
    clear hU
    by_cases hkn : k < s.size
    · have e1 := byteAt_eq s k hkn
      by_cases hb : byteAt s k = b
      · have e2 := hide (show wsS s b (k + 1) = wsS s b k ++ [s.extract (frS s b k) k] by rw [wsS, if_pos hb])
        have e3 := hide (show frS s b (k + 1) = k + 1 by rw [frS, if_pos hb])
        have q1 : (((s[k]).toNat : Int) == b) = true := by rw [e1, hb]; simp
        have q2 : ((s[k]).toNat : Int) = b := by rw [e1, hb]
        generalize frS s b k = m at *
        clear e1 hb
        go_wp2_with (at_builtin; refine wpList_append_lies _ (by rfl) (.tmp 20) (.tmp 25) _ (by rfl) w.heap.size 9 i0 _ 1 16 Tryd.underlying49 hi hzA hzB hzC rfl (by decide) _ _ _ (by rfl) (HU.out.own.alloc _) ⟨wr.heap.size, 0, none⟩ 1 1 [.string (s.extract m k)] (by rfl) rfl (World.news_of_block (heap_alloc_new wr _)) (by intro u hu; simp at hu; rcases hu with rfl; rfl) (by decide) (by simp only [maxLen]; omega) (by omega) (by have := HU.out.size; simp at this ⊢; omega) (wr.heap.size + 1) (by simp) ?_; intro g' cap' w3 hown hgrow hat hlt3)
        have HU2 := HU.out.grown ((Below.refl _ _).alloc (Nat.le_refl _) _) hown hgrow (hat.imp id (fun e => by omega))
        go_roundw
        case rel => exact ⟨k + 1, by omega, by go_num, by rw [e3.out]; go_num, by rw [e2.out, List.length_append, List.map_append]; exact HU2⟩
        case measure => simp [intOf]; omega
      · have e2 := hide (show wsS s b (k + 1) = wsS s b k by rw [wsS, if_neg hb])
        have e3 := hide (show frS s b (k + 1) = frS s b k by rw [frS, if_neg hb])
        have q1 : (((s[k]).toNat : Int) == b) = false := by rw [e1]; simpa using hb
        have q2 : ¬ ((s[k]).toNat : Int) = b := by rw [e1]; exact hb
        clear e1 hb
        go_wp2
        go_roundw
        case rel => exact ⟨k + 1, by omega, by go_num, by rw [e3.out], by rw [e2.out]; exact HU.out⟩
        case measure => simp [intOf]; omega
    · obtain rfl : k = s.size := by omega
      have e2 := hide (show splitOf s b = wsS s b s.size ++ [s.extract (frS s b s.size) s.size] from rfl)
      generalize frS s b s.size = m at *
      go_wp2_with (at_builtin; refine wpList_append_lies _ (by rfl) (.tmp 29) (.tmp 33) _ (by rfl) w.heap.size 9 i0 _ 1 16 Tryd.underlying49 hi hzA hzB hzC rfl (by decide) _ _ _ (by rfl) (HU.out.own.alloc _) ⟨wr.heap.size, 0, none⟩ 1 1 [.string (s.extract m s.size)] (by rfl) rfl (World.news_of_block (heap_alloc_new wr _)) (by intro u hu; simp at hu; rcases hu with rfl; rfl) (by decide) (by simp only [maxLen]; omega) (by omega) (by have := HU.out.size; simp at this ⊢; omega) (wr.heap.size + 1) (by simp) ?_; intro g' cap' w3 hown hgrow hat hlt3)
      have HU2 := HU.out.grown ((Below.refl _ _).alloc (Nat.le_refl _) _) hown hgrow (hat.imp id (fun e => by omega))
      go_ret
      have h2 := own_strs (L := wsS s b s.size ++ [s.extract m s.size]) (by rw [List.length_append, List.map_append]; exact HU2.own)
      exact ⟨_, rfl, by rw [e2.out]; exact h2.1, h2.2, HU2.below⟩
end Go.Proofs.YtickgkfgmbaalaaDoor
