/-
  CONTRACTS of impl.SplitWords, spec.l01Split, spec.SplitWords: the words of a text, in a slice of the call's own. Conditions: the text has at most 1048576 bytes.
-/
import Derived.Test.YthellegojnndlaaMark
import Derived.Test.YthellegojnndlaaSplit
namespace Go.Proofs.Ythellegojnndlaa
open Go.RowKit Go.Sort
set_option linter.unusedVariables false
attribute [local go_sem] cell_grow frozen_grow

theorem own_strs {w : World} {B : Nat} {t : TypeId} {v : Value} {L : List ByteArray} (h : w.ownsRow B t 1 v L.length (L.map .string)) : StrsAt w v L ∧ ∀ g, v.ownBlock = some g → B ≤ g ∧ g < w.heap.size := by
  refine ⟨?_, fun g hg => h.lt g hg⟩
  rcases h.2 with ⟨rfl, h0⟩ | ⟨g, cap, cur, rfl, hb, hg, _⟩
  · exact ⟨none, 0, by rw [h0], fun k => absurd k (by omega)⟩
  · refine ⟨_, cap, rfl, fun _ => ⟨g, rfl, (Array.getElem?_eq_some_iff.1 hg).1, fun j hj => ?_, fun j => ug_frozen hg j⟩⟩
    rw [h.cellAt j (by omega), List.getElem?_map, List.getElem?_eq_getElem hj, List.getD_eq_getElem?_getD, List.getElem?_eq_getElem hj]
    rfl
theorem own_val {w : World} {B n : Nat} {t : TypeId} {v : Value} {xs : List Value} {sz : Nat} (h : w.ownsRow B t sz v n xs) : ∃ A c, v = .slice A n c := by
  rcases h.2 with ⟨rfl, h0⟩ | ⟨g, cap, cur, rfl, _⟩
  · exact ⟨none, 0, by rw [h0]⟩
  · exact ⟨_, cap, rfl⟩
theorem info_str : (Try.prog.info? 9).map (fun i => (i.zero, i.size, i.bytes)) = some (some (.string ⟨#[]⟩), 1, 16) := by kernel_rfl
/-- what a call that makes texts leaves -/
def StrsPost (w : World) (L : List ByteArray) (e : Ending) (w' : World) : Prop := ∃ v, e = .returned v ∧ StrsAt w' v L ∧ (∀ g, v.ownBlock = some g → w.heap.size ≤ g ∧ g < w'.heap.size) ∧ Below w.heap.size w w'
set_option maxRecDepth 100000 in
set_option maxHeartbeats 4000000 in
theorem words_i (s : ByteArray) (hs : s.size ≤ 1048576) (w : World) : Calls Try.prog 24 #[.string s] w (StrsPost w (wordsOf s)) := by
  obtain ⟨i0, hi, hzA, hzB, hzC⟩ := info_parts info_str
  go_enter Try.func24, Try.ntmps24
  go_wp2
  go_loopw [3, 4, 5] (fun v st i wr => ∃ k : Nat, k ≤ s.size ∧ i = .int .i64 k ∧ st = .int .i64 (stI s k) ∧ Under 9 1 w.heap.size v (wsI s k).length ((wsI s k).map .string) w w wr) (fun _ _ i _ => s.size - (intOf i).toNat)
  case atStart => exact ⟨0, by omega, rfl, rfl, Under.start (World.ownsRow_nil _ _ _ _) (fun k hk => by simp [Value.ownBlock] at hk) (Nat.le_refl _) (Nat.le_refl _) (Below.refl _ _)⟩
  case round =>
    obtain ⟨k, hk, rfl, rfl, hU⟩ := hrel
    obtain ⟨A, c, rfl⟩ := own_val hU.own
    have hl := wsI_len s k
    have HU := hide hU
    clear hU
    by_cases hkn : k < s.size
    · have e1 := byteAt_eq s k hkn
      by_cases hb : byteAt s k = 32
      · by_cases h0 : 0 ≤ stI s k
        · obtain ⟨m, hm⟩ : ∃ m : Nat, stI s k = m := ⟨(stI s k).toNat, by omega⟩
          have hmk : m < k := by have := stI_bd s k; omega
          have e2 := hide (show wsI s (k + 1) = wsI s k ++ [s.extract m k] by rw [wsI_s, if_pos ⟨hb, h0⟩, hm]; rfl)
          have e3 := hide (show stI s (k + 1) = -1 by rw [stI_s, if_pos hb])
          have q1 : (((s[k]).toNat : Int) == 32) = true := by rw [e1, hb]; rfl
          have q2 : ((s[k]).toNat : Int) = 32 := by rw [e1, hb]
          rw [hm]
          clear e1 hb h0 hm
          go_wp2_with (at_builtin; refine wpList_append_lies _ (by rfl) (.tmp 18) (.tmp 23) _ (by rfl) w.heap.size 9 i0 _ 1 16 Try.underlying36 hi hzA hzB hzC rfl (by decide) _ _ _ (by rfl) (HU.out.own.alloc _) ⟨wr.heap.size, 0, none⟩ 1 1 [.string (s.extract m k)] (by rfl) rfl (World.news_of_block (heap_alloc_new wr _)) (by intro u hu; simp at hu; rcases hu with rfl; rfl) (by decide) (by simp only [maxLen]; omega) (by omega) (by have := HU.out.below.size; simp; omega) (wr.heap.size + 1) (by simp) ?_; intro g' cap' w3 hown hgrow hat hlt3)
          have HU2 := HU.out.grown ((Below.refl _ _).alloc (Nat.le_refl _) _) hown hgrow (hat.imp id (fun e => by omega))
          go_roundw
          case rel => exact ⟨k + 1, by omega, by go_num, by rw [e3.out], by rw [e2.out, List.length_append, List.map_append]; exact HU2⟩
          case measure => simp [intOf]; omega
        · have h1 : stI s k = -1 := by have := stI_bd s k; omega
          have e2 := hide (show wsI s (k + 1) = wsI s k by rw [wsI_s, if_neg (fun h => h0 h.2)])
          have e3 := hide (show stI s (k + 1) = -1 by rw [stI_s, if_pos hb])
          have q1 : (((s[k]).toNat : Int) == 32) = true := by rw [e1, hb]; rfl
          have q2 : ((s[k]).toNat : Int) = 32 := by rw [e1, hb]
          rw [h1]
          clear e1 hb h0 h1
          go_wp2
          go_roundw
          case rel => exact ⟨k + 1, by omega, by go_num, by rw [e3.out], by rw [e2.out]; exact HU.out⟩
          case measure => simp [intOf]; omega
      · have e2 := hide (show wsI s (k + 1) = wsI s k by rw [wsI_s, if_neg (fun h => hb h.1)])
        have q1 : (((s[k]).toNat : Int) == 32) = false := by rw [e1]; simpa using hb
        have q2 : ¬ ((s[k]).toNat : Int) = 32 := by rw [e1]; exact hb
        by_cases h0 : stI s k < 0
        · have e3 := hide (show stI s (k + 1) = k by rw [stI_s, if_neg hb, if_pos h0])
          have h1 : stI s k = -1 := by have := stI_bd s k; omega
          rw [h1]
          clear e1 hb h0 h1
          go_wp2
          go_roundw
          case rel => exact ⟨k + 1, by omega, by go_num, by rw [e3.out], by rw [e2.out]; exact HU.out⟩
          case measure => simp [intOf]; omega
        · have e3 := hide (show stI s (k + 1) = stI s k by rw [stI_s, if_neg hb, if_neg h0])
          obtain ⟨m, hm⟩ : ∃ m : Nat, stI s k = m := ⟨(stI s k).toNat, by omega⟩
          rw [hm] at e3 ⊢
          clear e1 hb h0 hm
          go_wp2
          go_roundw
          case rel => exact ⟨k + 1, by omega, by go_num, by rw [e3.out], by rw [e2.out]; exact HU.out⟩
          case measure => simp [intOf]; omega
    · obtain rfl : k = s.size := by omega
      by_cases h0 : 0 ≤ stI s s.size
      · obtain ⟨m, hm⟩ : ∃ m : Nat, stI s s.size = m := ⟨(stI s s.size).toNat, by omega⟩
        have hmk : m < s.size := by have := stI_bd s s.size; omega
        have e2 := hide (show wordsOf s = wsI s s.size ++ [s.extract m s.size] by unfold wordsOf; rw [if_pos h0, hm]; rfl)
        rw [hm]
        clear h0 hm
        go_wp2_with (at_builtin; refine wpList_append_lies _ (by rfl) (.tmp 30) (.tmp 34) _ (by rfl) w.heap.size 9 i0 _ 1 16 Try.underlying36 hi hzA hzB hzC rfl (by decide) _ _ _ (by rfl) (HU.out.own.alloc _) ⟨wr.heap.size, 0, none⟩ 1 1 [.string (s.extract m s.size)] (by rfl) rfl (World.news_of_block (heap_alloc_new wr _)) (by intro u hu; simp at hu; rcases hu with rfl; rfl) (by decide) (by simp only [maxLen]; omega) (by omega) (by have := HU.out.below.size; simp; omega) (wr.heap.size + 1) (by simp) ?_; intro g' cap' w3 hown hgrow hat hlt3)
        have HU2 := HU.out.grown ((Below.refl _ _).alloc (Nat.le_refl _) _) hown hgrow (hat.imp id (fun e => by omega))
        go_ret
        have h2 := own_strs (L := wsI s s.size ++ [s.extract m s.size]) (by rw [List.length_append, List.map_append]; exact HU2.own)
        exact ⟨_, rfl, by rw [e2.out]; exact h2.1, h2.2, HU2.below⟩
      · have h1 : stI s s.size = -1 := by have := stI_bd s s.size; omega
        have e2 := hide (show wordsOf s = wsI s s.size by unfold wordsOf; rw [if_neg h0])
        rw [h1]
        clear h0 h1
        go_wp2
        go_ret
        have h2 := own_strs HU.out.own
        exact ⟨_, rfl, by rw [e2.out]; exact h2.1, h2.2, HU.out.below⟩
set_option maxRecDepth 100000 in
set_option maxHeartbeats 4000000 in
theorem l01Split_any (s : ByteArray) (b : Int) (hs : s.size ≤ 1048576) (w : World) : Calls Try.prog 72 #[.string s, .int .u8 b] w (StrsPost w (splitOf s b)) := by
  obtain ⟨i0, hi, hzA, hzB, hzC⟩ := info_parts info_str
  go_enter Try.func72, Try.ntmps72
  go_wp2
  go_loopw [5, 6, 7] (fun v st i wr => ∃ k : Nat, k ≤ s.size ∧ i = .int .i64 k ∧ st = .int .i64 (frS s b k) ∧ Under 9 1 w.heap.size v (wsS s b k).length ((wsS s b k).map .string) w (w.alloc (.cells #[] 9)) wr) (fun _ _ i _ => s.size - (intOf i).toNat)
  case atStart => exact ⟨0, by omega, rfl, rfl, Under.start (own_empty w _ _ (Nat.le_refl _)) (fun k hk => by simp [Value.ownBlock] at hk; exact hk.symm) (Nat.le_refl _) (by simp) ((Below.refl _ _).alloc (Nat.le_refl _) _)⟩
  case round =>
    obtain ⟨k, hk, rfl, rfl, hU⟩ := hrel
    obtain ⟨A, c, rfl⟩ := own_val hU.own
    have hl := wsS_len s b k
    have hfl := frS_le s b k
    have HU := hide hU
    clear hU
    by_cases hkn : k < s.size
    · have e1 := byteAt_eq s k hkn
      by_cases hb : byteAt s k = b
      · have e2 := hide (show wsS s b (k + 1) = wsS s b k ++ [s.extract (frS s b k) k] by rw [wsS, if_pos hb])
        have e3 := hide (show frS s b (k + 1) = k + 1 by rw [frS, if_pos hb])
        have q1 : (((s[k]).toNat : Int) == b) = true := by rw [e1, hb]; simp
        have q2 : ((s[k]).toNat : Int) = b := by rw [e1, hb]
        generalize frS s b k = m at *
        clear e1 hb
        go_wp2_with (at_builtin; refine wpList_append_lies _ (by rfl) (.tmp 20) (.tmp 25) _ (by rfl) w.heap.size 9 i0 _ 1 16 Try.underlying36 hi hzA hzB hzC rfl (by decide) _ _ _ (by rfl) (HU.out.own.alloc _) ⟨wr.heap.size, 0, none⟩ 1 1 [.string (s.extract m k)] (by rfl) rfl (World.news_of_block (heap_alloc_new wr _)) (by intro u hu; simp at hu; rcases hu with rfl; rfl) (by decide) (by simp only [maxLen]; omega) (by omega) (by have := HU.out.size; simp at this ⊢; omega) (wr.heap.size + 1) (by simp) ?_; intro g' cap' w3 hown hgrow hat hlt3)
        have HU2 := HU.out.grown ((Below.refl _ _).alloc (Nat.le_refl _) _) hown hgrow (hat.imp id (fun e => by omega))
        go_roundw
        case rel => exact ⟨k + 1, by omega, by go_num, by rw [e3.out]; go_num, by rw [e2.out, List.length_append, List.map_append]; exact HU2⟩
        case measure => simp [intOf]; omega
      · have e2 := hide (show wsS s b (k + 1) = wsS s b k by rw [wsS, if_neg hb])
        have e3 := hide (show frS s b (k + 1) = frS s b k by rw [frS, if_neg hb])
        have q1 : (((s[k]).toNat : Int) == b) = false := by rw [e1]; simpa using hb
        have q2 : ¬ ((s[k]).toNat : Int) = b := by rw [e1]; exact hb
        clear e1 hb
        go_wp2
        go_roundw
        case rel => exact ⟨k + 1, by omega, by go_num, by rw [e3.out], by rw [e2.out]; exact HU.out⟩
        case measure => simp [intOf]; omega
    · obtain rfl : k = s.size := by omega
      have e2 := hide (show splitOf s b = wsS s b s.size ++ [s.extract (frS s b s.size) s.size] from rfl)
      generalize frS s b s.size = m at *
      go_wp2_with (at_builtin; refine wpList_append_lies _ (by rfl) (.tmp 29) (.tmp 33) _ (by rfl) w.heap.size 9 i0 _ 1 16 Try.underlying36 hi hzA hzB hzC rfl (by decide) _ _ _ (by rfl) (HU.out.own.alloc _) ⟨wr.heap.size, 0, none⟩ 1 1 [.string (s.extract m s.size)] (by rfl) rfl (World.news_of_block (heap_alloc_new wr _)) (by intro u hu; simp at hu; rcases hu with rfl; rfl) (by decide) (by simp only [maxLen]; omega) (by omega) (by have := HU.out.size; simp at this ⊢; omega) (wr.heap.size + 1) (by simp) ?_; intro g' cap' w3 hown hgrow hat hlt3)
      have HU2 := HU.out.grown ((Below.refl _ _).alloc (Nat.le_refl _) _) hown hgrow (hat.imp id (fun e => by omega))
      go_ret
      have h2 := own_strs (L := wsS s b s.size ++ [s.extract m s.size]) (by rw [List.length_append, List.map_append]; exact HU2.own)
      exact ⟨_, rfl, by rw [e2.out]; exact h2.1, h2.2, HU2.below⟩
/-- the first parts that are not empty -/
def filK (L : List ByteArray) (j : Nat) : List ByteArray := (L.take j).filter full
theorem filK_len (L : List ByteArray) (j : Nat) : (filK L j).length ≤ L.length := Nat.le_trans (List.length_filter_le _ _) (by simp; omega)
theorem filK_s (L : List ByteArray) (j : Nat) (h : j < L.length) : filK L (j + 1) = if full (L.getD j ⟨#[]⟩) = true then filK L j ++ [L.getD j ⟨#[]⟩] else filK L j := by
  unfold filK
  rw [List.take_succ_eq_append_getElem h, List.filter_append, List.getD_eq_getElem?_getD, List.getElem?_eq_getElem h]
  simp only [Option.getD_some]
  split
  · rename_i h2; rw [List.filter_cons_of_pos h2]; rfl
  · rename_i h2; rw [List.filter_cons_of_neg h2]; simp
theorem size_zero {x : ByteArray} (h : x.size = 0) : x = ⟨#[]⟩ := by
  obtain ⟨⟨l⟩⟩ := x
  cases l with
  | nil => rfl
  | cons a r => simp [ByteArray.size] at h
set_option maxRecDepth 100000 in
set_option maxHeartbeats 4000000 in
theorem words_s (s : ByteArray) (hs : s.size ≤ 1048576) (w : World) : Calls Try.prog 23 #[.string s] w (StrsPost w (wordsOf s)) := by
  obtain ⟨i0, hi, hzA, hzB, hzC⟩ := info_parts info_str
  have HL := l01Split_any s 32 hs
  have hlen := splitOf_len s 32
  rw [← split_words]
  generalize splitOf s 32 = L at *
  go_enter Try.func23, Try.ntmps23
  go_wp2_with fail
  (with_reducible refine (HL _).mono ?_)
  rintro e w1 ⟨v, rfl, ⟨A1, c1, rfl, hL⟩, hg1, hb1⟩
  have hz1 := hb1.size
  go_wp2
  go_loopw [4, 5] (fun v i wr => ∃ k : Nat, k ≤ L.length ∧ i = .int .i64 k ∧ Under 9 1 w1.heap.size v (filK L k).length ((filK L k).map .string) w (w1.alloc (.cells #[] 9)) wr) (fun _ i _ => L.length - (intOf i).toNat)
  case atStart => exact ⟨0, by omega, rfl, Under.start (own_empty w1 _ _ (Nat.le_refl _)) (fun k hk => by simp [Value.ownBlock] at hk; exact hk.symm) hz1 (by simp) (hb1.alloc hz1 _)⟩
  case round =>
    obtain ⟨k, hk, rfl, hU⟩ := hrel
    obtain ⟨A, c, rfl⟩ := own_val hU.own
    have hl := filK_len L k
    have HU := hide hU
    clear hU
    by_cases hkn : k < L.length
    · obtain ⟨g, rfl, hg, hc, _⟩ := hL (by omega)
      have h1 := (HU.out.cell (b := g) (by simp; omega) (by omega) k).trans ((Below.refl w1.heap.size w1).alloc (Nat.le_refl _) (.cells #[] 9) |>.cell (p := ⟨g, k, none⟩) hg |>.trans (hc k hkn))
      have e2 := filK_s L k hkn
      generalize L.getD k ⟨#[]⟩ = q at *
      by_cases hq : q.size = 0
      · obtain rfl := size_zero hq
        have e3 := hide (show filK L (k + 1) = filK L k by rw [e2]; rfl)
        clear e2 hc hL
        go_wp2
        go_roundw
        case rel => exact ⟨k + 1, by omega, by go_num, by rw [e3.out]; exact HU.out⟩
        case measure => simp [intOf]; omega
      · have e3 := hide (show filK L (k + 1) = filK L k ++ [q] by rw [e2, if_pos (show full q = true from decide_eq_true hq)])
        have hne : ¬ q = ⟨#[]⟩ := fun h => hq (by rw [h]; rfl)
        have q8 := ba_nbeq hne
        have q9 := ba_nbne hne
        have q10 := full_ne (s := q) (by omega)
        have q11 := full_isE (s := q) (by omega)
        clear e2 hc hL hne
        have hgr : g < wr.heap.size := Nat.lt_of_lt_of_le hg (by have := HU.out.size; simp at this; omega)
        go_wp2_with (at_builtin; refine wpList_append_lies _ (by rfl) (.tmp 20) (.tmp 25) _ (by rfl) w1.heap.size 9 i0 _ 1 16 Try.underlying36 hi hzA hzB hzC rfl (by decide) _ _ _ (by rfl) (HU.out.own.alloc _) ⟨wr.heap.size, 0, none⟩ 1 1 [.string (q)] (by rfl) rfl (World.news_of_block (heap_alloc_new wr _)) (by intro u hu; simp at hu; rcases hu with rfl; rfl) (by decide) (by simp only [maxLen]; omega) (by omega) (by have := HU.out.size; simp at this ⊢; omega) (wr.heap.size + 1) (by simp) ?_; intro g' cap' w3 hown hgrow hat hlt3)
        have HU2 := HU.out.grown ((Below.refl _ _).alloc (Nat.le_refl _) _) hown hgrow (hat.imp id (fun e => by omega))
        go_roundw
        case rel => exact ⟨k + 1, by omega, by go_num, by rw [e3.out, List.length_append, List.map_append]; exact HU2⟩
        case measure => simp [intOf]; omega
    · obtain rfl : k = L.length := by omega
      have e3 := hide (show filK L L.length = L.filter full by unfold filK; rw [List.take_length])
      go_wp2
      go_ret
      have h2 := own_strs HU.out.own
      exact ⟨_, rfl, by rw [← e3.out]; exact h2.1, fun g hg => by have := h2.2 g hg; omega, HU.out.below⟩
end Go.Proofs.Ythellegojnndlaa
