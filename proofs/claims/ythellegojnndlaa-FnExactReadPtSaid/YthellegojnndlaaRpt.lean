/-
  CONTRACT of spec.ReadPt, and the walk of the law FnExactReadPt. Conditions: a text of at most 1048576 bytes.
-/
import Derived.Test.YthellegojnndlaaCut
import Derived.Test.YthellegojnndlaaEqPt
namespace Go.Proofs.Ythellegojnndlaa
open Go.RowKit Go.Sort
set_option linter.unusedVariables false
attribute [local go_sem] cell_grow frozen_grow
theorem ext_le (s : ByteArray) (a e : Nat) (h : s.size ≤ 1048576) : (s.extract a e).size ≤ 1048576 := by rw [ByteArray.size_extract]; omega
set_option maxRecDepth 100000 in
set_option maxHeartbeats 8000000 in
theorem readPt_not2 (s : ByteArray) (hz : s.size ≤ 1048576) (h : (splitOf s 44).length ≠ 2) (w : World) : Calls Try.prog 28 #[.string s] w fun e w' => e = .returned (rpT s) ∧ Below w.heap.size w w' := by
  have HR := hide (rpT_len h)
  have HL := l01Split_any s 44 hz
  have hlen := splitOf_len s 44
  generalize splitOf s 44 = L at *
  have q1 : ((L.length : Int) != 2) = true := by simp; omega
  have q2 : ((L.length : Int) == 2) = false := by simp; omega
  go_enter Try.func28, Try.ntmps28
  go_wp2_with fail
  (with_reducible refine (HL _).mono ?_)
  rintro e w1 ⟨v, rfl, ⟨A1, c1, rfl, hL⟩, hg1, hb1⟩
  have hw1 : Below w.heap.size w w1 := bl_call (by repeat (first | exact Below.refl _ _ | assumption | (refine bl_alloc ?_ (Nat.le_refl _) _) | (refine bl_set ?_ (by simp <;> omega) _))) hb1
  obtain ⟨hc1, hf1⟩ := bcell hb1
  have hz1 : w.heap.size < w1.heap.size := by have := hb1.size; simp at this; omega
  go_wp2
  refine bodyPost_ret (v := rpT s) ?_ rfl ⟨rfl, (by repeat (first | exact Below.refl _ _ | assumption | (refine bl_alloc ?_ (Nat.le_refl _) _) | (refine bl_set ?_ (by simp <;> omega) _)))⟩
  rw [HR.out]; simp (maxDischargeDepth := 9) [rpF, results, Try.results28, go_sem, *]
set_option maxRecDepth 100000 in
set_option maxHeartbeats 8000000 in
theorem readPt_two (s x y : ByteArray) (hz : s.size ≤ 1048576) (hx : x.size ≤ 1048576) (hy : y.size ≤ 1048576) (h : splitOf s 44 = [x, y]) (w : World) : Calls Try.prog 28 #[.string s] w fun e w' => e = .returned (rpT s) ∧ Below w.heap.size w w' := by
  have HR := hide (rpT_two h)
  have HL := l01Split_any s 44 hz
  rw [h] at HL
  have HX := readDecimal_s x hx
  have HY := readDecimal_s y hy
  have eX : rdT x = .tuple #[.int .i64 (rdN x), .bool (rdOk x)] := rfl
  have eY : rdT y = .tuple #[.int .i64 (rdN y), .bool (rdOk y)] := rfl
  rw [eX] at HX
  rw [eY] at HY
  have HO := l03Ok_any (rdN x) (rdN y)
  clear eX eY h
  cases px : rdOk x <;> cases py : rdOk y <;> cases pp : okPt (rdN x) (rdN y)
  all_goals
    rw [px, py, pp] at HR
    rw [px] at HX
    rw [py] at HY
    rw [pp] at HO
    clear px py pp
    go_enter Try.func28, Try.ntmps28
    go_wp2_with fail
    (with_reducible refine (HL _).mono ?_)
    rintro e w1 ⟨v, rfl, ⟨A1, c1, rfl, hL⟩, hg1, hb1⟩
    obtain ⟨g, rfl, hg, hcg, hfg⟩ := hL (by simp)
    have hw1 : Below w.heap.size w w1 := bl_call (by repeat (first | exact Below.refl _ _ | assumption | (refine bl_alloc ?_ (Nat.le_refl _) _) | (refine bl_set ?_ (by simp <;> omega) _))) hb1
    obtain ⟨hc1, hf1⟩ := bcell hb1
    have hz1 : w.heap.size < w1.heap.size := by have := hb1.size; simp at this; omega
    have hgw : ¬ g = w.heap.size := by have := hg1 g rfl; simp at this; omega
    have hgw2 : ¬ w.heap.size = g := by omega
    have x0 : w1.cell? ⟨g, 0, none⟩ = some (.string x) := hcg 0 (by simp)
    have x1 : w1.cell? ⟨g, 1, none⟩ = some (.string y) := hcg 1 (by simp)
    obtain ⟨wL, rfl⟩ : ∃ wL, wL = w1 := ⟨_, rfl⟩
    clear hcg hL hb1 hg1
    go_wp2_with (first | (go_at_call 16; (with_reducible refine (HX _).mono ?_); rintro e w1 ⟨rfl, hb1⟩; obtain ⟨hc1, hf1⟩ := bcell hb1; have hw1 : Below w.heap.size w w1 := bl_call (by repeat (first | exact Below.refl _ _ | assumption | (refine bl_alloc ?_ (Nat.le_refl _) _) | (refine bl_set ?_ (by simp <;> omega) _))) hb1; have hz1 : w.heap.size + 1 ≤ w1.heap.size := (by have hq := hb1.size; have hr := hw1.size; (try simp at hq); omega); have hza : w.heap.size < w1.heap.size := (by omega); have hz4 := hb1.size; (try simp at hz4); (try have hz5 := Nat.lt_of_succ_le hz4); (try have hzxwL : wL.heap.size < w1.heap.size := (by omega))) | (go_at_call 16; (with_reducible refine (HY _).mono ?_); rintro e w1 ⟨rfl, hb1⟩; obtain ⟨hc1, hf1⟩ := bcell hb1; have hw1 : Below w.heap.size w w1 := bl_call (by repeat (first | exact Below.refl _ _ | assumption | (refine bl_alloc ?_ (Nat.le_refl _) _) | (refine bl_set ?_ (by simp <;> omega) _))) hb1; have hz1 : w.heap.size + 1 ≤ w1.heap.size := (by have hq := hb1.size; have hr := hw1.size; (try simp at hq); omega); have hza : w.heap.size < w1.heap.size := (by omega); have hz4 := hb1.size; (try simp at hz4); (try have hz5 := Nat.lt_of_succ_le hz4); (try have hzxwL : wL.heap.size < w1.heap.size := (by omega))) | (go_at_call 59; (with_reducible refine (HO _).mono ?_); rintro e w1 ⟨rfl, hb1⟩; obtain ⟨hc1, hf1⟩ := bcell hb1; have hw1 : Below w.heap.size w w1 := bl_call (by repeat (first | exact Below.refl _ _ | assumption | (refine bl_alloc ?_ (Nat.le_refl _) _) | (refine bl_set ?_ (by simp <;> omega) _))) hb1; have hz1 : w.heap.size + 1 ≤ w1.heap.size := (by have hq := hb1.size; have hr := hw1.size; (try simp at hq); omega); have hza : w.heap.size < w1.heap.size := (by omega); have hz4 := hb1.size; (try simp at hz4); (try have hz5 := Nat.lt_of_succ_le hz4); (try have hzxwL : wL.heap.size < w1.heap.size := (by omega))))
    refine bodyPost_ret (v := rpT s) ?_ rfl ⟨rfl, (by repeat (first | (with_reducible refine bl_set ?_ (by simp <;> omega) _) | (with_reducible refine bl_alloc ?_ (Nat.le_refl _) _) | (with_reducible refine Below.drew ?_) | (with_reducible assumption) | (with_reducible exact Below.refl _ _)))⟩
    rw [HR.out]
    try unfold rpF
    simp (maxDischargeDepth := 9) [results, Try.results28, go_sem, *]
theorem readPt_s (s : ByteArray) (hz : s.size ≤ 1048576) (w : World) : Calls Try.prog 28 #[.string s] w fun e w' => e = .returned (rpT s) ∧ Below w.heap.size w w' := by
  rcases fst_cases s 44 with h | ⟨i, h⟩
  · exact readPt_not2 s hz (by have e := split_miss (s := s) (b := 44) (fst_none h); rw [e]; simp) w
  · obtain ⟨h1, h2, h3⟩ := fst_some h
    rcases split_hit (b := 44) h1 h2 h3 with ⟨e, _⟩ | ⟨e, _⟩
    · exact readPt_two s _ _ hz (ext_le _ _ _ hz) (ext_le _ _ _ hz) e w
    · exact readPt_not2 s hz (by omega) w
theorem rpT_form (s : ByteArray) : ∃ a b c, rpT s = .tuple #[.agg #[.int .i64 a, .int .i64 b], .bool c] := by
  unfold rpT
  split
  · split
    · exact ⟨_, _, _, rfl⟩
    · exact ⟨_, _, _, rfl⟩
  · exact ⟨_, _, _, rfl⟩
set_option maxRecDepth 100000 in
set_option maxHeartbeats 4000000 in
theorem fnReadPt (s : ByteArray) (hm : s.size ≤ maxLen) (w : World) : Calls Try.prog 8 #[.string s] w fun e w' => e = .returned (.bool true) ∧ Below w.heap.size w w' := by
  by_cases hs : 1048576 < s.size
  · go_enter Try.func8, Try.ntmps8
    go_wp2
    go_ret
    exact ⟨rfl, Below.refl _ _⟩
  · have hs' : s.size ≤ 1048576 := by omega
    have HS := readPt_s s hs'
    have HI := readPt_i s hs'
    obtain ⟨a, b, c, hr⟩ := rpT_form s
    rw [hr] at HS HI
    have he : eqP a b a b = true := by unfold eqP; simp
    clear hr
    cases c
    all_goals
      go_enter Try.func8, Try.ntmps8
      go_wp2_with (first | (go_at_call 28; (with_reducible refine (HS _).mono ?_); rintro e w1 ⟨rfl, hb1⟩; obtain ⟨hc1, hf1⟩ := bcell hb1; have hw1 : Below w.heap.size w w1 := bl_call (by repeat (first | exact Below.refl _ _ | assumption | (refine bl_alloc ?_ (Nat.le_refl _) _) | (refine bl_set ?_ (by simp <;> omega) _))) hb1; have hz1 : w.heap.size + 0 ≤ w1.heap.size := (by have hq := hb1.size; have hr := hw1.size; (try simp at hq); omega); have hz4 := hb1.size; (try simp at hz4); (try have hz5 := Nat.lt_of_succ_le hz4)) | (go_at_call 29; (with_reducible refine (HI _).mono ?_); rintro e w1 ⟨rfl, hb1⟩; obtain ⟨hc1, hf1⟩ := bcell hb1; have hw1 : Below w.heap.size w w1 := bl_call (by repeat (first | exact Below.refl _ _ | assumption | (refine bl_alloc ?_ (Nat.le_refl _) _) | (refine bl_set ?_ (by simp <;> omega) _))) hb1; have hz1 : w.heap.size + 0 ≤ w1.heap.size := (by have hq := hb1.size; have hr := hw1.size; (try simp at hq); omega); have hz4 := hb1.size; (try simp at hz4); (try have hz5 := Nat.lt_of_succ_le hz4)) | (go_at_call 22; (with_reducible refine (eqPt_any _ _ _ _ _).mono ?_); rintro e w1 ⟨rfl, hb1⟩; obtain ⟨hc1, hf1⟩ := bcell hb1; have hw1 : Below w.heap.size w w1 := bl_call (by repeat (first | exact Below.refl _ _ | assumption | (refine bl_alloc ?_ (Nat.le_refl _) _) | (refine bl_set ?_ (by simp <;> omega) _))) hb1; have hz1 : w.heap.size + 0 ≤ w1.heap.size := (by have hq := hb1.size; have hr := hw1.size; (try simp at hq); omega); have hz4 := hb1.size; (try simp at hz4); (try have hz5 := Nat.lt_of_succ_le hz4)))
      go_ret
      exact ⟨rfl, (by repeat (first | exact Below.refl _ _ | assumption | (refine bl_alloc ?_ (Nat.le_refl _) _) | (refine bl_set ?_ (by simp <;> omega) _)))⟩
end Go.Proofs.Ythellegojnndlaa
