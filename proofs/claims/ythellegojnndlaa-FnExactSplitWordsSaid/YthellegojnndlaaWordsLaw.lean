/-
  The walk of the law FnExactSplitWords. Conditions: none.
-/
import Derived.Test.YthellegojnndlaaWords
namespace Go.Proofs.Ythellegojnndlaa
open Go.RowKit Go.Sort
set_option linter.unusedVariables false
attribute [local go_sem] cell_grow frozen_grow
set_option maxRecDepth 100000 in
set_option maxHeartbeats 4000000 in
theorem fnSplitWords (s : ByteArray) (hm : s.size ≤ maxLen) (w : World) : Calls Try.prog 7 #[.string s] w fun e w' => e = .returned (.bool true) ∧ Below w.heap.size w w' := by
  by_cases hs : 1048576 < s.size
  · go_enter Try.func7, Try.ntmps7
    go_wp2
    go_ret
    exact ⟨rfl, Below.refl _ _⟩
  · have hs' : s.size ≤ 1048576 := by omega
    have hl := wordsOf_len s
    have HS := words_s s hs'
    have HI := words_i s hs'
    generalize wordsOf s = L at *
    have hl2 : L.length ≤ 2097152 := by omega
    go_enter Try.func7, Try.ntmps7
    go_wp2_with fail
    (with_reducible refine (HS _).mono ?_)
    rintro e w1 ⟨v1, rfl, hS1, hg1, hb1⟩
    go_wp2_with fail
    (with_reducible refine (HI _).mono ?_)
    rintro e w2 ⟨v2, rfl, hS2, hg2, hb2⟩
    go_wp2_with fail
    (with_reducible refine (eqStringS_any v2 v1 L w2 hS2 (hS1.later hb2) hl2).mono ?_)
    rintro e w3 ⟨rfl, hb3⟩
    have HM : Calls Try.prog 26 #[v2, .int .i64 1] w3 _ := markStringS_any v2 L 1 (by decide) (by decide) w3 (hS2.later hb3) hl2
    go_wp2_with fail
    (with_reducible refine HM.mono ?_)
    rintro e w4 ⟨rfl, hS4, hg4⟩
    have HH : Calls Try.prog 27 #[v2, .int .i64 1] w4 _ := heldStringS_any v2 L.length 1 (by decide) (by decide) w4 hS4 hl2
    go_wp2_with fail
    (with_reducible refine HH.mono ?_)
    rintro e w5 ⟨rfl, hb5⟩
    go_wp2_with fail
    (with_reducible refine (HI _).mono ?_)
    rintro e w6 ⟨v6, rfl, hS6, hg6, hb6⟩
    have hS16 : StrsAt w6 v1 L := by
      refine (((hS1.later hb2).later hb3).kept hg4 ?_).later hb5 |>.later hb6
      cases h1 : v1.ownBlock with
      | none => exact .inl rfl
      | some g =>
        right
        intro h2
        have h3 := hg1 g h1
        have h4 := hg2 g h2.symm
        omega
    go_wp2_with fail
    (with_reducible refine (eqStringS_any v6 v1 L w6 hS6 hS16 hl2).mono ?_)
    rintro e w7 ⟨rfl, hb7⟩
    have HH2 : Calls Try.prog 27 #[v2, .int .i64 1] w7 _ := heldStringS_any v2 L.length 1 (by decide) (by decide) w7 (((hS4.later hb5).later hb6).later hb7) hl2
    go_wp2_with fail
    (with_reducible refine HH2.mono ?_)
    rintro e w8 ⟨rfl, hb8⟩
    go_wp2
    go_ret
    have z1 := hb1.size
    have z2 := hb2.size
    have z3 := hb3.size
    have z4 := hg4.size
    have z5 := hb5.size
    have z6 := hb6.size
    have z7 := hb7.size
    have k3 : Below w.heap.size w w3 := (hb1.trans (hb2.mono z1)).trans (hb3.mono (by omega))
    have k4 : Below w.heap.size w w4 := k3.grown hg4 (by omega) (fun k hk => by have := hg2 k hk; omega)
    exact ⟨rfl, (((k4.trans (hb5.mono (by omega))).trans (hb6.mono (by omega))).trans (hb7.mono (by omega))).trans (hb8.mono (by omega))⟩
end Go.Proofs.Ythellegojnndlaa
