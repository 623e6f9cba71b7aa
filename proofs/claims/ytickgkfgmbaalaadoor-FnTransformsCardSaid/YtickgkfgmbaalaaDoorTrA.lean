/-
  CONTRACTS of the draws of maps (l04Frac, l04Draw, E8Map). Conditions: what the slices hold.
-/
import Derived.Test.YtickgkfgmbaalaaDoorSrc
import Derived.Test.YtickgkfgmbaalaaDoorMapV
import Derived.BigRegion
import Derived.Deep.RegionWith
namespace Go.Proofs.YtickgkfgmbaalaaDoor
open Go.RowKit Go.Sort
set_option linter.unusedVariables false
attribute [local go_sem] cell_grow frozen_grow
theorem mkI {x y : Int} (h0 : 0 ≤ x) (h1 : x < 13) (h2 : 0 ≤ y) (h3 : y < 4) : I64 (mkN (x - 6) (1 + y)) := by
  have key : ((List.range 13).all fun a => (List.range 4).all fun b => decide (-9223372036854775808 ≤ mkN ((a : Int) - 6) (1 + (b : Int))) && decide (mkN ((a : Int) - 6) (1 + (b : Int)) ≤ 9223372036854775807)) = true := by decide +kernel
  have hx := List.all_eq_true.1 key x.toNat (List.mem_range.2 (by omega))
  have hy := List.all_eq_true.1 hx y.toNat (List.mem_range.2 (by omega))
  rw [Int.toNat_of_nonneg h0, Int.toNat_of_nonneg h2] at hy
  simpa [I64] using hy
/-- As 'Under', but block g, below all of ours, may have been written. -/
structure UnderG (t : TypeId) (size : Nat) (B g : Nat) (v : Value) (n : Nat) (xs : List Value) (w w0 wr : World) : Prop where
  own : wr.ownsRow B t size v n xs
  gap : ∀ k, v.ownBlock = some k → k = B ∨ w0.heap.size ≤ k
  rest : ∀ j, j < w0.heap.size → j ≠ B → j ≠ g → wr.heap[j]? = w0.heap[j]?
  size : w0.heap.size ≤ wr.heap.size
  base : w.heap.size ≤ B ∧ B ≤ w0.heap.size ∧ w.heap.size ≤ w0.heap.size ∧ g < w.heap.size
  grown : w.grownBy wr (some g)
theorem UnderG.later {t : TypeId} {size B g n : Nat} {v : Value} {xs : List Value} {w w0 wr wx : World} (h : UnderG t size B g v n xs w w0 wr) (hb : wr.grownBy wx (some g)) : UnderG t size B g v n xs w w0 wx := by
  have hs := h.size
  obtain ⟨b1, b2, b3, b4⟩ := h.base
  have hz := hb.size
  refine ⟨h.own.kept hb (.inr ?_), h.gap, fun j h1 h2 h3 => (hb.block j (by omega) (by simp; omega)).trans (h.rest j h1 h2 h3), Nat.le_trans hs hz, h.base, GB.trans h.grown hb⟩
  intro e
  have := (h.own.lt g e).1
  omega
theorem UnderG.grow {t : TypeId} {size B g n n' g' cap' : Nat} {v : Value} {xs xs' : List Value} {w w0 wr wx wy : World} (h : UnderG t size B g v n xs w w0 wr) (hb : Below wr.heap.size wr wx)
    (hown : wy.ownsRow B t size (.slice (some ⟨g', 0, none⟩) n' cap') n' xs') (hgrow : wx.grownBy wy v.ownBlock) (hat : v.ownBlock = some g' ∨ wr.heap.size ≤ g') : UnderG t size B g (.slice (some ⟨g', 0, none⟩) n' cap') n' xs' w w0 wy := by
  have hs := h.size
  have hx := hb.size
  have hy := hgrow.size
  obtain ⟨b1, b2, b3, b4⟩ := h.base
  have hlt : ∀ k, v.ownBlock = some k → B ≤ k ∧ k < wr.heap.size := fun k e => h.own.lt k e
  have G := h.grown
  refine ⟨hown, ?_, ?_, by omega, h.base, ?_⟩
  · intro k hk
    simp only [Value.ownBlock, Option.some.injEq] at hk
    subst hk
    rcases hat with e | e
    · exact h.gap _ e
    · right; omega
  · intro j h1 h2 h3
    refine (hgrow.block j (by omega) ?_).trans ((hb.block j (by omega)).trans (h.rest j h1 h2 h3))
    intro e
    rcases h.gap j e.symm with e1 | e1 <;> omega
  · refine ⟨hgrow.os.trans (hb.os.trans G.os), hgrow.tape.trans (hb.tape.trans G.tape), hgrow.output.trans (hb.output.trans G.output), by have := G.size; omega, fun j hj hne => (hgrow.block j (by have := G.size; omega) ?_).trans ((hb.block j (by have := G.size; omega)).trans (G.block j hj hne))⟩
    intro e
    have := (hlt j e.symm).1
    omega
set_option maxRecDepth 100000 in
set_option maxHeartbeats 16000000 in
theorem l04Frac_any (g : Nat) (A : Option Addr) (n c k : Nat) (hk : k < 1000) (w : World) (hS : SrcAt w g A n c k) : Calls Tryd.prog 53 #[.pointer (some ⟨g, 0, none⟩)] w fun e w' => ∃ (N D : Int) (k' : Nat), e = .returned (.agg #[.int .i64 N, .int .i64 D]) ∧ I64 N ∧ k ≤ k' ∧ k' ≤ k + 5 ∧ SrcAt w' g A n c k' ∧ w.grownBy w' (some g) := by
  have hl := hS.lt
  have H0 := hide (SrcAt.alloc hS (.cells #[.int .i64 0, .int .i64 0] 23))
  clear hS
  go_enter Tryd.func53, Tryd.ntmps53
  go_wp2_with fail
  (with_reducible refine (pick_any 13 (by decide) (by decide) g A n c k (by omega) _ H0.out).mono ?_)
  rintro e w1 ⟨x1, rfl, ⟨x10, x11⟩, hS1, hG1⟩
  have o1 : w1.heap[w.heap.size]? = some (.cells #[.int .i64 0, .int .i64 0] 23 (0, 0)) := (hG1.block _ (by simp) (by simp; omega)).trans (ug_new _ _ rfl)
  have z1 := hG1.size
  simp at z1
  have H1 := hide hS1
  have G1 := hide (GB.trans (GB.alloc (GB.refl w g) _) hG1)
  clear hS1 hG1
  have HM := makeFrac_s (x1 - 6)
  have HI := hide (fun y => @mkI x1 y x10 x11)
  go_wp2_with fail
  (with_reducible refine (pick_any 4 (by decide) (by decide) g A n c (k + 1) (by omega) _ H1.out).mono ?_)
  rintro e w2 ⟨x2, rfl, ⟨x20, x21⟩, hS2, hG2⟩
  have o2 : w2.heap[w.heap.size]? = some (.cells #[.int .i64 0, .int .i64 0] 23 (0, 0)) := (hG2.block _ (by omega) (by simp; omega)).trans o1
  have z2 := hG2.size
  have H2 := hide hS2
  have G2 := hide (GB.trans G1.out hG2)
  clear hS2 hG2 o1
  have hI := hide (HI.out x2 x20 x21)
  replace HM := HM (1 + x2) (by omega) (by omega) (by omega) (by omega)
  generalize mkN (x1 - 6) (1 + x2) = N at *
  generalize mkD (x1 - 6) (1 + x2) = D at *
  generalize mkC (x1 - 6) (1 + x2) = C at *
  clear HI
  go_wp2_with fail
  (with_reducible refine (HM _).mono ?_)
  rintro e w3 ⟨rfl, hb3⟩
  have z3 := hb3.size
  have o3 : w3.heap[w.heap.size]? = some (.cells #[.int .i64 0, .int .i64 0] 23 (0, 0)) := (hb3.block _ (by omega)).trans o2
  have H3 := hide (H2.out.later hb3)
  have G3 := hide (GB.below G2.out hb3)
  clear hb3 o2 HM
  go_wp2_with fail
  have H3' := hide (SrcAt.alloc H3.out (.cells #[.int .i64 N, .int .i64 D] 23))
  (with_reducible refine (pick_any 30 (by decide) (by decide) g A n c (k + 1 + 1) (by omega) _ H3'.out).mono ?_)
  rintro e w4 ⟨x4, rfl, ⟨x40, x41⟩, hS4, hG4⟩
  have z4 := hG4.size
  simp at z4
  have o4 : w4.heap[w.heap.size]? = some (.cells #[.int .i64 0, .int .i64 0] 23 (0, 0)) := (hG4.block _ (by simp; omega) (by simp; omega)).trans ((ug_old _ _ (by omega)).trans o3)
  have p4 : w4.heap[w3.heap.size]? = some (.cells #[.int .i64 N, .int .i64 D] 23 (0, 0)) := (hG4.block _ (by simp) (by have := H3.out.lt; simp; omega)).trans (ug_new _ _ rfl)
  have H4 := hide hS4
  have G4 := hide (GB.trans (GB.alloc G3.out _) hG4)
  clear hS4 hG4 o3 H3'
  have k4 := ug_cell o4
  have f4 := ug_frozen o4
  have kp := ug_cell p4
  by_cases e0 : x4 = 0
  · have d0 : (x4 == 0) = true := by simp [e0]
    clear p4 kp k4 f4
    have SA5 := hide (SrcAt.alloc H4.out (.cells #[.int .i64 1000000000, .int .i64 999983, .int .i64 1] 2))
    have HC5 := hide (among_any [1000000000, 999983, 1] 3 rfl (by decide) (by decide) w4.heap.size g A n c (k + 1 + 1 + 1) (by omega) (w4.alloc (.cells #[.int .i64 1000000000, .int .i64 999983, .int .i64 1] 2)) SA5.out (by simp) (by omega) (fun j hj => by rw [ug_cell (ug_new _ _ rfl)]; rcases (show j = 0 ∨ j = 1 ∨ j = 2 by omega) with rfl | rfl | rfl <;> rfl))
    go_wp2_with fail
    (with_reducible refine HC5.out.mono ?_)
    rintro e w5 ⟨y5, rfl, hy5, hS5, hG5⟩
    have H5 := hide hS5
    have o5 : w5.heap[w.heap.size]? = some (.cells #[.int .i64 0, .int .i64 0] 23 (0, 0)) := (hG5.block _ (by simp; omega) (by simp; omega)).trans ((ug_old _ _ (by omega)).trans o4)
    have z5 := hG5.size
    simp at z5
    have G5 := hide (GB.trans (GB.alloc G4.out _) hG5)
    clear hS5 hG5 SA5 HC5 o4
    have SA6 := hide (SrcAt.alloc H5.out (.cells #[.int .i64 1, .int .i64 999979] 2))
    have HC6 := hide (among_any [1, 999979] 2 rfl (by decide) (by decide) w5.heap.size g A n c (k + 1 + 1 + 1 + 1) (by omega) (w5.alloc (.cells #[.int .i64 1, .int .i64 999979] 2)) SA6.out (by simp) (by omega) (fun j hj => by rw [ug_cell (ug_new _ _ rfl)]; rcases (show j = 0 ∨ j = 1 by omega) with rfl | rfl <;> rfl))
    go_wp2_with fail
    (with_reducible refine HC6.out.mono ?_)
    rintro e w6 ⟨y6, rfl, hy6, hS6, hG6⟩
    have H6 := hide hS6
    have o6 : w6.heap[w.heap.size]? = some (.cells #[.int .i64 0, .int .i64 0] 23 (0, 0)) := (hG6.block _ (by simp; omega) (by simp; omega)).trans ((ug_old _ _ (by omega)).trans o5)
    have z6 := hG6.size
    simp at z6
    have G6 := hide (GB.trans (GB.alloc G5.out _) hG6)
    clear hS6 hG6 SA6 HC6 o5
    have hy : I64 y5 := by
      simp at hy5
      unfold I64
      omega
    have hY := hide hy
    clear hy5 hy6 hy
    have k6 := ug_cell o6
    have f6 := ug_frozen o6
    clear o6
    go_wp2
    refine bodyPost_ret (v := .agg #[.int .i64 y5, .int .i64 y6]) ?_ rfl ⟨y5, y6, _, rfl, hY.out, ?_, ?_, SrcAt.set (SrcAt.set H6.out (p := ⟨w.heap.size, 0, none⟩) (by show g < w.heap.size; omega) _) (p := ⟨w.heap.size, 1, none⟩) (by show g < w.heap.size; omega) _, GB.set (GB.set G6.out (p := ⟨w.heap.size, 0, none⟩) (Nat.le_refl _) _) (p := ⟨w.heap.size, 1, none⟩) (Nat.le_refl _) _⟩
    · simp (maxDischargeDepth := 9) [results, Tryd.results53, go_sem, *]
    · omega
    · omega
  have d0 : (x4 == 0) = false := by simpa using e0
  by_cases e1 : x4 = 1
  · have d1 : (x4 == 1) = true := by simp [e1]
    clear p4 kp k4 f4
    have SA5 := hide (SrcAt.alloc H4.out (.cells #[.int .i64 2, .int .i64 1] 2))
    have HC5 := hide (among_any [2, 1] 2 rfl (by decide) (by decide) w4.heap.size g A n c (k + 1 + 1 + 1) (by omega) (w4.alloc (.cells #[.int .i64 2, .int .i64 1] 2)) SA5.out (by simp) (by omega) (fun j hj => by rw [ug_cell (ug_new _ _ rfl)]; rcases (show j = 0 ∨ j = 1 by omega) with rfl | rfl <;> rfl))
    go_wp2_with fail
    (with_reducible refine HC5.out.mono ?_)
    rintro e w5 ⟨y5, rfl, hy5, hS5, hG5⟩
    have H5 := hide hS5
    have o5 : w5.heap[w.heap.size]? = some (.cells #[.int .i64 0, .int .i64 0] 23 (0, 0)) := (hG5.block _ (by simp; omega) (by simp; omega)).trans ((ug_old _ _ (by omega)).trans o4)
    have z5 := hG5.size
    simp at z5
    have G5 := hide (GB.trans (GB.alloc G4.out _) hG5)
    clear hS5 hG5 SA5 HC5 o4
    have SA6 := hide (SrcAt.alloc H5.out (.cells #[.int .i64 0, .int .i64 4] 2))
    have HC6 := hide (among_any [0, 4] 2 rfl (by decide) (by decide) w5.heap.size g A n c (k + 1 + 1 + 1 + 1) (by omega) (w5.alloc (.cells #[.int .i64 0, .int .i64 4] 2)) SA6.out (by simp) (by omega) (fun j hj => by rw [ug_cell (ug_new _ _ rfl)]; rcases (show j = 0 ∨ j = 1 by omega) with rfl | rfl <;> rfl))
    go_wp2_with fail
    (with_reducible refine HC6.out.mono ?_)
    rintro e w6 ⟨y6, rfl, hy6, hS6, hG6⟩
    have H6 := hide hS6
    have o6 : w6.heap[w.heap.size]? = some (.cells #[.int .i64 0, .int .i64 0] 23 (0, 0)) := (hG6.block _ (by simp; omega) (by simp; omega)).trans ((ug_old _ _ (by omega)).trans o5)
    have z6 := hG6.size
    simp at z6
    have G6 := hide (GB.trans (GB.alloc G5.out _) hG6)
    clear hS6 hG6 SA6 HC6 o5
    have hy : I64 y5 := by
      simp at hy5
      unfold I64
      omega
    have hY := hide hy
    clear hy5 hy6 hy
    have k6 := ug_cell o6
    have f6 := ug_frozen o6
    clear o6
    go_wp2
    refine bodyPost_ret (v := .agg #[.int .i64 y5, .int .i64 y6]) ?_ rfl ⟨y5, y6, _, rfl, hY.out, ?_, ?_, SrcAt.set (SrcAt.set H6.out (p := ⟨w.heap.size, 0, none⟩) (by show g < w.heap.size; omega) _) (p := ⟨w.heap.size, 1, none⟩) (by show g < w.heap.size; omega) _, GB.set (GB.set G6.out (p := ⟨w.heap.size, 0, none⟩) (Nat.le_refl _) _) (p := ⟨w.heap.size, 1, none⟩) (Nat.le_refl _) _⟩
    · simp (maxDischargeDepth := 9) [results, Tryd.results53, go_sem, *]
    · omega
    · omega
  have d1 : (x4 == 1) = false := by simpa using e1
  clear o4 p4
  go_wp2
  refine bodyPost_ret (v := .agg #[.int .i64 N, .int .i64 D]) ?_ rfl ⟨N, D, _, rfl, hI.out, ?_, ?_, SrcAt.set (SrcAt.set H4.out (p := ⟨w.heap.size, 0, none⟩) (by show g < w.heap.size; omega) _) (p := ⟨w.heap.size, 1, none⟩) (by show g < w.heap.size; omega) _, GB.set (GB.set G4.out (p := ⟨w.heap.size, 0, none⟩) (Nat.le_refl _) _) (p := ⟨w.heap.size, 1, none⟩) (Nat.le_refl _) _⟩
  · simp (maxDischargeDepth := 9) [results, Tryd.results53, go_sem, *]
  · omega
  · omega
theorem info_frT : (Tryd.prog.info? 23).map (fun i => (i.zero, i.size, i.bytes)) = some (some (.agg #[.int .i64 0, .int .i64 0]), 2, 16) := by kernel_rfl
theorem own_valT {w : World} {B n : Nat} {t : TypeId} {v : Value} {xs : List Value} {sz : Nat} (h : w.ownsRow B t sz v n xs) : ∃ A c, v = .slice A n c := by
  rcases h.2 with ⟨rfl, h0⟩ | ⟨g, cap, cur, rfl, _⟩
  · exact ⟨none, 0, by rw [h0]⟩
  · exact ⟨_, cap, rfl⟩
theorem own_sixT {w : World} {B : Nat} {t : TypeId} {A : Option Addr} {c : Nat} {xs : List Value} {sz : Nat} (h : w.ownsRow B t sz (.slice A 6 c) 6 xs) : ∃ g, A = some ⟨g, 0, none⟩ ∧ g < w.heap.size ∧ 6 ≤ c ∧ B ≤ g ∧ ∀ i, w.frozen? ⟨g, i, none⟩ = false := by
  have hl := h
  rcases h.2 with ⟨h', h0⟩ | ⟨g, cap, cur, h', hb, hgg, h1, _⟩
  · omega
  · simp only [Value.slice.injEq, true_and] at h'
    obtain ⟨rfl, rfl⟩ := h'
    exact ⟨g, rfl, (Array.getElem?_eq_some_iff.1 hgg).1, h1, hb, fun i => ug_frozen hgg i⟩
theorem SrcAt.keep {w w' : World} {g : Nat} {A : Option Addr} {n c k : Nat} (h : SrcAt w g A n c k) (hb : ∀ j, j ≤ g → w'.heap[j]? = w.heap[j]?) : SrcAt w' g A n c k := by
  obtain ⟨s, h0, h1, h2⟩ := h
  exact ⟨s, h0, (hb g (Nat.le_refl _)).trans h1, h2.kept (fun j hj => hb j (Nat.le_of_lt hj))⟩
theorem heap_setCell_ne (w : World) (b i : Nat) (v : Value) {q : Nat} (h : b ≠ q) : (w.setCell ⟨b, i, none⟩ v).heap[q]? = w.heap[q]? := Below.heap_setCell _ _ _ _ (fun e => h e.symm)
def allI (L : List (Int × Int)) : Prop := ∀ p ∈ L, I64 p.1
set_option maxRecDepth 100000 in
set_option maxHeartbeats 16000000 in
theorem l04Draw_any (g : Nat) (A : Option Addr) (n c k : Nat) (hk : k < 900) (w : World) (hS : SrcAt w g A n c k) : Calls Tryd.prog 28 #[.pointer (some ⟨g, 0, none⟩)] w fun e w' => ∃ (m : Af) (k' : Nat), e = .returned (afV m) ∧ AfIn m ∧ k ≤ k' ∧ k' ≤ k + 31 ∧ SrcAt w' g A n c k' ∧ w.grownBy w' (some g) := by
  obtain ⟨i0, hi, hzA, hzB, hzC⟩ := info_parts info_frT
  have hl := hS.lt
  have HS := hide hS
  clear hS
  go_enter Tryd.func28, Tryd.ntmps28
  go_wp2
  have oR := hide (ug_new w (.cells #[.int .i64 0, .int .i64 0, .int .i64 0, .int .i64 0, .int .i64 0, .int .i64 0, .int .i64 0, .int .i64 0, .int .i64 0, .int .i64 0, .int .i64 0, .int .i64 0] 25) rfl)
  go_loopw [3, 4] (fun lv iv wr => ∃ (j : Nat) (L : List (Int × Int)) (kk : Nat), j ≤ 6 ∧ iv = .int .i64 j ∧ Hid (L.length = j ∧ allI L) ∧ k ≤ kk ∧ kk ≤ k + 5 * j ∧ Hid (SrcAt wr g A n c kk) ∧ Hid (UnderG 23 2 (w.heap.size + 1) g lv j (flat2 L) w ((w.alloc (.cells #[.int .i64 0, .int .i64 0, .int .i64 0, .int .i64 0, .int .i64 0, .int .i64 0, .int .i64 0, .int .i64 0, .int .i64 0, .int .i64 0, .int .i64 0, .int .i64 0] 25)).alloc (.cells #[] 23)) wr)) (fun _ iv _ => 6 - (intOf iv).toNat)
  case atStart =>
    refine ⟨0, [], k, by omega, rfl, ⟨rfl, fun p hp => by cases hp⟩, Nat.le_refl _, by omega, (HS.out.alloc _).alloc _, ⟨?_, fun k hk => .inl ?_, fun _ _ _ _ => rfl, Nat.le_refl _, ⟨by omega, by simp, by simp; omega, hl⟩, GB.alloc (GB.alloc (GB.refl w g) _) _⟩⟩
    · exact ⟨rfl, .inr ⟨w.heap.size + 1, 0, #[], rfl, Nat.le_refl _, ug_new _ _ (by simp), Nat.le_refl _, by decide, rfl, rfl⟩⟩
    · simp [Value.ownBlock] at hk; exact hk.symm
  case round =>
    obtain ⟨j, L, kk, hj, rfl, hL, hk1, hk2, hSr, hU⟩ := hrel
    obtain ⟨Av, cv, rfl⟩ := own_valT hU.out.own
    have zr := hU.out.size
    simp at zr
    by_cases hj6 : j < 6
    · have hj7 : (j : Int) < 6 := by omega
      have HC := hide (l04Frac_any g A n c kk (by omega) wr hSr.out)
      go_wp2_with fail
      (with_reducible refine HC.out.mono ?_)
      rintro e w2 ⟨N, D, k2, rfl, hI, hk3, hk4, hS2, hG2⟩
      have z2 := hG2.size
      have HS2 := hide hS2
      have HI := hide hI
      have HU2 := hide (hU.out.later hG2)
      clear hS2 hG2 hI hU hSr HC
      have hzk : w.heap.size + 1 + 1 ≤ w2.heap.size := by omega
      go_wp2_with (at_builtin; refine wpList_append_lies _ (by rfl) (.tmp 10) (.tmp 13) _ (by rfl) (w.heap.size + 1) 23 i0 _ 2 16 Tryd.underlying51 hi hzA hzB hzC rfl (by decide) _ j _ (by rfl) (HU2.out.own.alloc _) ⟨w2.heap.size, 0, none⟩ 1 1 [.int .i64 N, .int .i64 D] (by rfl) rfl (World.news_of_block (ug_new _ _ rfl)) (by intro u hu; simp at hu; rcases hu with rfl | rfl <;> rfl) (by decide) (by simp only [maxLen]; omega) (by omega) (by simp; omega) (w2.heap.size + 1) (by simp) ?_; intro g' cap' w5 hown hgrow hat hlt5)
      have HW := hide (HU2.out.grow ((Below.refl _ _).alloc (Nat.le_refl _) _) hown hgrow (hat.imp id (fun e => by omega)))
      have hownlt := HU2.out.own.lt
      have HS5 := hide (HS2.out.keep (w' := w5) (fun q hq => (hgrow.block q (by simp; omega) (fun e => by have := (hownlt q e.symm).1; omega)).trans (ug_old _ _ (by omega))))
      clear hownlt
      clear hown hgrow hat
      go_wp2
      go_roundw
      case rel => exact ⟨j + 1, L ++ [(N, D)], k2, by omega, by go_num, ⟨by simp [hL.out.1], fun p hp => by rcases List.mem_append.1 hp with h | h; exact hL.out.2 p h; (simp at h; subst h; exact HI.out)⟩, by omega, by omega, HS5, by rw [flat2_snoc]; exact HW⟩
      case measure => simp [intOf]; omega
    · obtain rfl : j = 6 := by omega
      obtain ⟨gz, rfl, _⟩ := own_sixT hU.out.own
      have HC := hide (one_any 6 (by decide) (by decide) g A n c kk (by omega) wr hSr.out)
      go_wp2_with fail
      (with_reducible refine HC.out.mono ?_)
      rintro e w2 ⟨b, rfl, hS2, hG2⟩
      have z2 := hG2.size
      have HS2 := hide hS2
      have HU2 := hide (hU.out.later hG2)
      clear hS2 hG2 hU hSr HC
      obtain ⟨g9, e9, hg9, hc9, hb9, f9⟩ := own_sixT HU2.out.own
      obtain rfl : gz = g9 := by simpa using e9
      clear e9
      have hcell := HU2.out.own.cellAt
      have oR2 : w2.heap[w.heap.size]? = some (.cells #[.int .i64 0, .int .i64 0, .int .i64 0, .int .i64 0, .int .i64 0, .int .i64 0, .int .i64 0, .int .i64 0, .int .i64 0, .int .i64 0, .int .i64 0, .int .i64 0] 25 (0, 0)) := (HU2.out.rest w.heap.size (by simp; omega) (by omega) (by omega)).trans ((ug_old _ _ (by simp)).trans oR.out)
      have lw : w.heap.size < w2.heap.size := by omega
      have G2 := hide HU2.out.grown
      obtain ⟨hlen, hall⟩ := hL.out
      rcases L with _ | ⟨p0, _ | ⟨p1, _ | ⟨p2, _ | ⟨p3, _ | ⟨p4, _ | ⟨p5, _ | ⟨p6, L⟩⟩⟩⟩⟩⟩⟩ <;> simp at hlen
      have i0 : I64 p0.1 := hall p0 (by simp)
      have i1 : I64 p1.1 := hall p1 (by simp)
      have i2 : I64 p2.1 := hall p2 (by simp)
      have i3 : I64 p3.1 := hall p3 (by simp)
      have i4 : I64 p4.1 := hall p4 (by simp)
      have i5 : I64 p5.1 := hall p5 (by simp)
      have c0 : w2.cell? ⟨gz, 0, none⟩ = some (.int .i64 p0.1) := (hcell 0 (by omega)).trans rfl
      have c1 : w2.cell? ⟨gz, 1, none⟩ = some (.int .i64 p0.2) := (hcell 1 (by omega)).trans rfl
      have c2 : w2.cell? ⟨gz, 2, none⟩ = some (.int .i64 p1.1) := (hcell 2 (by omega)).trans rfl
      have c3 : w2.cell? ⟨gz, 3, none⟩ = some (.int .i64 p1.2) := (hcell 3 (by omega)).trans rfl
      have c4 : w2.cell? ⟨gz, 4, none⟩ = some (.int .i64 p2.1) := (hcell 4 (by omega)).trans rfl
      have c5 : w2.cell? ⟨gz, 5, none⟩ = some (.int .i64 p2.2) := (hcell 5 (by omega)).trans rfl
      have c6 : w2.cell? ⟨gz, 6, none⟩ = some (.int .i64 p3.1) := (hcell 6 (by omega)).trans rfl
      have c7 : w2.cell? ⟨gz, 7, none⟩ = some (.int .i64 p3.2) := (hcell 7 (by omega)).trans rfl
      have c8 : w2.cell? ⟨gz, 8, none⟩ = some (.int .i64 p4.1) := (hcell 8 (by omega)).trans rfl
      have c9 : w2.cell? ⟨gz, 9, none⟩ = some (.int .i64 p4.2) := (hcell 9 (by omega)).trans rfl
      have c10 : w2.cell? ⟨gz, 10, none⟩ = some (.int .i64 p5.1) := (hcell 10 (by omega)).trans rfl
      have c11 : w2.cell? ⟨gz, 11, none⟩ = some (.int .i64 p5.2) := (hcell 11 (by omega)).trans rfl
      have hne : gz ≠ w.heap.size := by omega
      clear hL hall HU2 oR
      cases b
      · have HMK := l04Make_any ⟨p0, p1, p2, p3, p4, p5⟩ gz cv w2 hg9 hc9 (fun j hj => (hcell j (by omega)).trans (by rcases (show j = 0 ∨ j = 1 ∨ j = 2 ∨ j = 3 ∨ j = 4 ∨ j = 5 ∨ j = 6 ∨ j = 7 ∨ j = 8 ∨ j = 9 ∨ j = 10 ∨ j = 11 by omega) with rfl | rfl | rfl | rfl | rfl | rfl | rfl | rfl | rfl | rfl | rfl | rfl <;> rfl))
        go_wp2_with fail
        (with_reducible refine HMK.mono ?_)
        rintro e w3 ⟨rfl, hb3⟩
        clear HMK hcell c0 c1 c2 c3 c4 c5 c6 c7 c8 c9 c10 c11 f9
        have z3 := hb3.size
        
        have oR3 : w3.heap[w.heap.size]? = some (.cells #[.int .i64 0, .int .i64 0, .int .i64 0, .int .i64 0, .int .i64 0, .int .i64 0, .int .i64 0, .int .i64 0, .int .i64 0, .int .i64 0, .int .i64 0, .int .i64 0] 25 (0, 0)) := (hb3.block _ (by omega)).trans oR2
        have kR3 := ug_cell oR3
        have fR3 := ug_frozen oR3
        have HS3 := hide (SrcAt.later HS2.out hb3)
        have G3 := hide (GB.below G2.out hb3)
        have lw3 : w.heap.size < w3.heap.size := by omega
        clear hb3 oR2 oR3 HS2 G2
        simp only [afV, affV]
        go_wp2
        refine bodyPost_ret (v := afV ⟨p0, p1, p2, p3, p4, p5⟩) ?_ rfl ⟨⟨p0, p1, p2, p3, p4, p5⟩, kk + 1, rfl, ⟨i0, i1, i2, i3, i4, i5⟩, ?_, ?_, ?_, ?_⟩
        · simp (maxDischargeDepth := 9) [afV, affV, results, Tryd.results28, go_sem, *]
        · omega
        · omega
        · iterate 12 refine SrcAt.set ?_ (by show g < w.heap.size; omega) _
          exact HS3.out
        · iterate 12 refine GB.set ?_ (Nat.le_refl _) _
          exact G3.out
      · clear hcell
        go_wp2_with fail
        have HMK := l04Make_any ⟨p0, p1, p0, p1, p4, p5⟩ gz cv ((((w2.setCell ⟨gz, 6, none⟩ (.int .i64 p1.1)).setCell ⟨gz, 7, none⟩ (.int .i64 p1.2)).setCell ⟨gz, 4, none⟩ (.int .i64 p0.1)).setCell ⟨gz, 5, none⟩ (.int .i64 p0.2)) (by simpa using hg9) hc9 (fun j hj => by rcases (show j = 0 ∨ j = 1 ∨ j = 2 ∨ j = 3 ∨ j = 4 ∨ j = 5 ∨ j = 6 ∨ j = 7 ∨ j = 8 ∨ j = 9 ∨ j = 10 ∨ j = 11 by omega) with rfl | rfl | rfl | rfl | rfl | rfl | rfl | rfl | rfl | rfl | rfl | rfl <;> simp [go_sem, afCells, *])
        (with_reducible refine HMK.mono ?_)
        rintro e w3 ⟨rfl, hb3⟩
        clear HMK c0 c1 c2 c3 c4 c5 c6 c7 c8 c9 c10 c11 f9
        have z3 := hb3.size
        simp at z3
        have oR3 : w3.heap[w.heap.size]? = some (.cells #[.int .i64 0, .int .i64 0, .int .i64 0, .int .i64 0, .int .i64 0, .int .i64 0, .int .i64 0, .int .i64 0, .int .i64 0, .int .i64 0, .int .i64 0, .int .i64 0] 25 (0, 0)) := (hb3.block _ (by simp; omega)).trans (by simp only [heap_setCell_ne _ _ _ _ hne]; exact oR2)
        have kR3 := ug_cell oR3
        have fR3 := ug_frozen oR3
        have HS3 := hide (SrcAt.later (SrcAt.set (SrcAt.set (SrcAt.set (SrcAt.set HS2.out (p := ⟨gz, 6, none⟩) (by show g < gz; omega) _) (p := ⟨gz, 7, none⟩) (by show g < gz; omega) _) (p := ⟨gz, 4, none⟩) (by show g < gz; omega) _) (p := ⟨gz, 5, none⟩) (by show g < gz; omega) _) hb3)
        have G3 := hide (GB.below (GB.set (GB.set (GB.set (GB.set G2.out (p := ⟨gz, 6, none⟩) (by show w.heap.size ≤ gz; omega) _) (p := ⟨gz, 7, none⟩) (by show w.heap.size ≤ gz; omega) _) (p := ⟨gz, 4, none⟩) (by show w.heap.size ≤ gz; omega) _) (p := ⟨gz, 5, none⟩) (by show w.heap.size ≤ gz; omega) _) hb3)
        have lw3 : w.heap.size < w3.heap.size := by omega
        clear hb3 oR2 oR3 HS2 G2
        simp only [afV, affV]
        go_wp2
        refine bodyPost_ret (v := afV ⟨p0, p1, p0, p1, p4, p5⟩) ?_ rfl ⟨⟨p0, p1, p0, p1, p4, p5⟩, kk + 1, rfl, ⟨i0, i1, i0, i1, i4, i5⟩, ?_, ?_, ?_, ?_⟩
        · simp (maxDischargeDepth := 9) [afV, affV, results, Tryd.results28, go_sem, *]
        · omega
        · omega
        · iterate 12 refine SrcAt.set ?_ (by show g < w.heap.size; omega) _
          exact HS3.out
        · iterate 12 refine GB.set ?_ (Nat.le_refl _) _
          exact G3.out
set_option maxRecDepth 100000 in
set_option maxHeartbeats 16000000 in
theorem e8Map_any (A : Option Addr) (n c : Nat) (w : World) (hC : CodeAt w w.heap.size A n) : Calls Tryd.prog 9 #[.slice A n c] w fun e w' => ∃ m : Af, e = .returned (afV m) ∧ okAf m = true ∧ AfIn m ∧ Below w.heap.size w w' := by
  have HC := hide hC
  clear hC
  go_enter Tryd.func9, Tryd.ntmps9
  go_wp2_with fail
  (with_reducible refine (l00From_any A n c _ (HC.out.up (by simp) (fun g hg => ug_old _ _ hg))).mono ?_)
  rintro e w1 ⟨rfl, hS1, hb1⟩
  have H1 : SrcAt w1 (w.heap.size + 1) A n c 0 := by simpa using hS1
  have HH1 := hide H1
  have l1 := H1.lt
  have o1 : w1.heap[w.heap.size]? = some (.cells #[.int .i64 0, .int .i64 0, .int .i64 0, .int .i64 0, .int .i64 0, .int .i64 0, .int .i64 0, .int .i64 0, .int .i64 0, .int .i64 0, .int .i64 0, .int .i64 0] 25 (0, 0)) := (hb1.block _ (by simp)).trans (ug_new _ _ rfl)
  have B1 : Below w.heap.size w w1 := bl_call (by repeat (first | (with_reducible refine bl_set ?_ (by simp <;> omega) _) | (with_reducible refine bl_alloc ?_ (Nat.le_refl _) _) | (with_reducible refine Below.drew ?_) | (with_reducible assumption) | (with_reducible exact Below.refl _ _))) hb1
  clear hS1 hb1 HC H1
  go_wp2_with fail
  (with_reducible refine (l04Draw_any (w.heap.size + 1) A n c 0 (by omega) w1 HH1.out).mono ?_)
  rintro e w2 ⟨m, k2, rfl, hin, _, _, hS2, hG2⟩
  have z2 := hG2.size
  have o2 : w2.heap[w.heap.size]? = some (.cells #[.int .i64 0, .int .i64 0, .int .i64 0, .int .i64 0, .int .i64 0, .int .i64 0, .int .i64 0, .int .i64 0, .int .i64 0, .int .i64 0, .int .i64 0, .int .i64 0] 25 (0, 0)) := (hG2.block _ (by omega) (fun e => by injection e; omega)).trans o1
  have B2 : Below w.heap.size w w2 := GB.under B1 hG2 (by omega)
  clear hS2 hG2 o1 B1 HH1
  have HOK := l04Ok_box m hin w2
  have HI := hide hin
  clear hin
  simp only [afV, affV]
  go_wp2_with fail
  (with_reducible refine HOK.mono ?_)
  rintro e w3 ⟨rfl, hb3⟩
  clear HOK
  have z3 := hb3.size
  simp at z3
  have o3 : w3.heap[w.heap.size]? = some (.cells #[.int .i64 0, .int .i64 0, .int .i64 0, .int .i64 0, .int .i64 0, .int .i64 0, .int .i64 0, .int .i64 0, .int .i64 0, .int .i64 0, .int .i64 0, .int .i64 0] 25 (0, 0)) := (hb3.block _ (by simp; omega)).trans ((ug_old _ _ (by omega)).trans o2)
  have m3 : w3.heap[w2.heap.size]? = some (.cells (afCells m) 25 (0, 0)) := (hb3.block _ (by simp)).trans (ug_new _ _ rfl)
  have B3 : Below w.heap.size w w3 := bl_call (by repeat (first | (with_reducible refine bl_set ?_ (by simp <;> omega) _) | (with_reducible refine bl_alloc ?_ (Nat.le_refl _) _) | (with_reducible refine Below.drew ?_) | (with_reducible assumption) | (with_reducible exact Below.refl _ _))) hb3
  have q3 : w.heap.size < w3.heap.size := by omega
  have p3 : w2.heap.size < w3.heap.size := by omega
  clear hb3 o2 B2
  cases hok : okAf m
  · have HN := l04Ints_any 1 0 0 1
    simp only [affV] at HN
    go_wp2_with fail
    (with_reducible refine (HN _).mono ?_)
    rintro e w4 ⟨rfl, hb4⟩
    have z4 := hb4.size
    have o4 : w4.heap[w.heap.size]? = some (.cells #[.int .i64 0, .int .i64 0, .int .i64 0, .int .i64 0, .int .i64 0, .int .i64 0, .int .i64 0, .int .i64 0, .int .i64 0, .int .i64 0, .int .i64 0, .int .i64 0] 25 (0, 0)) := (hb4.block _ q3).trans o3
    have k4 := ug_cell o4
    have f4 := ug_frozen o4
    have q4 : w.heap.size < w4.heap.size := by omega
    have B4 : Below w.heap.size w w4 := bl_call (by repeat (first | (with_reducible refine bl_set ?_ (by simp <;> omega) _) | (with_reducible refine bl_alloc ?_ (Nat.le_refl _) _) | (with_reducible refine Below.drew ?_) | (with_reducible assumption) | (with_reducible exact Below.refl _ _))) hb4
    clear hb4 o3 m3 B3 HN o4
    go_wp2
    refine bodyPost_ret (v := afV ⟨(1, 1), (0, 1), (0, 1), (1, 1), (0, 1), (0, 1)⟩) ?_ rfl ⟨⟨(1, 1), (0, 1), (0, 1), (1, 1), (0, 1), (0, 1)⟩, rfl, by decide +kernel, ⟨by unfold I64; decide, by unfold I64; decide, by unfold I64; decide, by unfold I64; decide, by unfold I64; decide, by unfold I64; decide⟩, (by repeat (first | (with_reducible refine bl_set ?_ (by simp <;> omega) _) | (with_reducible refine bl_alloc ?_ (Nat.le_refl _) _) | (with_reducible refine Below.drew ?_) | (with_reducible assumption) | (with_reducible exact Below.refl _ _)))⟩
    simp (maxDischargeDepth := 9) [afV, affV, results, Tryd.results9, go_sem, *]
  · have k3 := ug_cell o3
    have f3 := ug_frozen o3
    have c3 := ug_cell m3
    simp only [afCells] at c3
    clear o3 m3
    go_wp2
    refine bodyPost_ret (v := afV m) ?_ rfl ⟨m, rfl, hok, HI.out, (by repeat (first | (with_reducible refine bl_set ?_ (by simp <;> omega) _) | (with_reducible refine bl_alloc ?_ (Nat.le_refl _) _) | (with_reducible refine Below.drew ?_) | (with_reducible assumption) | (with_reducible exact Below.refl _ _)))⟩
    simp (maxDischargeDepth := 9) [afV, affV, results, Tryd.results9, go_sem, *]
set_option maxRecDepth 100000 in
theorem e8Long_any (A : Option Addr) (n c : Nat) (B : Option Addr) (k d : Nat) (hn : n ≤ maxLen) (hk : k ≤ maxLen) (w : World) : Calls Tryd.prog 8 #[.slice A n c, .slice B k d] w fun e w' => e = .returned (.bool (decide (1048576 < n) || decide (1048576 < k))) ∧ w = w' := by
  simp only [maxLen] at hn hk
  by_cases h1 : 1048576 < n
  · have d1 : decide ((1048576 : Int) < (n : Int)) = true := by simp; omega
    go_enter Tryd.func8, Tryd.ntmps8
    go_wp2
    go_ret
    exact ⟨by simp [h1], rfl⟩
  · have d1 : decide ((1048576 : Int) < (n : Int)) = false := by simp; omega
    have d2 : decide ((1048576 : Int) < (k : Int)) = decide (1048576 < k) := by
      apply decide_eq_decide.mpr
      omega
    go_enter Tryd.func8, Tryd.ntmps8
    go_wp2
    go_ret
    exact ⟨by simp [h1], rfl⟩
set_option maxRecDepth 100000 in
theorem e8At_any (A : Option Addr) (n c : Nat) (m : Int) (h2 : 2 ≤ m) (h200 : m ≤ 200) (w : World) (hC : CodeAt w w.heap.size A n) : Calls Tryd.prog 14 #[.slice A n c, .int .i64 0, .int .i64 m] w fun e w' => ∃ x : Int, e = .returned (.int .i64 x) ∧ (0 ≤ x ∧ x < m) ∧ w = w' := by
  obtain ⟨hn, hA⟩ := hC
  simp only [maxLen] at hn
  have hm1 : ¬ m = 0 := by omega
  by_cases h : 0 < n
  · obtain ⟨f, o, rfl, hf, hc⟩ := hA h
    obtain ⟨x, x0, x1, hx⟩ := hc 0 h
    rw [Nat.add_zero] at hx
    clear hA hc
    have d1 : decide ((n : Int) ≤ 0) = false := by simp; omega
    go_enter Tryd.func14, Tryd.ntmps14
    go_wp2
    go_ret
    exact ⟨_, rfl, ⟨Int.emod_nonneg _ hm1, Int.emod_lt_of_pos _ (by omega)⟩, rfl⟩
  · obtain rfl : n = 0 := by omega
    clear hA
    go_enter Tryd.func14, Tryd.ntmps14
    go_wp2
    go_ret
    exact ⟨0, rfl, ⟨by omega, by omega⟩, rfl⟩
end Go.Proofs.YtickgkfgmbaalaaDoor
