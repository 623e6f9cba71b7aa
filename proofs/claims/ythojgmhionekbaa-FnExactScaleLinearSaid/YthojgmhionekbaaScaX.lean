/-
  CONTRACTS of ScaleLinear (both packages, all cases), and the walk of the law FnExactScaleLinear. Conditions: what the slices hold.
-/
import Derived.Test.YthojgmhionekbaaScaC
import Derived.BigRegion
import Derived.Deep.DeepCutAuto
import Derived.Deep.RegionHeld3
namespace Go.Proofs.Ythojgmhionekbaa
open Go.RowKit Go.Sort
set_option linter.unusedVariables false
attribute [local go_sem] cell_grow frozen_grow
theorem slL_len {a b : Int} {L : List T3} {n d : Int} : (slL a b L n d).length ≤ 12 := by
  unfold slL
  split
  · rename_i h
    split
    · simp
    · have h1 : linOk a b L = true := by
        cases q : linOk a b L
        · unfold slK at h; rw [q] at h; simp at h
        · rfl
      rw [scP_len]
      exact linOk_n h1
  · simp
theorem scaleLinear_i (a b : Int) (ha : -9223372036854775808 ≤ a ∧ a ≤ 9223372036854775807) (x : Value) (L : List T3) (hB : LinB L) (n d : Int) (hnn : -9223372036854775808 ≤ n ∧ n ≤ 9223372036854775807) (w : World) (hx : TermsAt w x L) : Calls Try.prog 24 #[.agg #[.int .i64 a, .int .i64 b, x], .agg #[.int .i64 n, .int .i64 d]] w (LinPost w (slA a b L n d) (slB a b L n d) (slK a b L n d) (slL a b L n d)) := by
  cases h : (linOk a b L && okFr n d)
  · exact scaleLinear_bad a b ha x L hB n d hnn h w hx
  · rw [Bool.and_eq_true] at h
    by_cases hn : n = 0
    · subst hn
      exact scaleLinear_zero a b ha x L hB d h.1 h.2 w hx
    · exact scaleLinear_ok a b ha x L hB n d hnn h.1 h.2 hn w hx
theorem l05Scale_any (a b : Int) (ha : -9223372036854775808 ≤ a ∧ a ≤ 9223372036854775807) (x : Value) (L : List T3) (hB : LinB L) (n d : Int) (hnn : -9223372036854775808 ≤ n ∧ n ≤ 9223372036854775807) (h1 : linOk a b L = true) (h2 : okFr n d = true) (w : World) (hx : TermsAt w x L) (P : Nat) (hP : P < w.heap.size) (hp0 : w.cell? ⟨P, 0, none⟩ = some (.int .i64 a)) (hp1 : w.cell? ⟨P, 1, none⟩ = some (.int .i64 b)) (hp2 : w.cell? ⟨P, 2, none⟩ = some x) : Calls Try.prog 47 #[.pointer (some ⟨P, 0, none⟩), .agg #[.int .i64 n, .int .i64 d]] w (LinPost w (slA a b L n d) (slB a b L n d) (slK a b L n d) (slL a b L n d)) := by
  by_cases h3 : mulC a b n d = 0
  · exact l05Scale_ok a b ha x L hB n d hnn h1 h2 h3 w hx P hP hp0 hp1 hp2
  · obtain ⟨k1, k2, k3, k4⟩ := sl_err (L := L) h1 h2 h3
    rw [k2, k3, k4, k1]
    exact l05Scale_err a b ha x n d hnn h3 w P hP hp0 hp1
set_option maxRecDepth 100000 in
set_option maxHeartbeats 16000000 in
theorem scaleLinear_s (a b : Int) (ha : -9223372036854775808 ≤ a ∧ a ≤ 9223372036854775807) (x : Value) (L : List T3) (hB : LinB L) (n d : Int) (hnn : -9223372036854775808 ≤ n ∧ n ≤ 9223372036854775807) (w : World) (hx : TermsAt w x L) : Calls Try.prog 22 #[.agg #[.int .i64 a, .int .i64 b, x], .agg #[.int .i64 n, .int .i64 d]] w (LinPost w (slA a b L n d) (slB a b L n d) (slK a b L n d) (slL a b L n d)) := by
  have HV := hide (fun W P hW h1 h2 h3 h4 => l05Ok_s a b ha x L hB W (hx.later (hW : Below w.heap.size w W)) P h1 h2 h3 h4)
  have HX := hide (fun W (hW : Below w.heap.size w W) => hx.later hW)
  have HSC := hide (fun h1 h2 => l05Scale_any a b ha x L hB n d hnn h1 h2)
  have HF := l02Ok_any n d hnn.1 hnn.2
  have HBAD := hide (fun (h : (linOk a b L && okFr n d) = false) => show slK a b L n d = 1 ∧ slA a b L n d = 0 ∧ slB a b L n d = 0 ∧ slL a b L n d = [] by
    have hK : slK a b L n d = 1 := by unfold slK; rw [h]; rfl
    exact ⟨hK, by unfold slA; rw [hK]; rfl, by unfold slB; rw [hK]; rfl, by unfold slL; rw [hK]; rfl⟩)
  obtain ⟨A, ca, rfl, _⟩ := hx
  clear hB
  cases h1 : linOk a b L
  · obtain ⟨r1, r2, r3, r4⟩ := HBAD.out (by rw [h1]; rfl)
    rw [r1, r2, r3, r4]
    rw [h1] at HV
    clear r1 r2 r3 r4 HBAD HSC HX h1 HF
    go_enter Try.func22, Try.ntmps22
    go_wp2_with fail
    (with_reducible refine (HV.out _ w.heap.size (by repeat (first | (with_reducible refine bl_set ?_ (by simp <;> omega) _) | (with_reducible refine bl_alloc ?_ (Nat.le_refl _) _) | (with_reducible refine Below.drew ?_) | (with_reducible assumption) | (with_reducible exact Below.refl _ _))) (by simp <;> omega) (by simp [go_sem]) (by simp [go_sem]) (by simp [go_sem])).mono ?_)
    rintro e w1 ⟨rfl, hb1⟩
    have z1 := hb1.size
    simp at z1
    have o1 : w1.heap[w.heap.size + 1 + 1]? = some (.cells #[.int .i64 0, .int .i64 0, .slice none 0 0] 32 (0, 0)) := (hb1.block _ (by simp)).trans (ug_new _ _ (by simp))
    have k1 := ug_cell o1
    have f1 := ug_frozen o1
    have m1 : w.heap.size + 1 + 1 < w1.heap.size := by omega
    have b1 : Below w.heap.size w w1 := bl_call (by repeat (first | (with_reducible refine bl_set ?_ (by simp <;> omega) _) | (with_reducible refine bl_alloc ?_ (Nat.le_refl _) _) | (with_reducible refine Below.drew ?_) | (with_reducible assumption) | (with_reducible exact Below.refl _ _))) hb1
    clear hb1
    go_wp2
    refine bodyPost_ret (v := .tuple #[.agg #[.int .i64 0, .int .i64 0, .slice none 0 0], .int .i64 1]) ?_ rfl ⟨_, rfl, TermsOwn.none _, fun g hg => by simp [Value.ownBlock] at hg, (by repeat (first | (with_reducible refine bl_set ?_ (by simp <;> omega) _) | (with_reducible refine bl_alloc ?_ (Nat.le_refl _) _) | (with_reducible refine Below.drew ?_) | (with_reducible assumption) | (with_reducible exact Below.refl _ _)))⟩
    simp (maxDischargeDepth := 9) [results, Try.results22, go_sem, *]
  cases h2 : okFr n d
  · obtain ⟨r1, r2, r3, r4⟩ := HBAD.out (by rw [h1, h2]; rfl)
    rw [r1, r2, r3, r4]
    rw [h1] at HV
    rw [h2] at HF
    clear r1 r2 r3 r4 HBAD HSC HX h1 h2
    go_enter Try.func22, Try.ntmps22
    go_wp2_with fail
    (with_reducible refine (HV.out _ w.heap.size (by repeat (first | (with_reducible refine bl_set ?_ (by simp <;> omega) _) | (with_reducible refine bl_alloc ?_ (Nat.le_refl _) _) | (with_reducible refine Below.drew ?_) | (with_reducible assumption) | (with_reducible exact Below.refl _ _))) (by simp <;> omega) (by simp [go_sem]) (by simp [go_sem]) (by simp [go_sem])).mono ?_)
    rintro e w1 ⟨rfl, hb1⟩
    have z1 := hb1.size
    simp at z1
    have o1 : w1.heap[w.heap.size + 1 + 1]? = some (.cells #[.int .i64 0, .int .i64 0, .slice none 0 0] 32 (0, 0)) := (hb1.block _ (by simp)).trans (ug_new _ _ (by simp))
    have x1 : w1.heap[w.heap.size + 1]? = some (.cells #[.int .i64 n, .int .i64 d] 29 (0, 0)) := (hb1.block _ (by simp)).trans ((ug_old _ _ (by simp)).trans (ug_new _ _ (by simp)))
    have k1 := ug_cell x1
    have b1 : Below w.heap.size w w1 := bl_call (by repeat (first | (with_reducible refine bl_set ?_ (by simp <;> omega) _) | (with_reducible refine bl_alloc ?_ (Nat.le_refl _) _) | (with_reducible refine Below.drew ?_) | (with_reducible assumption) | (with_reducible exact Below.refl _ _))) hb1
    clear hb1
    go_wp2_with fail
    (with_reducible refine (HF _).mono ?_)
    rintro e w2 ⟨rfl, hb2⟩
    have z2 := hb2.size
    have o2 := (hb2.block _ (by omega)).trans o1
    have k2 := ug_cell o2
    have f2 := ug_frozen o2
    have m2 : w.heap.size + 1 + 1 < w2.heap.size := by omega
    have b2 : Below w.heap.size w w2 := bl_call b1 hb2
    clear hb2 k1
    go_wp2
    refine bodyPost_ret (v := .tuple #[.agg #[.int .i64 0, .int .i64 0, .slice none 0 0], .int .i64 1]) ?_ rfl ⟨_, rfl, TermsOwn.none _, fun g hg => by simp [Value.ownBlock] at hg, (by repeat (first | (with_reducible refine bl_set ?_ (by simp <;> omega) _) | (with_reducible refine bl_alloc ?_ (Nat.le_refl _) _) | (with_reducible refine Below.drew ?_) | (with_reducible assumption) | (with_reducible exact Below.refl _ _)))⟩
    simp (maxDischargeDepth := 9) [results, Try.results22, go_sem, *]
  rw [h1] at HV
  rw [h2] at HF
  have HSC2 := hide (HSC.out h1 h2)
  clear HBAD HSC h1 h2
  generalize slA a b L n d = sA at *
  generalize slB a b L n d = sB at *
  generalize slK a b L n d = sK at *
  generalize slL a b L n d = sM at *
  go_enter Try.func22, Try.ntmps22
  go_wp2_with fail
  (with_reducible refine (HV.out _ w.heap.size (by repeat (first | (with_reducible refine bl_set ?_ (by simp <;> omega) _) | (with_reducible refine bl_alloc ?_ (Nat.le_refl _) _) | (with_reducible refine Below.drew ?_) | (with_reducible assumption) | (with_reducible exact Below.refl _ _))) (by simp <;> omega) (by simp [go_sem]) (by simp [go_sem]) (by simp [go_sem])).mono ?_)
  rintro e w1 ⟨rfl, hb1⟩
  have z1 := hb1.size
  simp at z1
  have o1 : w1.heap[w.heap.size + 1 + 1]? = some (.cells #[.int .i64 0, .int .i64 0, .slice none 0 0] 32 (0, 0)) := (hb1.block _ (by simp)).trans (ug_new _ _ (by simp))
  have x1 : w1.heap[w.heap.size + 1]? = some (.cells #[.int .i64 n, .int .i64 d] 29 (0, 0)) := (hb1.block _ (by simp)).trans ((ug_old _ _ (by simp)).trans (ug_new _ _ (by simp)))
  have y1 : w1.heap[w.heap.size]? = some (.cells #[.int .i64 a, .int .i64 b, .slice A L.length ca] 32 (0, 0)) := (hb1.block _ (by simp; omega)).trans ((ug_old _ _ (by simp; omega)).trans ((ug_old _ _ (by simp)).trans (ug_new _ _ rfl)))
  have k1 := ug_cell x1
  have b1 : Below w.heap.size w w1 := bl_call (by repeat (first | (with_reducible refine bl_set ?_ (by simp <;> omega) _) | (with_reducible refine bl_alloc ?_ (Nat.le_refl _) _) | (with_reducible refine Below.drew ?_) | (with_reducible assumption) | (with_reducible exact Below.refl _ _))) hb1
  clear hb1
  go_wp2_with fail
  (with_reducible refine (HF _).mono ?_)
  rintro e w2 ⟨rfl, hb2⟩
  have z2 := hb2.size
  have o2 := (hb2.block _ (by omega)).trans o1
  have x2 := (hb2.block _ (by omega)).trans x1
  have y2 := (hb2.block _ (by omega)).trans y1
  have k2 := ug_cell x2
  have b2 : Below w.heap.size w w2 := bl_call b1 hb2
  clear hb2 k1 o1 x1 y1
  go_wp2_with fail
  (with_reducible refine (HSC2.out w2 (HX.out _ b2) w.heap.size (by omega) ((ug_cell y2 0).trans rfl) ((ug_cell y2 1).trans rfl) ((ug_cell y2 2).trans rfl)).mono ?_)
  rintro e w3 ⟨v, rfl, hv, hgv, hb3⟩
  obtain ⟨A3, c3, e3⟩ := hv.shape
  subst e3
  have z3 := hb3.size
  have o3 := (hb3.block _ (by omega)).trans o2
  have k3 := ug_cell o3
  have f3 := ug_frozen o3
  have m3 : w.heap.size + 1 + 1 < w3.heap.size := by omega
  have b3 : Below w.heap.size w w3 := bl_call b2 hb3
  have HGV := hide hgv
  have HVV := hide hv
  clear hb3 k2 hgv hv
  go_wp2
  refine bodyPost_ret (v := .tuple #[.agg #[.int .i64 sA, .int .i64 sB, .slice A3 sM.length c3], .int .i64 sK]) ?_ rfl ⟨_, rfl, HVV.out.kept (by simp [World.setCell]) (fun g hg hlt => ?_), fun g hg => ?_, (by repeat (first | (with_reducible refine bl_set ?_ (by simp <;> omega) _) | (with_reducible refine bl_alloc ?_ (Nat.le_refl _) _) | (with_reducible refine Below.drew ?_) | (with_reducible assumption) | (with_reducible exact Below.refl _ _)))⟩
  · simp (maxDischargeDepth := 9) [results, Try.results22, go_sem, *]
  · have := HGV.out g hg
    have ne : g ≠ w.heap.size + 1 + 1 := by omega
    exact (Below.heap_setCell _ _ _ _ ne).trans ((Below.heap_setCell _ _ _ _ ne).trans (Below.heap_setCell _ _ _ _ ne))
  · have := HGV.out g hg
    simp [World.setCell]
    omega
/-- what a region that makes an expression in a variable of its own leaves, behind world B -/
def MadeL (B wx : World) (s6 s7 : Value) (a d k : Int) (M : List T3) (T : TypeId) : Prop := ∃ g v, s6 = .pointer (some ⟨g, 0, none⟩) ∧ s7 = .int .i64 k ∧ wx.heap[g]? = some (.cells #[.int .i64 a, .int .i64 d, v] T (0, 0)) ∧ TermsOwn wx v M ∧ (∀ h, v.ownBlock = some h → B.heap.size ≤ h ∧ h ≠ g ∧ h < wx.heap.size) ∧ Below B.heap.size B wx ∧ B.heap.size ≤ g ∧ g < wx.heap.size
/-- .. made by one alloc behind it -/
theorem MadeL.fresh {B wU : World} {a d k : Int} {M : List T3} {T : TypeId} {v : Value} (hS : TermsOwn wU v M) (hg : ∀ h, v.ownBlock = some h → B.heap.size ≤ h ∧ h < wU.heap.size) (hb : Below B.heap.size B wU) : MadeL B (wU.alloc (.cells #[.int .i64 a, .int .i64 d, v] T)) (.pointer (some ⟨wU.heap.size, 0, none⟩)) (.int .i64 k) a d k M T := by
  have hs := hb.size
  refine ⟨_, v, rfl, rfl, ug_new _ _ rfl, hS.later ((Below.refl _ _).alloc (Nat.le_refl _) _), fun h hh => ?_, hb.alloc hs _, hs, by simp⟩
  obtain ⟨h1, h2⟩ := hg h hh
  exact ⟨h1, by omega, by simp; omega⟩
/-- .. made by stores into a block that was there -/
theorem MadeL.stored {B wU : World} {a d k : Int} {M : List T3} {T : TypeId} {v : Value} {g : Nat} {u0 u1 u2 : Value} (hS : TermsOwn wU v M) (hg : ∀ h, v.ownBlock = some h → g < h ∧ h < wU.heap.size) (hb : Below B.heap.size B wU) (hB : B.heap.size ≤ g) (hA : wU.heap[g]? = some (.cells #[u0, u1, u2] T (0, 0))) : MadeL B (((wU.setCell ⟨g, 0, none⟩ (.int .i64 a)).setCell ⟨g, 1, none⟩ (.int .i64 d)).setCell ⟨g, 2, none⟩ v) (.pointer (some ⟨g, 0, none⟩)) (.int .i64 k) a d k M T := by
  have hlt : g < wU.heap.size := (Array.getElem?_eq_some_iff.1 hA).1
  refine ⟨g, v, rfl, rfl, ug_set (ug_set (ug_set hA 0 _) 1 _) 2 _, hS.kept (by simp [World.setCell]) (fun h hh _ => ?_), fun h hh => ?_, ((hb.setCell (p := ⟨g, 0, none⟩) hB _).setCell (p := ⟨g, 1, none⟩) hB _).setCell (p := ⟨g, 2, none⟩) hB _, hB, by simpa [World.setCell] using hlt⟩
  · obtain ⟨h1, h2⟩ := hg h hh
    have ne : h ≠ g := by omega
    exact (Below.heap_setCell _ _ _ _ ne).trans ((Below.heap_setCell _ _ _ _ ne).trans (Below.heap_setCell _ _ _ _ ne))
  · obtain ⟨h1, h2⟩ := hg h hh
    exact ⟨by omega, by omega, by simpa [World.setCell] using h2⟩
set_option maxRecDepth 100000 in
set_option maxHeartbeats 64000000 in
theorem fnScaleLinear (a b : Int) (x : Value) (L : List T3) (n d : Int) (wa : -9223372036854775808 ≤ a ∧ a ≤ 9223372036854775807) (wb : -9223372036854775808 ≤ b ∧ b ≤ 9223372036854775807) (hB : LinB L) (wn : (Lit.int .i64 n).wf = true) (wd : (Lit.int .i64 d).wf = true) (w : World) (hx : TermsAt w x L) : Calls Try.prog 6 #[.agg #[.int .i64 a, .int .i64 b, x], .agg #[.int .i64 n, .int .i64 d]] w fun e w' => e = .returned (.bool true) ∧ Below w.heap.size w w' := by
  have HSZ := hide (fun W (hW : Below w.heap.size w W) => szLinear_any a b x L 1048576 (by decide) (by decide) W (hx.later hW) hB)
  have HTO := hide (fun W (hW : Below w.heap.size w W) (hl : L.length ≤ 1048576) => toLinear_any a b x L W (hx.later hW) hl)
  have HB := hide hB
  have hnn := wf64 wn
  have HVS := hide (fun x (w : World) hx => scaleLinear_s a b wa x L HB.out n d hnn w hx)
  have HVI := hide (fun x (w : World) hx => scaleLinear_i a b wa x L HB.out n d hnn w hx)
  have hM : (slL a b L n d).length ≤ 12 := slL_len
  generalize slA a b L n d = rA at *
  generalize slB a b L n d = rD at *
  generalize slK a b L n d = rK at *
  generalize slL a b L n d = M at *
  obtain ⟨A, ca, rfl, _⟩ := hx
  clear hB wn wd wa wb hnn
  go_enter Try.func6, Try.ntmps6
  go_wp2_with fail
  (with_reducible refine (HSZ.out _ (by repeat (first | (with_reducible refine bl_set ?_ (by simp <;> omega) _) | (with_reducible refine bl_alloc ?_ (Nat.le_refl _) _) | (with_reducible refine Below.drew ?_) | (with_reducible assumption) | (with_reducible exact Below.refl _ _)))).mono ?_)
  rintro e w1 ⟨r, rfl, hr, hb1⟩
  have z1 := hb1.size
  simp at z1
  have o1 : w1.heap[w.heap.size]? = some (.cells #[.int .i64 a, .int .i64 b, .slice A L.length ca] 26 (0, 0)) := (hb1.block _ (by simp; omega)).trans ((ug_old _ _ (by simp)).trans (ug_new _ _ rfl))
  have p1 : w1.heap[w.heap.size + 1]? = some (.cells #[.int .i64 n, .int .i64 d] 23 (0, 0)) := (hb1.block _ (by simp)).trans (ug_new _ _ (by simp))
  have b1 : Below w.heap.size w w1 := bl_call (by repeat (first | (with_reducible refine bl_set ?_ (by simp <;> omega) _) | (with_reducible refine bl_alloc ?_ (Nat.le_refl _) _) | (with_reducible refine Below.drew ?_) | (with_reducible assumption) | (with_reducible exact Below.refl _ _))) hb1
  clear hb1 HSZ HB
  rcases hr with rfl | ⟨q0, q1, q2⟩
  · go_wp2
    go_ret
    exact ⟨rfl, b1⟩
  have q3 : L.length ≤ 1048576 := by omega
  have m0 : w.heap.size < w1.heap.size := by omega
  have m1 : w.heap.size + 1 < w1.heap.size := by omega
  have BW := hide (fun W (hW : Below w1.heap.size w1 W) => b1.trans (hW.mono (by omega)))
  have C5 := hide (fun W (hW : Below w1.heap.size w1 W) => (⟨(hW.cell (p := ⟨w.heap.size, 0, none⟩) m0).trans (ug_cell o1 0), (hW.cell (p := ⟨w.heap.size, 1, none⟩) m0).trans (ug_cell o1 1), (hW.cell (p := ⟨w.heap.size, 2, none⟩) m0).trans (ug_cell o1 2), (hW.cell (p := ⟨w.heap.size + 1, 0, none⟩) m1).trans (ug_cell p1 0), (hW.cell (p := ⟨w.heap.size + 1, 1, none⟩) m1).trans (ug_cell p1 1)⟩ : W.cell? ⟨w.heap.size, 0, none⟩ = some (.int .i64 a) ∧ W.cell? ⟨w.heap.size, 1, none⟩ = some (.int .i64 b) ∧ W.cell? ⟨w.heap.size, 2, none⟩ = some (.slice A L.length ca) ∧ W.cell? ⟨w.heap.size + 1, 0, none⟩ = some (.int .i64 n) ∧ W.cell? ⟨w.heap.size + 1, 1, none⟩ = some (.int .i64 d)))
  clear q1 q2
  go_upto_region 5 with fail
  go_cut [6, 7] (fun sA sB wx => MadeL w1 wx sA sB rA rD rK M 32)
  case first => as_aux_lemma =>
    go_region_held3 (fun w' => w'.cell? ⟨w.heap.size, 0, none⟩ = some (.int .i64 a) ∧ w'.cell? ⟨w.heap.size, 1, none⟩ = some (.int .i64 b) ∧ w'.cell? ⟨w.heap.size, 2, none⟩ = some (.slice A L.length ca) ∧ w'.cell? ⟨w.heap.size + 1, 0, none⟩ = some (.int .i64 n) ∧ w'.cell? ⟨w.heap.size + 1, 1, none⟩ = some (.int .i64 d))
      (first
        | (go_split_ands; exact C5.out _ (by repeat (first | (with_reducible refine bl_set ?_ (by simp <;> omega) _) | (with_reducible refine bl_alloc ?_ (Nat.le_refl _) _) | (with_reducible refine Below.drew ?_) | (with_reducible assumption) | (with_reducible exact Below.refl _ _))))
        | go_keep)
      (first
        | (go_at_call 12; ((with_reducible refine (HTO.out _ (BW.out _ (by repeat (first | (with_reducible refine bl_set ?_ (by simp <;> omega) _) | (with_reducible refine bl_alloc ?_ (Nat.le_refl _) _) | (with_reducible refine Below.drew ?_) | (with_reducible assumption) | (with_reducible exact Below.refl _ _)))) q3).mono ?_); rintro e wX ⟨vX, rfl, hSX, hgX, hbX⟩; obtain ⟨AX, cX, eX⟩ := hSX.shape; subst eX; have zX := hbX.size; (try simp at zX); have bX : Below w1.heap.size w1 wX := bl_call (by repeat (first | (with_reducible refine bl_set ?_ (by simp <;> omega) _) | (with_reducible refine bl_alloc ?_ (Nat.le_refl _) _) | (with_reducible refine Below.drew ?_) | (with_reducible assumption) | (with_reducible exact Below.refl _ _))) hbX; (try (first | (have hAX := (hbX.block _ (by simp)).trans (ug_new _ (.cells #[.int .i64 0, .int .i64 0, .slice none 0 0] 32) rfl)) | (have hAX := (hbX.block _ (by omega)).trans hAF))); (try have kAX := ug_cell hAX); (try have fAX := ug_frozen hAX)))
        | (go_at_call 23; ((with_reducible refine (toFrac_any _ _ _).mono ?_); rintro e wF ⟨rfl, hbF⟩; have zF := hbF.size; (try simp at zF); have bF : Below w1.heap.size w1 wF := bl_call (by repeat (first | (with_reducible refine bl_set ?_ (by simp <;> omega) _) | (with_reducible refine bl_alloc ?_ (Nat.le_refl _) _) | (with_reducible refine Below.drew ?_) | (with_reducible assumption) | (with_reducible exact Below.refl _ _))) hbF; (try have hSXF := hSX.at.later (bl_call (by repeat (first | (with_reducible refine bl_set ?_ (by simp <;> omega) _) | (with_reducible refine bl_alloc ?_ (Nat.le_refl _) _) | (with_reducible refine Below.drew ?_) | (with_reducible assumption) | (with_reducible exact Below.refl _ _))) hbF)); (try (first | (have hAF := (hbF.block _ (by simp)).trans (ug_new _ (.cells #[.int .i64 0, .int .i64 0, .slice none 0 0] 32) rfl)) | (have hAF := (hbF.block _ (by omega)).trans hAX))); (try have kAF := ug_cell hAF); (try have fAF := ug_frozen hAF)))
        | (go_at_call 22; ((with_reducible refine (HVS.out _ _ (by first | exact hSXF | exact hSXF.later (by repeat (first | (with_reducible refine bl_set ?_ (by simp <;> omega) _) | (with_reducible refine bl_alloc ?_ (Nat.le_refl _) _) | (with_reducible refine Below.drew ?_) | (with_reducible assumption) | (with_reducible exact Below.refl _ _))) | exact hSX.at | exact hSX.at.later (by repeat (first | (with_reducible refine bl_set ?_ (by simp <;> omega) _) | (with_reducible refine bl_alloc ?_ (Nat.le_refl _) _) | (with_reducible refine Below.drew ?_) | (with_reducible assumption) | (with_reducible exact Below.refl _ _))))).mono ?_); rintro e wU ⟨vU, rfl, hSU, hgU, hbU⟩; obtain ⟨AU, cU, eU⟩ := hSU.shape; subst eU; have zU := hbU.size; (try simp at zU); have bU : Below w1.heap.size w1 wU := bl_call (by repeat (first | (with_reducible refine bl_set ?_ (by simp <;> omega) _) | (with_reducible refine bl_alloc ?_ (Nat.le_refl _) _) | (with_reducible refine Below.drew ?_) | (with_reducible assumption) | (with_reducible exact Below.refl _ _))) hbU; (try (first | (have hAU := (hbU.block _ (by simp)).trans (ug_new _ (.cells #[.int .i64 0, .int .i64 0, .slice none 0 0] 32) rfl)) | (have hAU := (hbU.block _ (by omega)).trans hAF) | (have hAU := (hbU.block _ (by omega)).trans hAX))); (try have kAU := ug_cell hAU); (try have fAU := ug_frozen hAU))))
    all_goals (go_wp2_with fail; go_meet)
    all_goals (first | exact MadeL.fresh hSU (fun h hh => by have := hgU h hh; (try simp at this); omega) bU | exact MadeL.stored hSU (fun h hh => by have := hgU h hh; (try simp at this); omega) bU (by omega) hAU)
  case rest => as_aux_lemma =>
  obtain ⟨g6, v6, rfl, rfl, i6, T6, hn6, hb6, ge6, lt6⟩ := hcut
  obtain ⟨A6, c6, e6⟩ := T6.shape
  subst e6
  obtain ⟨vA, rfl⟩ : ∃ vA, vA = wc := ⟨_, rfl⟩
  have zA := hb6.size
  have oA := (hb6.block _ m0).trans o1
  have pA := (hb6.block _ m1).trans p1
  have bA := BW.out _ hb6
  have kA := ug_cell oA
  clear o1 p1 b1 BW C5 hb6
  go_wp2_with fail
  (with_reducible refine (HTO.out _ bA q3).mono ?_)
  rintro e w3 ⟨v8, rfl, hS8, hg8, hb3⟩
  obtain ⟨A8, c8, e8⟩ := hS8.shape
  subst e8
  have z3 := hb3.size
  have oB : (w3.alloc (.cells #[.int .i64 a, .int .i64 b, .slice A8 L.length c8] 32)).heap[w.heap.size]? = some (.cells #[.int .i64 a, .int .i64 b, .slice A L.length ca] 26 (0, 0)) := (ug_old _ _ (by omega)).trans ((hb3.block _ (by omega)).trans oA)
  have pB : (w3.alloc (.cells #[.int .i64 a, .int .i64 b, .slice A8 L.length c8] 32)).heap[w.heap.size + 1]? = some (.cells #[.int .i64 n, .int .i64 d] 23 (0, 0)) := (ug_old _ _ (by omega)).trans ((hb3.block _ (by omega)).trans pA)
  have iB : (w3.alloc (.cells #[.int .i64 a, .int .i64 b, .slice A8 L.length c8] 32)).heap[g6]? = some (.cells #[.int .i64 rA, .int .i64 rD, .slice A6 M.length c6] 32 (0, 0)) := (ug_old _ _ (by omega)).trans ((hb3.block _ (by omega)).trans i6)
  have jB : (w3.alloc (.cells #[.int .i64 a, .int .i64 b, .slice A8 L.length c8] 32)).heap[w3.heap.size]? = some (.cells #[.int .i64 a, .int .i64 b, .slice A8 L.length c8] 32 (0, 0)) := ug_new _ _ rfl
  have T6B : TermsOwn (w3.alloc (.cells #[.int .i64 a, .int .i64 b, .slice A8 L.length c8] 32)) (.slice A6 M.length c6) M := (T6.later hb3).later ((Below.refl _ _).alloc (Nat.le_refl _) _)
  have T8B : TermsOwn (w3.alloc (.cells #[.int .i64 a, .int .i64 b, .slice A8 L.length c8] 32)) (.slice A8 L.length c8) L := hS8.later ((Below.refl _ _).alloc (Nat.le_refl _) _)
  have bB : Below w.heap.size w (w3.alloc (.cells #[.int .i64 a, .int .i64 b, .slice A8 L.length c8] 32)) := (bA.trans (hb3.mono bA.size)).alloc (by have := bA.size; omega) _
  have zB : w3.heap.size + 1 ≤ (w3.alloc (.cells #[.int .i64 a, .int .i64 b, .slice A8 L.length c8] 32)).heap.size := by simp
  clear oA pA i6 T6 hS8 bA kA hb3
  go_upto_region 7 with fail
  generalize hvB : w3.alloc (.cells #[.int .i64 a, .int .i64 b, .slice A8 L.length c8] 32) = vB at *
  clear hvB
  have BW := hide (fun W (hW : Below vB.heap.size vB W) => bB.trans (hW.mono (by have := bB.size; omega)))
  have T8 := hide (fun W (hW : Below vB.heap.size vB W) => T8B.at.later hW)
  have C5 := hide (fun W (hW : Below vB.heap.size vB W) => (⟨(hW.cell (p := ⟨w3.heap.size, 0, none⟩) (by show w3.heap.size < _; omega)).trans (ug_cell jB 0), (hW.cell (p := ⟨w3.heap.size, 1, none⟩) (by show w3.heap.size < _; omega)).trans (ug_cell jB 1), (hW.cell (p := ⟨w3.heap.size, 2, none⟩) (by show w3.heap.size < _; omega)).trans (ug_cell jB 2), (hW.cell (p := ⟨w.heap.size + 1, 0, none⟩) (by show w.heap.size + 1 < _; omega)).trans (ug_cell pB 0), (hW.cell (p := ⟨w.heap.size + 1, 1, none⟩) (by show w.heap.size + 1 < _; omega)).trans (ug_cell pB 1)⟩ : W.cell? ⟨w3.heap.size, 0, none⟩ = some (.int .i64 a) ∧ W.cell? ⟨w3.heap.size, 1, none⟩ = some (.int .i64 b) ∧ W.cell? ⟨w3.heap.size, 2, none⟩ = some (.slice A8 L.length c8) ∧ W.cell? ⟨w.heap.size + 1, 0, none⟩ = some (.int .i64 n) ∧ W.cell? ⟨w.heap.size + 1, 1, none⟩ = some (.int .i64 d)))

  go_cut [9, 10] (fun sA sB wx => MadeL vB wx sA sB rA rD rK M 32)
  case first => as_aux_lemma =>
    go_region_held3 (fun w' => w'.cell? ⟨w3.heap.size, 0, none⟩ = some (.int .i64 a) ∧ w'.cell? ⟨w3.heap.size, 1, none⟩ = some (.int .i64 b) ∧ w'.cell? ⟨w3.heap.size, 2, none⟩ = some (.slice A8 L.length c8) ∧ w'.cell? ⟨w.heap.size + 1, 0, none⟩ = some (.int .i64 n) ∧ w'.cell? ⟨w.heap.size + 1, 1, none⟩ = some (.int .i64 d))
      (first
        | (go_split_ands; exact C5.out _ (by repeat (first | (with_reducible refine bl_set ?_ (by simp <;> omega) _) | (with_reducible refine bl_alloc ?_ (Nat.le_refl _) _) | (with_reducible refine Below.drew ?_) | (with_reducible assumption) | (with_reducible exact Below.refl _ _))))
        | go_keep)
      (first
        | (go_at_call 23; ((with_reducible refine (toFrac_any _ _ _).mono ?_); rintro e wF ⟨rfl, hbF⟩; have zF := hbF.size; (try simp at zF); have bF : Below vB.heap.size vB wF := bl_call (by repeat (first | (with_reducible refine bl_set ?_ (by simp <;> omega) _) | (with_reducible refine bl_alloc ?_ (Nat.le_refl _) _) | (with_reducible refine Below.drew ?_) | (with_reducible assumption) | (with_reducible exact Below.refl _ _))) hbF; (try have hSXF := hSX.at.later (bl_call (by repeat (first | (with_reducible refine bl_set ?_ (by simp <;> omega) _) | (with_reducible refine bl_alloc ?_ (Nat.le_refl _) _) | (with_reducible refine Below.drew ?_) | (with_reducible assumption) | (with_reducible exact Below.refl _ _))) hbF)); (try (first | (have hAF := (hbF.block _ (by simp)).trans (ug_new _ (.cells #[.int .i64 0, .int .i64 0, .slice none 0 0] 32) rfl)) | (have hAF := (hbF.block _ (by omega)).trans hAX))); (try have kAF := ug_cell hAF); (try have fAF := ug_frozen hAF)))
        | (go_at_call 24; ((with_reducible refine (HVI.out _ _ (T8.out _ (by repeat (first | (with_reducible refine bl_set ?_ (by simp <;> omega) _) | (with_reducible refine bl_alloc ?_ (Nat.le_refl _) _) | (with_reducible refine Below.drew ?_) | (with_reducible assumption) | (with_reducible exact Below.refl _ _))))).mono ?_); rintro e wU ⟨vU, rfl, hSU, hgU, hbU⟩; obtain ⟨AU, cU, eU⟩ := hSU.shape; subst eU; have zU := hbU.size; (try simp at zU); have bU : Below vB.heap.size vB wU := bl_call (by repeat (first | (with_reducible refine bl_set ?_ (by simp <;> omega) _) | (with_reducible refine bl_alloc ?_ (Nat.le_refl _) _) | (with_reducible refine Below.drew ?_) | (with_reducible assumption) | (with_reducible exact Below.refl _ _))) hbU; (try (first | (have hAU := (hbU.block _ (by simp)).trans (ug_new _ (.cells #[.int .i64 0, .int .i64 0, .slice none 0 0] 32) rfl)) | (have hAU := (hbU.block _ (by omega)).trans hAF) | (have hAU := (hbU.block _ (by omega)).trans hAX))); (try have kAU := ug_cell hAU); (try have fAU := ug_frozen hAU))))
    all_goals (go_wp2_with fail; go_meet)
    all_goals (first | exact MadeL.fresh hSU (fun h hh => by have := hgU h hh; (try simp at this); omega) bU | exact MadeL.stored hSU (fun h hh => by have := hgU h hh; (try simp at this); omega) bU (by omega) hAU)
  case rest => as_aux_lemma =>
  obtain ⟨g9, v9, rfl, rfl, i9, T9, hn9, hb9, ge9, lt9⟩ := hcut
  obtain ⟨A9, c9, e9⟩ := T9.shape
  subst e9
  obtain ⟨vC, rfl⟩ : ∃ vC, vC = wc := ⟨_, rfl⟩
  have zC := hb9.size
  have oC := (hb9.block _ (by omega)).trans oB
  have pC := (hb9.block _ (by omega)).trans pB
  have iC := (hb9.block _ (by omega)).trans iB
  have jC := (hb9.block _ (by omega)).trans jB
  have T6C := T6B.later hb9
  have T8C := T8B.later hb9
  have bC := BW.out _ hb9
  have k9 := ug_cell i9
  have k6 := ug_cell iC
  clear oB pB iB jB T6B T8B bB BW T8 C5 hb9
  go_wp2_with fail
  (with_reducible refine (eqLinear_any rA rD _ _ M _ T9.at T6C.at (by omega)).mono ?_)
  rintro e vD ⟨rfl, hb⟩
  have zD := hb.size
  have oD := (hb.block _ (by omega)).trans oC
  have pD := (hb.block _ (by omega)).trans pC
  have iD := (hb.block _ (by omega)).trans iC
  have jD := (hb.block _ (by omega)).trans jC
  have i9D := (hb.block _ lt9).trans i9
  have T6D := T6C.later hb
  have T8D := T8C.later hb
  have T9D := T9.later hb
  have bD : Below w.heap.size w vD := bC.trans (hb.mono bC.size)
  have C5 := hide (fun W (hW : Below vD.heap.size vD W) => (⟨(hW.cell (p := ⟨w3.heap.size, 0, none⟩) (by show w3.heap.size < _; omega)).trans (ug_cell jD 0), (hW.cell (p := ⟨w3.heap.size, 1, none⟩) (by show w3.heap.size < _; omega)).trans (ug_cell jD 1), (hW.cell (p := ⟨w3.heap.size, 2, none⟩) (by show w3.heap.size < _; omega)).trans (ug_cell jD 2), (hW.cell (p := ⟨w.heap.size, 0, none⟩) (by show w.heap.size < _; omega)).trans (ug_cell oD 0), (hW.cell (p := ⟨w.heap.size, 1, none⟩) (by show w.heap.size < _; omega)).trans (ug_cell oD 1), (hW.cell (p := ⟨w.heap.size, 2, none⟩) (by show w.heap.size < _; omega)).trans (ug_cell oD 2)⟩ : W.cell? ⟨w3.heap.size, 0, none⟩ = some (.int .i64 a) ∧ W.cell? ⟨w3.heap.size, 1, none⟩ = some (.int .i64 b) ∧ W.cell? ⟨w3.heap.size, 2, none⟩ = some (.slice A8 L.length c8) ∧ W.cell? ⟨w.heap.size, 0, none⟩ = some (.int .i64 a) ∧ W.cell? ⟨w.heap.size, 1, none⟩ = some (.int .i64 b) ∧ W.cell? ⟨w.heap.size, 2, none⟩ = some (.slice A L.length ca)))
  have BW := hide (fun W (hW : Below vD.heap.size vD W) => bD.trans (hW.mono bD.size))
  have T8 := hide (fun W (hW : Below vD.heap.size vD W) => T8D.at.later hW)
  clear oC pC iC jC i9 T6C T8C T9 bC k9 k6 hb
  go_upto_region 10 with fail
  go_cut [51] (fun sA wx => sA = .bool false ∧ Below vD.heap.size vD wx)
  case first => as_aux_lemma =>
    go_region_held3 (fun w' => w'.cell? ⟨w3.heap.size, 0, none⟩ = some (.int .i64 a) ∧ w'.cell? ⟨w3.heap.size, 1, none⟩ = some (.int .i64 b) ∧ w'.cell? ⟨w3.heap.size, 2, none⟩ = some (.slice A8 L.length c8) ∧ w'.cell? ⟨w.heap.size, 0, none⟩ = some (.int .i64 a) ∧ w'.cell? ⟨w.heap.size, 1, none⟩ = some (.int .i64 b) ∧ w'.cell? ⟨w.heap.size, 2, none⟩ = some (.slice A L.length ca))
      (first
        | (go_split_ands; exact C5.out _ (by repeat (first | (with_reducible refine bl_set ?_ (by simp <;> omega) _) | (with_reducible refine bl_alloc ?_ (Nat.le_refl _) _) | (with_reducible refine Below.drew ?_) | (with_reducible assumption) | (with_reducible exact Below.refl _ _))))
        | go_keep)
      (first
        | (go_at_call 12; ((with_reducible refine (HTO.out _ (BW.out _ (by repeat (first | (with_reducible refine bl_set ?_ (by simp <;> omega) _) | (with_reducible refine bl_alloc ?_ (Nat.le_refl _) _) | (with_reducible refine Below.drew ?_) | (with_reducible assumption) | (with_reducible exact Below.refl _ _)))) q3).mono ?_); rintro e wX ⟨vX, rfl, hSX, hgX, hbX⟩; obtain ⟨AX, cX, eX⟩ := hSX.shape; subst eX; have zX := hbX.size; have bX : Below vD.heap.size vD wX := bl_call (by repeat (first | (with_reducible refine bl_set ?_ (by simp <;> omega) _) | (with_reducible refine bl_alloc ?_ (Nat.le_refl _) _) | (with_reducible refine Below.drew ?_) | (with_reducible assumption) | (with_reducible exact Below.refl _ _))) hbX))
        | (go_at_call 14; ((with_reducible refine (eqLinear_any a b _ _ L _ (T8.out _ (by repeat (first | (with_reducible refine bl_set ?_ (by simp <;> omega) _) | (with_reducible refine bl_alloc ?_ (Nat.le_refl _) _) | (with_reducible refine Below.drew ?_) | (with_reducible assumption) | (with_reducible exact Below.refl _ _)))) hSX.at (by omega)).mono ?_); rintro e wU ⟨rfl, hbU⟩; have bU : Below vD.heap.size vD wU := bl_call bX hbU)))
    all_goals (go_wp2_with fail; go_meet)
    all_goals (exact ⟨rfl, bU⟩)
  case rest => as_aux_lemma =>
  obtain ⟨rfl, hb⟩ := hcut
  obtain ⟨vE, rfl⟩ : ∃ vE, vE = wc := ⟨_, rfl⟩
  have zE := hb.size
  have oE := (hb.block _ (by omega)).trans oD
  have pE := (hb.block _ (by omega)).trans pD
  have iE := (hb.block _ (by omega)).trans iD
  have jE := (hb.block _ (by omega)).trans jD
  have i9E := (hb.block _ (by omega)).trans i9D
  have T6E := T6D.later hb
  have T8E := T8D.later hb
  have T9E := T9D.later hb
  have bE := BW.out _ hb
  have kE := ug_cell jE
  clear oD pD iD jD i9D T6D T8D T9D bD BW T8 C5 hb
  have HM : Calls Try.prog 25 #[.agg #[.int .i64 a, .int .i64 b, .slice A8 L.length c8], .int .i64 1] vE _ := markLinear_any a b _ L 1 (by decide) (by decide) vE T8E (by omega)
  go_wp2_with fail
  (with_reducible refine HM.mono ?_)
  rintro e vF ⟨rfl, _, zF, x1, x2, x3, hk⟩
  have n8 : ∀ h, (Value.slice A8 L.length c8).ownBlock = some h → vA.heap.size ≤ h ∧ h < w3.heap.size := fun h hh => hg8 h hh
  have oF := (hk _ (by omega) (fun e => by have := n8 _ e; omega)).trans oE
  have pF := (hk _ (by omega) (fun e => by have := n8 _ e; omega)).trans pE
  have iF := (hk _ (by omega) (fun e => by have := n8 _ e; omega)).trans iE
  have i9F := (hk _ (by omega) (fun e => by have := n8 _ e; omega)).trans i9E
  have T6F : TermsOwn vF (.slice A6 M.length c6) M := T6E.kept zF (fun g hg hlt => hk g hlt (fun e => by have := hn6 g hg; have := n8 _ e; omega))
  have T9F : TermsOwn vF (.slice A9 M.length c9) M := T9E.kept zF (fun g hg hlt => hk g hlt (fun e => by have := hn9 g hg; have := n8 _ e; omega))
  have bF : Below w.heap.size w vF := ⟨x1.trans bE.os, x2.trans bE.tape, x3.trans bE.output, Nat.le_trans bE.size zF, fun k hk2 => (hk k (by have := bE.size; omega) (fun e => by have := n8 _ e; omega)).trans (bE.block k hk2)⟩
  have k9 := ug_cell i9F
  have k6 := ug_cell iF
  clear oE pE iE jE i9E T6E T8E T9E bE kE HM hk x1 x2 x3 hg8
  go_wp2_with fail
  (with_reducible refine (eqLinear_any rA rD _ _ M _ T9F.at T6F.at (by omega)).mono ?_)
  rintro e vG ⟨rfl, hb⟩
  have zG := hb.size
  have oG := (hb.block _ (by omega)).trans oF
  have pG := (hb.block _ (by omega)).trans pF
  have iG := (hb.block _ (by omega)).trans iF
  have i9G := (hb.block _ (by omega)).trans i9F
  have T6G := T6F.later hb
  have T9G := T9F.later hb
  have bG : Below w.heap.size w vG := bF.trans (hb.mono bF.size)
  have kG := ug_cell i9G
  clear oF pF iF i9F T6F T9F bF k9 k6 hb
  have HM : Calls Try.prog 25 #[.agg #[.int .i64 rA, .int .i64 rD, .slice A9 M.length c9], .int .i64 1] vG _ := markLinear_any rA rD _ M 1 (by decide) (by decide) vG T9G (by omega)
  go_wp2_with fail
  (with_reducible refine HM.mono ?_)
  rintro e vH ⟨rfl, hmk, zH, x1, x2, x3, hk⟩
  have oH := (hk _ (by omega) (fun e => by have := hn9 _ e; omega)).trans oG
  have pH := (hk _ (by omega) (fun e => by have := hn9 _ e; omega)).trans pG
  have iH := (hk _ (by omega) (fun e => by have := hn9 _ e; omega)).trans iG
  have i9H := (hk _ (by omega) (fun e => by have := hn9 _ e; omega)).trans i9G
  have T6H : TermsOwn vH (.slice A6 M.length c6) M := T6G.kept zH (fun g hg hlt => hk g hlt (fun e => by have := hn6 g hg; have := hn9 _ e; omega))
  have bH : Below w.heap.size w vH := ⟨x1.trans bG.os, x2.trans bG.tape, x3.trans bG.output, Nat.le_trans bG.size zH, fun k hk2 => (hk k (by have := bG.size; omega) (fun e => by have := hn9 _ e; omega)).trans (bG.block k hk2)⟩
  have kH := ug_cell i9H
  clear oG pG iG i9G T6G T9G bG kG HM hk x1 x2 x3
  have HH : Calls Try.prog 26 #[.agg #[.int .i64 rA, .int .i64 rD, .slice A9 M.length c9], .int .i64 1] vH _ := heldLinear_any rA rD _ M.length 1 (by decide) (by decide) vH hmk (by omega)
  go_wp2_with fail
  (with_reducible refine HH.mono ?_)
  rintro e vI ⟨rfl, hb⟩
  have zI := hb.size
  have oI := (hb.block _ (by omega)).trans oH
  have pI := (hb.block _ (by omega)).trans pH
  have iI := (hb.block _ (by omega)).trans iH
  have i9I := (hb.block _ (by omega)).trans i9H
  have T6I := T6H.later hb
  have hmkI := hmk.later hb
  have bI : Below w.heap.size w vI := bH.trans (hb.mono bH.size)
  clear oH pH iH i9H T6H hmk bH kH hb HH
  have BW := hide (fun W (hW : Below vI.heap.size vI W) => bI.trans (hW.mono bI.size))
  have C5 := hide (fun W (hW : Below vI.heap.size vI W) => (⟨(hW.cell (p := ⟨w.heap.size, 0, none⟩) (by show w.heap.size < _; omega)).trans (ug_cell oI 0), (hW.cell (p := ⟨w.heap.size, 1, none⟩) (by show w.heap.size < _; omega)).trans (ug_cell oI 1), (hW.cell (p := ⟨w.heap.size, 2, none⟩) (by show w.heap.size < _; omega)).trans (ug_cell oI 2), (hW.cell (p := ⟨w.heap.size + 1, 0, none⟩) (by show w.heap.size + 1 < _; omega)).trans (ug_cell pI 0), (hW.cell (p := ⟨w.heap.size + 1, 1, none⟩) (by show w.heap.size + 1 < _; omega)).trans (ug_cell pI 1)⟩ : W.cell? ⟨w.heap.size, 0, none⟩ = some (.int .i64 a) ∧ W.cell? ⟨w.heap.size, 1, none⟩ = some (.int .i64 b) ∧ W.cell? ⟨w.heap.size, 2, none⟩ = some (.slice A L.length ca) ∧ W.cell? ⟨w.heap.size + 1, 0, none⟩ = some (.int .i64 n) ∧ W.cell? ⟨w.heap.size + 1, 1, none⟩ = some (.int .i64 d)))
  go_upto_region 24 with fail
  go_cut [14, 15] (fun sA sB wx => MadeL vI wx sA sB rA rD rK M 32)
  case first => as_aux_lemma =>
    go_region_held3 (fun w' => w'.cell? ⟨w.heap.size, 0, none⟩ = some (.int .i64 a) ∧ w'.cell? ⟨w.heap.size, 1, none⟩ = some (.int .i64 b) ∧ w'.cell? ⟨w.heap.size, 2, none⟩ = some (.slice A L.length ca) ∧ w'.cell? ⟨w.heap.size + 1, 0, none⟩ = some (.int .i64 n) ∧ w'.cell? ⟨w.heap.size + 1, 1, none⟩ = some (.int .i64 d))
      (first
        | (go_split_ands; exact C5.out _ (by repeat (first | (with_reducible refine bl_set ?_ (by simp <;> omega) _) | (with_reducible refine bl_alloc ?_ (Nat.le_refl _) _) | (with_reducible refine Below.drew ?_) | (with_reducible assumption) | (with_reducible exact Below.refl _ _))))
        | go_keep)
      (first
        | (go_at_call 12; ((with_reducible refine (HTO.out _ (BW.out _ (by repeat (first | (with_reducible refine bl_set ?_ (by simp <;> omega) _) | (with_reducible refine bl_alloc ?_ (Nat.le_refl _) _) | (with_reducible refine Below.drew ?_) | (with_reducible assumption) | (with_reducible exact Below.refl _ _)))) q3).mono ?_); rintro e wX ⟨vX, rfl, hSX, hgX, hbX⟩; obtain ⟨AX, cX, eX⟩ := hSX.shape; subst eX; have zX := hbX.size; (try simp at zX); have bX : Below vI.heap.size vI wX := bl_call (by repeat (first | (with_reducible refine bl_set ?_ (by simp <;> omega) _) | (with_reducible refine bl_alloc ?_ (Nat.le_refl _) _) | (with_reducible refine Below.drew ?_) | (with_reducible assumption) | (with_reducible exact Below.refl _ _))) hbX; (try (first | (have hAX := (hbX.block _ (by simp)).trans (ug_new _ (.cells #[.int .i64 0, .int .i64 0, .slice none 0 0] 32) rfl)) | (have hAX := (hbX.block _ (by omega)).trans hAF))); (try have kAX := ug_cell hAX); (try have fAX := ug_frozen hAX)))
        | (go_at_call 23; ((with_reducible refine (toFrac_any _ _ _).mono ?_); rintro e wF ⟨rfl, hbF⟩; have zF := hbF.size; (try simp at zF); have bF : Below vI.heap.size vI wF := bl_call (by repeat (first | (with_reducible refine bl_set ?_ (by simp <;> omega) _) | (with_reducible refine bl_alloc ?_ (Nat.le_refl _) _) | (with_reducible refine Below.drew ?_) | (with_reducible assumption) | (with_reducible exact Below.refl _ _))) hbF; (try have hSXF := hSX.at.later (bl_call (by repeat (first | (with_reducible refine bl_set ?_ (by simp <;> omega) _) | (with_reducible refine bl_alloc ?_ (Nat.le_refl _) _) | (with_reducible refine Below.drew ?_) | (with_reducible assumption) | (with_reducible exact Below.refl _ _))) hbF)); (try (first | (have hAF := (hbF.block _ (by simp)).trans (ug_new _ (.cells #[.int .i64 0, .int .i64 0, .slice none 0 0] 32) rfl)) | (have hAF := (hbF.block _ (by omega)).trans hAX))); (try have kAF := ug_cell hAF); (try have fAF := ug_frozen hAF)))
        | (go_at_call 24; ((with_reducible refine (HVI.out _ _ (by first | exact hSXF | exact hSXF.later (by repeat (first | (with_reducible refine bl_set ?_ (by simp <;> omega) _) | (with_reducible refine bl_alloc ?_ (Nat.le_refl _) _) | (with_reducible refine Below.drew ?_) | (with_reducible assumption) | (with_reducible exact Below.refl _ _))) | exact hSX.at | exact hSX.at.later (by repeat (first | (with_reducible refine bl_set ?_ (by simp <;> omega) _) | (with_reducible refine bl_alloc ?_ (Nat.le_refl _) _) | (with_reducible refine Below.drew ?_) | (with_reducible assumption) | (with_reducible exact Below.refl _ _))))).mono ?_); rintro e wU ⟨vU, rfl, hSU, hgU, hbU⟩; obtain ⟨AU, cU, eU⟩ := hSU.shape; subst eU; have zU := hbU.size; (try simp at zU); have bU : Below vI.heap.size vI wU := bl_call (by repeat (first | (with_reducible refine bl_set ?_ (by simp <;> omega) _) | (with_reducible refine bl_alloc ?_ (Nat.le_refl _) _) | (with_reducible refine Below.drew ?_) | (with_reducible assumption) | (with_reducible exact Below.refl _ _))) hbU; (try (first | (have hAU := (hbU.block _ (by simp)).trans (ug_new _ (.cells #[.int .i64 0, .int .i64 0, .slice none 0 0] 32) rfl)) | (have hAU := (hbU.block _ (by omega)).trans hAF) | (have hAU := (hbU.block _ (by omega)).trans hAX))); (try have kAU := ug_cell hAU); (try have fAU := ug_frozen hAU))))
    all_goals (go_wp2_with fail; go_meet)
    all_goals (first | exact MadeL.fresh hSU (fun h hh => by have := hgU h hh; (try simp at this); omega) bU | exact MadeL.stored hSU (fun h hh => by have := hgU h hh; (try simp at this); omega) bU (by omega) hAU)
  case rest => as_aux_lemma =>
  obtain ⟨gE, vv, rfl, rfl, iE2, TE, hnE, hbE, geE, ltE⟩ := hcut
  obtain ⟨AE, cE, eE⟩ := TE.shape
  subst eE
  obtain ⟨vJ, rfl⟩ : ∃ vJ, vJ = wc := ⟨_, rfl⟩
  have zJ := hbE.size
  have iJ := (hbE.block _ (by omega)).trans iI
  have i9J := (hbE.block _ (by omega)).trans i9I
  have T6J := T6I.later hbE
  have hmkJ := hmkI.later hbE
  have bJ := BW.out _ hbE
  have kE := ug_cell iE2
  have k6 := ug_cell iJ
  clear oI pI iI i9I T6I hmkI bI BW C5 hbE
  go_wp2_with fail
  (with_reducible refine (eqLinear_any rA rD _ _ M _ TE.at T6J.at (by omega)).mono ?_)
  rintro e vK ⟨rfl, hb⟩
  have zK := hb.size
  have i9K := (hb.block _ (by omega)).trans i9J
  have hmkK := hmkJ.later hb
  have bK : Below w.heap.size w vK := bJ.trans (hb.mono bJ.size)
  have kK := ug_cell i9K
  clear iJ i9J T6J hmkJ bJ kE k6 hb iE2 TE
  have HH : Calls Try.prog 26 #[.agg #[.int .i64 rA, .int .i64 rD, .slice A9 M.length c9], .int .i64 1] vK _ := heldLinear_any rA rD _ M.length 1 (by decide) (by decide) vK hmkK (by omega)
  go_wp2_with fail
  (with_reducible refine HH.mono ?_)
  rintro e vL ⟨rfl, hb⟩
  go_wp2
  go_ret
  exact ⟨rfl, bK.trans (hb.mono bK.size)⟩
end Go.Proofs.Ythojgmhionekbaa
