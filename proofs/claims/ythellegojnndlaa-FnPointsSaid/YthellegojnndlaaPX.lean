/-
  The law FnPoints. Conditions: what the slice holds.
-/
import Derived.Test.YthellegojnndlaaDrawP
import Derived.Test.YthellegojnndlaaPtLaw
import Derived.Test.YthellegojnndlaaCut
import Derived.Test.YthellegojnndlaaPText
import Derived.Test.YthellegojnndlaaFracP
import Derived.BigRegion
import Derived.BigQuiet
import Derived.Deep.DeepCutAuto
namespace Go.Proofs.Ythellegojnndlaa
open Go.RowKit Go.Sort
set_option linter.unusedVariables false
attribute [local go_sem] cell_grow frozen_grow
theorem px_app (a b : ByteArray) : (a ++ b).size = a.size + b.size := by
  obtain ⟨⟨l⟩⟩ := a
  obtain ⟨⟨m⟩⟩ := b
  simp [ByteArray.size]
theorem px_size {x y : Int} (h : okPt x y = true) : (ptText x y).size ≤ 1048576 := by
  obtain ⟨a, b, c, e⟩ := okPt_t h
  have h1 := decB_size (n := x) (by omega) (by omega)
  have h2 := decB_size (n := y) (by omega) (by omega)
  have : (⟨#[44]⟩ : ByteArray).size = 1 := rfl
  unfold ptText
  rw [h]
  show (ptB x y).size ≤ 1048576
  unfold ptB
  rw [px_app, px_app]
  omega
theorem on_ends (a b c d : Int) : onB a b c d a b = true ∧ onB a b c d c d = true := by
  unfold onB boxB
  have e1 : tn a b c d a b = 0 := by unfold tn; grind
  have e2 : tn a b c d c d = 0 := by unfold tn; grind
  rw [e1, e2]
  constructor <;> (rw [Bool.and_eq_true]; exact ⟨rfl, decide_eq_true (by omega)⟩)
theorem mid_ok {a b c d : Int} (h1 : okPt a b = true) (h2 : okPt c d = true) : okPt (rnd (a + c) 2) (rnd (b + d) 2) = true := by
  obtain ⟨a1, a2, b1, b2⟩ := okPt_t h1
  obtain ⟨c1, c2, d1, d2⟩ := okPt_t h2
  have e1 := rnd_two (a + c)
  have e2 := rnd_two (b + d)
  exact decide_eq_true (by omega)
theorem arR_swap (a b c d e f : Int) : arR a b e f c d = -arR a b c d e f := by
  unfold arR
  rw [arB_swap]
  cases okPt a b <;> cases okPt c d <;> cases okPt e f <;> cases decide (c = a ∧ d = b) <;> cases decide (e = a ∧ f = b) <;> simp
theorem arR_trans {a b c d e f g h : Int} (o1 : okPt a b = true) (o2 : okPt c d = true) (o3 : okPt e f = true) (o4 : okPt g h = true) (n1 : ¬ (c = a ∧ d = b)) (n2 : ¬ (e = a ∧ f = b)) (n3 : ¬ (g = a ∧ h = b)) (h1 : arR a b c d e f ≤ 0) (h2 : arR a b e f g h ≤ 0) : arR a b c d g h ≤ 0 := by
  unfold arR at *
  rw [o1, o2, o4, decide_eq_false n1, decide_eq_false n3]
  rw [o1, o2, o3, decide_eq_false n1, decide_eq_false n2] at h1
  rw [o1, o3, o4, decide_eq_false n2, decide_eq_false n3] at h2
  exact arB_trans n1 n2 n3 h1 h2
theorem arR_bd (a b c d e f : Int) : -1 ≤ arR a b c d e f ∧ arR a b c d e f ≤ 1 := by
  unfold arR
  split
  · unfold arB
    have h1 := sg_bd (tn a b c d e f)
    have h2 := sg_bd (half a b c d - half a b e f)
    split <;> omega
  · omega
set_option maxRecDepth 100000 in
theorem e8At_any (A : Option Addr) (n c : Nat) (m : Int) (h2 : 2 ≤ m) (h200 : m ≤ 200) (w : World) (hC : CodeAt w w.heap.size A n) : Calls Try.prog 57 #[.slice A n c, .int .i64 0, .int .i64 m] w fun e w' => ∃ x : Int, e = .returned (.int .i64 x) ∧ (0 ≤ x ∧ x < m) ∧ w = w' := by
  obtain ⟨hn, hA⟩ := hC
  simp only [maxLen] at hn
  have hm1 : ¬ m = 0 := by omega
  by_cases h : 0 < n
  · obtain ⟨f, o, rfl, hf, hc⟩ := hA h
    obtain ⟨x, x0, x1, hx⟩ := hc 0 h
    rw [Nat.add_zero] at hx
    clear hA hc
    have d1 : decide ((n : Int) ≤ 0) = false := by simp; omega
    go_enter Try.func57, Try.ntmps57
    go_wp2
    go_ret
    exact ⟨_, rfl, ⟨Int.emod_nonneg _ hm1, Int.emod_lt_of_pos _ (by omega)⟩, rfl⟩
  · obtain rfl : n = 0 := by omega
    clear hA
    go_enter Try.func57, Try.ntmps57
    go_wp2
    go_ret
    exact ⟨0, rfl, ⟨by omega, by omega⟩, rfl⟩
set_option maxRecDepth 100000 in
set_option maxHeartbeats 64000000 in
theorem fnPoints (A : Option Addr) (n c : Nat) (w : World) (hC : CodeAt w w.heap.size A n) : Calls Try.prog 12 #[.slice A n c] w fun e w' => e = .returned (.bool true) ∧ Below w.heap.size w w' := by
  have hn := hC.1
  simp only [maxLen] at hn
  have HC := hide (fun W (hW : Below w.heap.size w W) => e8Points_any A n c W (hC.up hW.size (fun g hg => hW.block g hg)))
  have HE := hide (fun W (hW : Below w.heap.size w W) => e8At_any A n c 20 (by decide) (by decide) W (hC.up hW.size (fun g hg => hW.block g hg)))
  clear hC
  by_cases h3 : 1048576 < n
  · have d1 : decide ((1048576 : Int) < (n : Int)) = true := by simp; omega
    go_enter Try.func12, Try.ntmps12
    go_wp2
    go_ret
    exact ⟨rfl, Below.refl _ _⟩
  have d1 : decide ((1048576 : Int) < (n : Int)) = false := by simp; omega
  go_enter Try.func12, Try.ntmps12
  go_wp2_with fail
  (with_reducible refine (HC.out _ (Below.refl _ _)).mono ?_)
  rintro e v0 ⟨x1, y1, x2, y2, x3, y3, x4, y4, rfl, o1, o2, o3, o4, B0⟩
  clear HC h3 d1
  have HT1 := turn_i x1 y1 x2 y2 x3 y3
  have HT2 := turn_i x2 y2 x1 y1 x3 y3
  have HT3 := turn_i x2 y2 x3 y3 x1 y1
  have tb := tn_abs o1 o2 o3
  rw [show turnR x1 y1 x2 y2 x3 y3 = tn x1 y1 x2 y2 x3 y3 by unfold turnR; rw [o1, o2, o3]; rfl] at HT1
  rw [show turnR x2 y2 x1 y1 x3 y3 = -tn x1 y1 x2 y2 x3 y3 by unfold turnR; rw [o1, o2, o3, tn_swap]; rfl] at HT2
  rw [show turnR x2 y2 x3 y3 x1 y1 = tn x1 y1 x2 y2 x3 y3 by unfold turnR; rw [o1, o2, o3, tn_turn]; rfl] at HT3
  generalize tn x1 y1 x2 y2 x3 y3 = T at *
  have HD1 := distSq_i x1 y1 x2 y2
  have HD2 := distSq_i x2 y2 x1 y1
  have hdz := dsq_zero x1 y1 x2 y2
  rw [show distSqR x1 y1 x2 y2 = dsq x1 y1 x2 y2 by unfold distSqR; rw [o1, o2]; rfl] at HD1
  rw [show distSqR x2 y2 x1 y1 = dsq x1 y1 x2 y2 by unfold distSqR; rw [o1, o2, dsq_swap]; rfl] at HD2
  generalize dsq x1 y1 x2 y2 = D at *
  have HX1 := compareAround_i x4 y4 x1 y1 x2 y2
  have HX2 := compareAround_i x4 y4 x2 y2 x1 y1
  have HX3 := compareAround_i x4 y4 x2 y2 x3 y3
  have HX4 := compareAround_i x4 y4 x1 y1 x3 y3
  rw [arR_swap x4 y4 x1 y1 x2 y2] at HX2
  have xb := arR_bd x4 y4 x1 y1 x2 y2
  have xt := hide (fun n1 n2 n3 h1 h2 => @arR_trans x4 y4 x1 y1 x2 y2 x3 y3 o4 o1 o2 o3 n1 n2 n3 h1 h2)
  generalize arR x4 y4 x1 y1 x2 y2 = X at *
  generalize arR x4 y4 x2 y2 x3 y3 = Y at *
  generalize arR x4 y4 x1 y1 x3 y3 = Z at *
  have HM := midPt_i x1 y1 x2 y2
  have mo := mid_ok o1 o2
  have mh := near_half x1 y1 x2 y2
  rw [show midX x1 y1 x2 y2 = rnd (x1 + x2) 2 by unfold midX; rw [o1, o2]; rfl, show midY x1 y1 x2 y2 = rnd (y1 + y2) 2 by unfold midY; rw [o1, o2]; rfl, show midC x1 y1 x2 y2 = 0 by unfold midC; rw [o1, o2]; rfl] at HM
  generalize rnd (x1 + x2) 2 = mx at *
  generalize rnd (y1 + y2) 2 = my at *
  have HN1 := nearSegment_i x1 y1 x2 y2 mx my 1
  rw [show nearR x1 y1 x2 y2 mx my 1 = true by unfold nearR; rw [o1, o2, mo, mh]; rfl] at HN1
  have HO1 := onSegment_i x1 y1 x2 y2 x1 y1
  have HO2 := onSegment_i x1 y1 x2 y2 x2 y2
  rw [show onR x1 y1 x2 y2 x1 y1 = true by unfold onR; rw [o1, o2, (on_ends x1 y1 x2 y2).1]; rfl] at HO1
  rw [show onR x1 y1 x2 y2 x2 y2 = true by unfold onR; rw [o1, o2, (on_ends x1 y1 x2 y2).2]; rfl] at HO2
  have HO3 := onSegment_i x1 y1 x2 y2 x3 y3
  have HN0 := nearSegment_i x1 y1 x2 y2 x3 y3 0
  rw [show nearR x1 y1 x2 y2 x3 y3 0 = onR x1 y1 x2 y2 x3 y3 by unfold nearR onR; rw [o1, o2, o3, on_near]; rfl] at HN0
  generalize onR x1 y1 x2 y2 x3 y3 = O at *
  have HNR := fun r => nearSegment_i x1 y1 x2 y2 x3 y3 r
  have HNS := fun r => nearSegment_i x2 y2 x1 y1 x3 y3 r
  have hnr := hide (fun (r : Int) (h0 : 0 ≤ r) (h : r ≤ 19) (hh : nearR x1 y1 x2 y2 x3 y3 r = true) => show nearR x2 y2 x1 y1 x3 y3 (r + 1) = true by
    unfold nearR at *
    rw [o1, o2, o3] at hh ⊢
    simp only [Bool.true_and, Bool.and_eq_true, decide_eq_true_eq] at hh ⊢
    refine ⟨⟨by omega, by omega⟩, ?_⟩
    rw [near_swap]
    exact near_mono h0 (by omega) hh.2)
  have HTX := ptText_i x1 y1
  have HRP := readPt_i (ptText x1 y1) (px_size o1)
  obtain ⟨a1, a2, a3, a4⟩ := okPt_t o1
  rw [show ptText x1 y1 = decB x1 ++ ⟨#[44]⟩ ++ decB y1 by unfold ptText ptB; rw [o1]; rfl] at HTX HRP
  rw [rp_back o1 (by omega)] at HRP
  generalize decB x1 ++ ⟨#[44]⟩ ++ decB y1 = tx at *
  clear mo mh o1 o2 o3 o4 a1 a2 a3 a4
  go_wp2_with fail
  (with_reducible refine (HT1 _).mono ?_)
  rintro e v1 ⟨rfl, hb1⟩
  have z1 : v0.heap.size + 4 ≤ v1.heap.size := by have h := hb1.size; simpa using h
  have a1 : v1.heap[v0.heap.size]? = some (.cells #[.int .i64 x1, .int .i64 y1] 25 (0, 0)) := (hb1.block _ (by first | omega | (simp <;> omega))).trans ((ug_old _ _ (by first | omega | (simp <;> omega))).trans ((ug_old _ _ (by first | omega | (simp <;> omega))).trans ((ug_old _ _ (by first | omega | (simp <;> omega))).trans (ug_new _ _ rfl))))
  have b1 : v1.heap[v0.heap.size + 1]? = some (.cells #[.int .i64 x2, .int .i64 y2] 25 (0, 0)) := (hb1.block _ (by first | omega | (simp <;> omega))).trans ((ug_old _ _ (by first | omega | (simp <;> omega))).trans ((ug_old _ _ (by first | omega | (simp <;> omega))).trans (ug_new _ _ (by simp))))
  have c1 : v1.heap[v0.heap.size + 1 + 1]? = some (.cells #[.int .i64 x3, .int .i64 y3] 25 (0, 0)) := (hb1.block _ (by first | omega | (simp <;> omega))).trans ((ug_old _ _ (by first | omega | (simp <;> omega))).trans (ug_new _ _ (by simp)))
  have d1 : v1.heap[v0.heap.size + 1 + 1 + 1]? = some (.cells #[.int .i64 x4, .int .i64 y4] 25 (0, 0)) := (hb1.block _ (by first | omega | (simp <;> omega))).trans (ug_new _ _ (by simp))
  have B1 : Below w.heap.size w v1 := bl_call (by repeat (first | (with_reducible refine bl_set ?_ (by simp <;> omega) _) | (with_reducible refine bl_alloc ?_ (Nat.le_refl _) _) | (with_reducible refine Below.drew ?_) | (with_reducible assumption) | (with_reducible exact Below.refl _ _))) hb1
  clear hb1  B0
  have ka1 := ug_cell a1
  have qa1 : v0.heap.size < v1.heap.size := (Array.getElem?_eq_some_iff.1 a1).1
  have ra1 : v0.heap.size < v1.heap.size + 1 := by omega
  have kb1 := ug_cell b1
  have qb1 : v0.heap.size + 1 < v1.heap.size := (Array.getElem?_eq_some_iff.1 b1).1
  have rb1 : v0.heap.size + 1 < v1.heap.size + 1 := by omega
  have kc1 := ug_cell c1
  have qc1 : v0.heap.size + 1 + 1 < v1.heap.size := (Array.getElem?_eq_some_iff.1 c1).1
  have rc1 : v0.heap.size + 1 + 1 < v1.heap.size + 1 := by omega
  have kd1 := ug_cell d1
  have qd1 : v0.heap.size + 1 + 1 + 1 < v1.heap.size := (Array.getElem?_eq_some_iff.1 d1).1
  have rd1 : v0.heap.size + 1 + 1 + 1 < v1.heap.size + 1 := by omega
  go_upto_region 5 with fail
  go_cut [61] (fun s61 wx => s61 = .bool false ∧ Below w.heap.size w wx ∧ wx.heap[v0.heap.size]? = some (.cells #[.int .i64 x1, .int .i64 y1] 25 (0, 0)) ∧ wx.heap[v0.heap.size + 1]? = some (.cells #[.int .i64 x2, .int .i64 y2] 25 (0, 0)) ∧ wx.heap[v0.heap.size + 1 + 1]? = some (.cells #[.int .i64 x3, .int .i64 y3] 25 (0, 0)) ∧ wx.heap[v0.heap.size + 1 + 1 + 1]? = some (.cells #[.int .i64 x4, .int .i64 y4] 25 (0, 0)))
  case first => as_aux_lemma =>
    clear HX1 HX2 HX3 HX4 HM HN1 HO1 HO2 HO3 HN0 HNR HNS HTX HRP HE
    by_cases hx : x1 = x2
    · subst hx
      by_cases hy : y1 = y2
      · subst hy
        have e1 : D = 0 := hdz.mpr ⟨rfl, rfl⟩
        subst e1
        clear hdz
        refine wp_region_quiet_below (by kernel_rfl) (by kernel_rfl) ?_
        repeat (first | go_big_quiet_step ((first | (go_at_call 52; with_reducible exact Calls.regrown_of (HT2 _)) | (go_at_call 52; with_reducible exact Calls.regrown_of (HT3 _)) | (go_at_call 53; with_reducible exact Calls.regrown_of (HD1 _)) | (go_at_call 53; with_reducible exact Calls.regrown_of (HD2 _)))) | quiet_step ((first | (go_at_call 52; with_reducible exact Calls.regrown_of (HT2 _)) | (go_at_call 52; with_reducible exact Calls.regrown_of (HT3 _)) | (go_at_call 53; with_reducible exact Calls.regrown_of (HD1 _)) | (go_at_call 53; with_reducible exact Calls.regrown_of (HD2 _)))))
        refine wpQuiet_nil ?_
        intro wq hwq
        obtain ⟨pq, hpq⟩ := hwq
        have hbq := below_of hpq
        clear hpq pq
        have zq := hbq.size
        go_wp2
        go_meet
        case rel => exact ⟨rfl, bl_call (by repeat (first | (with_reducible refine bl_set ?_ (by simp <;> omega) _) | (with_reducible refine bl_alloc ?_ (Nat.le_refl _) _) | (with_reducible refine Below.drew ?_) | (with_reducible assumption) | (with_reducible exact Below.refl _ _))) hbq, (hbq.block _ (by omega)).trans a1, (hbq.block _ (by omega)).trans b1, (hbq.block _ (by omega)).trans c1, (hbq.block _ (by omega)).trans d1⟩
      · have e1 : (D == 0) = false := by
          have : ¬ D = 0 := fun h => hy (hdz.mp h).2
          simpa using this
        have e2 : (y1 == y2) = false := by simpa using hy
        clear hdz
        refine wp_region_quiet_below (by kernel_rfl) (by kernel_rfl) ?_
        repeat (first | go_big_quiet_step ((first | (go_at_call 52; with_reducible exact Calls.regrown_of (HT2 _)) | (go_at_call 52; with_reducible exact Calls.regrown_of (HT3 _)) | (go_at_call 53; with_reducible exact Calls.regrown_of (HD1 _)) | (go_at_call 53; with_reducible exact Calls.regrown_of (HD2 _)))) | quiet_step ((first | (go_at_call 52; with_reducible exact Calls.regrown_of (HT2 _)) | (go_at_call 52; with_reducible exact Calls.regrown_of (HT3 _)) | (go_at_call 53; with_reducible exact Calls.regrown_of (HD1 _)) | (go_at_call 53; with_reducible exact Calls.regrown_of (HD2 _)))))
        refine wpQuiet_nil ?_
        intro wq hwq
        obtain ⟨pq, hpq⟩ := hwq
        have hbq := below_of hpq
        clear hpq pq
        have zq := hbq.size
        go_wp2
        go_meet
        case rel => exact ⟨rfl, bl_call (by repeat (first | (with_reducible refine bl_set ?_ (by simp <;> omega) _) | (with_reducible refine bl_alloc ?_ (Nat.le_refl _) _) | (with_reducible refine Below.drew ?_) | (with_reducible assumption) | (with_reducible exact Below.refl _ _))) hbq, (hbq.block _ (by omega)).trans a1, (hbq.block _ (by omega)).trans b1, (hbq.block _ (by omega)).trans c1, (hbq.block _ (by omega)).trans d1⟩
    · have e1 : (D == 0) = false := by
        have : ¬ D = 0 := fun h => hx (hdz.mp h).1
        simpa using this
      have e2 : (x1 == x2) = false := by simpa using hx
      clear hdz
      refine wp_region_quiet_below (by kernel_rfl) (by kernel_rfl) ?_
      repeat (first | go_big_quiet_step ((first | (go_at_call 52; with_reducible exact Calls.regrown_of (HT2 _)) | (go_at_call 52; with_reducible exact Calls.regrown_of (HT3 _)) | (go_at_call 53; with_reducible exact Calls.regrown_of (HD1 _)) | (go_at_call 53; with_reducible exact Calls.regrown_of (HD2 _)))) | quiet_step ((first | (go_at_call 52; with_reducible exact Calls.regrown_of (HT2 _)) | (go_at_call 52; with_reducible exact Calls.regrown_of (HT3 _)) | (go_at_call 53; with_reducible exact Calls.regrown_of (HD1 _)) | (go_at_call 53; with_reducible exact Calls.regrown_of (HD2 _)))))
      refine wpQuiet_nil ?_
      intro wq hwq
      obtain ⟨pq, hpq⟩ := hwq
      have hbq := below_of hpq
      clear hpq pq
      have zq := hbq.size
      go_wp2
      go_meet
      case rel => exact ⟨rfl, bl_call (by repeat (first | (with_reducible refine bl_set ?_ (by simp <;> omega) _) | (with_reducible refine bl_alloc ?_ (Nat.le_refl _) _) | (with_reducible refine Below.drew ?_) | (with_reducible assumption) | (with_reducible exact Below.refl _ _))) hbq, (hbq.block _ (by omega)).trans a1, (hbq.block _ (by omega)).trans b1, (hbq.block _ (by omega)).trans c1, (hbq.block _ (by omega)).trans d1⟩
  case rest => as_aux_lemma =>
  obtain ⟨rfl, hB, oa, ob, oc, od⟩ := hcut
  obtain ⟨vB, rfl⟩ : ∃ vB, vB = wc := ⟨_, rfl⟩
  clear ka1 qa1 ra1 a1 kb1 qb1 rb1 b1 kc1 qc1 rc1 c1 kd1 qd1 rd1 d1 B1 HT1 HT2 HT3 HD1 HD2 hdz tb
  have a20 := oa
  have b20 := ob
  have c20 := oc
  have d20 := od
  have ka20 := ug_cell a20
  have qa20 : v0.heap.size < vB.heap.size := (Array.getElem?_eq_some_iff.1 a20).1
  have ra20 : v0.heap.size < vB.heap.size + 1 := by omega
  have kb20 := ug_cell b20
  have qb20 : v0.heap.size + 1 < vB.heap.size := (Array.getElem?_eq_some_iff.1 b20).1
  have rb20 : v0.heap.size + 1 < vB.heap.size + 1 := by omega
  have kc20 := ug_cell c20
  have qc20 : v0.heap.size + 1 + 1 < vB.heap.size := (Array.getElem?_eq_some_iff.1 c20).1
  have rc20 : v0.heap.size + 1 + 1 < vB.heap.size + 1 := by omega
  have kd20 := ug_cell d20
  have qd20 : v0.heap.size + 1 + 1 + 1 < vB.heap.size := (Array.getElem?_eq_some_iff.1 d20).1
  have rd20 : v0.heap.size + 1 + 1 + 1 < vB.heap.size + 1 := by omega
  clear oa ob oc od
  go_wp2_with fail
  (with_reducible refine (HX1 _).mono ?_)
  rintro e v21 ⟨rfl, hb21⟩
  have z21 : vB.heap.size + 0 ≤ v21.heap.size := by have h := hb21.size; simpa using h
  have a21 : v21.heap[v0.heap.size]? = some (.cells #[.int .i64 x1, .int .i64 y1] 25 (0, 0)) := (hb21.block _ (by first | omega | (simp <;> omega))).trans (a20)
  have b21 : v21.heap[v0.heap.size + 1]? = some (.cells #[.int .i64 x2, .int .i64 y2] 25 (0, 0)) := (hb21.block _ (by first | omega | (simp <;> omega))).trans (b20)
  have c21 : v21.heap[v0.heap.size + 1 + 1]? = some (.cells #[.int .i64 x3, .int .i64 y3] 25 (0, 0)) := (hb21.block _ (by first | omega | (simp <;> omega))).trans (c20)
  have d21 : v21.heap[v0.heap.size + 1 + 1 + 1]? = some (.cells #[.int .i64 x4, .int .i64 y4] 25 (0, 0)) := (hb21.block _ (by first | omega | (simp <;> omega))).trans (d20)
  have B21 : Below w.heap.size w v21 := bl_call (by repeat (first | (with_reducible refine bl_set ?_ (by simp <;> omega) _) | (with_reducible refine bl_alloc ?_ (Nat.le_refl _) _) | (with_reducible refine Below.drew ?_) | (with_reducible assumption) | (with_reducible exact Below.refl _ _))) hb21
  clear hb21 ka20 qa20 ra20 a20 kb20 qb20 rb20 b20 kc20 qc20 rc20 c20 kd20 qd20 rd20 d20
  have ka21 := ug_cell a21
  have qa21 : v0.heap.size < v21.heap.size := (Array.getElem?_eq_some_iff.1 a21).1
  have ra21 : v0.heap.size < v21.heap.size + 1 := by omega
  have kb21 := ug_cell b21
  have qb21 : v0.heap.size + 1 < v21.heap.size := (Array.getElem?_eq_some_iff.1 b21).1
  have rb21 : v0.heap.size + 1 < v21.heap.size + 1 := by omega
  have kc21 := ug_cell c21
  have qc21 : v0.heap.size + 1 + 1 < v21.heap.size := (Array.getElem?_eq_some_iff.1 c21).1
  have rc21 : v0.heap.size + 1 + 1 < v21.heap.size + 1 := by omega
  have kd21 := ug_cell d21
  have qd21 : v0.heap.size + 1 + 1 + 1 < v21.heap.size := (Array.getElem?_eq_some_iff.1 d21).1
  have rd21 : v0.heap.size + 1 + 1 + 1 < v21.heap.size + 1 := by omega
  go_upto_region 8 with fail
  go_cut [105] (fun s105 wx => s105 = .bool false ∧ Below w.heap.size w wx ∧ wx.heap[v0.heap.size]? = some (.cells #[.int .i64 x1, .int .i64 y1] 25 (0, 0)) ∧ wx.heap[v0.heap.size + 1]? = some (.cells #[.int .i64 x2, .int .i64 y2] 25 (0, 0)) ∧ wx.heap[v0.heap.size + 1 + 1]? = some (.cells #[.int .i64 x3, .int .i64 y3] 25 (0, 0)) ∧ wx.heap[v0.heap.size + 1 + 1 + 1]? = some (.cells #[.int .i64 x4, .int .i64 y4] 25 (0, 0)))
  case first => as_aux_lemma =>
    clear HM HN1 HO1 HO2 HO3 HN0 HNR HNS HTX HRP HE

    go_wp2_with fail
    (with_reducible refine (HX2 _).mono ?_)
    rintro e v22 ⟨rfl, hb22⟩
    have z22 : v21.heap.size + 0 ≤ v22.heap.size := by have h := hb22.size; simpa using h
    have a22 : v22.heap[v0.heap.size]? = some (.cells #[.int .i64 x1, .int .i64 y1] 25 (0, 0)) := (hb22.block _ (by first | omega | (simp <;> omega))).trans (a21)
    have b22 : v22.heap[v0.heap.size + 1]? = some (.cells #[.int .i64 x2, .int .i64 y2] 25 (0, 0)) := (hb22.block _ (by first | omega | (simp <;> omega))).trans (b21)
    have c22 : v22.heap[v0.heap.size + 1 + 1]? = some (.cells #[.int .i64 x3, .int .i64 y3] 25 (0, 0)) := (hb22.block _ (by first | omega | (simp <;> omega))).trans (c21)
    have d22 : v22.heap[v0.heap.size + 1 + 1 + 1]? = some (.cells #[.int .i64 x4, .int .i64 y4] 25 (0, 0)) := (hb22.block _ (by first | omega | (simp <;> omega))).trans (d21)
    have B22 : Below w.heap.size w v22 := bl_call (by repeat (first | (with_reducible refine bl_set ?_ (by simp <;> omega) _) | (with_reducible refine bl_alloc ?_ (Nat.le_refl _) _) | (with_reducible refine Below.drew ?_) | (with_reducible assumption) | (with_reducible exact Below.refl _ _))) hb22
    clear hb22 ka21 qa21 ra21 a21 kb21 qb21 rb21 b21 kc21 qc21 rc21 c21 kd21 qd21 rd21 d21 B21
    have ka22 := ug_cell a22
    have qa22 : v0.heap.size < v22.heap.size := (Array.getElem?_eq_some_iff.1 a22).1
    have ra22 : v0.heap.size < v22.heap.size + 1 := by omega
    have kb22 := ug_cell b22
    have qb22 : v0.heap.size + 1 < v22.heap.size := (Array.getElem?_eq_some_iff.1 b22).1
    have rb22 : v0.heap.size + 1 < v22.heap.size + 1 := by omega
    have kc22 := ug_cell c22
    have qc22 : v0.heap.size + 1 + 1 < v22.heap.size := (Array.getElem?_eq_some_iff.1 c22).1
    have rc22 : v0.heap.size + 1 + 1 < v22.heap.size + 1 := by omega
    have kd22 := ug_cell d22
    have qd22 : v0.heap.size + 1 + 1 + 1 < v22.heap.size := (Array.getElem?_eq_some_iff.1 d22).1
    have rd22 : v0.heap.size + 1 + 1 + 1 < v22.heap.size + 1 := by omega
    by_cases hX : X ≤ 0
    · have dX : decide (X ≤ 0) = true := by simpa using hX
      go_wp2_with fail
      (with_reducible refine (HX3 _).mono ?_)
      rintro e v23 ⟨rfl, hb23⟩
      have z23 : v22.heap.size + 0 ≤ v23.heap.size := by have h := hb23.size; simpa using h
      have a23 : v23.heap[v0.heap.size]? = some (.cells #[.int .i64 x1, .int .i64 y1] 25 (0, 0)) := (hb23.block _ (by first | omega | (simp <;> omega))).trans (a22)
      have b23 : v23.heap[v0.heap.size + 1]? = some (.cells #[.int .i64 x2, .int .i64 y2] 25 (0, 0)) := (hb23.block _ (by first | omega | (simp <;> omega))).trans (b22)
      have c23 : v23.heap[v0.heap.size + 1 + 1]? = some (.cells #[.int .i64 x3, .int .i64 y3] 25 (0, 0)) := (hb23.block _ (by first | omega | (simp <;> omega))).trans (c22)
      have d23 : v23.heap[v0.heap.size + 1 + 1 + 1]? = some (.cells #[.int .i64 x4, .int .i64 y4] 25 (0, 0)) := (hb23.block _ (by first | omega | (simp <;> omega))).trans (d22)
      have B23 : Below w.heap.size w v23 := bl_call (by repeat (first | (with_reducible refine bl_set ?_ (by simp <;> omega) _) | (with_reducible refine bl_alloc ?_ (Nat.le_refl _) _) | (with_reducible refine Below.drew ?_) | (with_reducible assumption) | (with_reducible exact Below.refl _ _))) hb23
      clear hb23 ka22 qa22 ra22 a22 kb22 qb22 rb22 b22 kc22 qc22 rc22 c22 kd22 qd22 rd22 d22 B22
      have ka23 := ug_cell a23
      have qa23 : v0.heap.size < v23.heap.size := (Array.getElem?_eq_some_iff.1 a23).1
      have ra23 : v0.heap.size < v23.heap.size + 1 := by omega
      have kb23 := ug_cell b23
      have qb23 : v0.heap.size + 1 < v23.heap.size := (Array.getElem?_eq_some_iff.1 b23).1
      have rb23 : v0.heap.size + 1 < v23.heap.size + 1 := by omega
      have kc23 := ug_cell c23
      have qc23 : v0.heap.size + 1 + 1 < v23.heap.size := (Array.getElem?_eq_some_iff.1 c23).1
      have rc23 : v0.heap.size + 1 + 1 < v23.heap.size + 1 := by omega
      have kd23 := ug_cell d23
      have qd23 : v0.heap.size + 1 + 1 + 1 < v23.heap.size := (Array.getElem?_eq_some_iff.1 d23).1
      have rd23 : v0.heap.size + 1 + 1 + 1 < v23.heap.size + 1 := by omega
      by_cases hY : Y ≤ 0
      · have dY : decide (Y ≤ 0) = true := by simpa using hY
        go_wp2_with fail
        (with_reducible refine (HX4 _).mono ?_)
        rintro e v24 ⟨rfl, hb24⟩
        have z24 : v23.heap.size + 0 ≤ v24.heap.size := by have h := hb24.size; simpa using h
        have a24 : v24.heap[v0.heap.size]? = some (.cells #[.int .i64 x1, .int .i64 y1] 25 (0, 0)) := (hb24.block _ (by first | omega | (simp <;> omega))).trans (a23)
        have b24 : v24.heap[v0.heap.size + 1]? = some (.cells #[.int .i64 x2, .int .i64 y2] 25 (0, 0)) := (hb24.block _ (by first | omega | (simp <;> omega))).trans (b23)
        have c24 : v24.heap[v0.heap.size + 1 + 1]? = some (.cells #[.int .i64 x3, .int .i64 y3] 25 (0, 0)) := (hb24.block _ (by first | omega | (simp <;> omega))).trans (c23)
        have d24 : v24.heap[v0.heap.size + 1 + 1 + 1]? = some (.cells #[.int .i64 x4, .int .i64 y4] 25 (0, 0)) := (hb24.block _ (by first | omega | (simp <;> omega))).trans (d23)
        have B24 : Below w.heap.size w v24 := bl_call (by repeat (first | (with_reducible refine bl_set ?_ (by simp <;> omega) _) | (with_reducible refine bl_alloc ?_ (Nat.le_refl _) _) | (with_reducible refine Below.drew ?_) | (with_reducible assumption) | (with_reducible exact Below.refl _ _))) hb24
        clear hb24 ka23 qa23 ra23 a23 kb23 qb23 rb23 b23 kc23 qc23 rc23 c23 kd23 qd23 rd23 d23 B23
        have ka24 := ug_cell a24
        have qa24 : v0.heap.size < v24.heap.size := (Array.getElem?_eq_some_iff.1 a24).1
        have ra24 : v0.heap.size < v24.heap.size + 1 := by omega
        have kb24 := ug_cell b24
        have qb24 : v0.heap.size + 1 < v24.heap.size := (Array.getElem?_eq_some_iff.1 b24).1
        have rb24 : v0.heap.size + 1 < v24.heap.size + 1 := by omega
        have kc24 := ug_cell c24
        have qc24 : v0.heap.size + 1 + 1 < v24.heap.size := (Array.getElem?_eq_some_iff.1 c24).1
        have rc24 : v0.heap.size + 1 + 1 < v24.heap.size + 1 := by omega
        have kd24 := ug_cell d24
        have qd24 : v0.heap.size + 1 + 1 + 1 < v24.heap.size := (Array.getElem?_eq_some_iff.1 d24).1
        have rd24 : v0.heap.size + 1 + 1 + 1 < v24.heap.size + 1 := by omega
        by_cases hZ : Z ≤ 0
        · have dZ : decide (0 < Z) = false := by simpa using hZ
          clear xt
          go_wp2
          go_meet
          case rel => exact ⟨rfl, (by repeat (first | (with_reducible refine bl_set ?_ (by simp <;> omega) _) | (with_reducible refine bl_alloc ?_ (Nat.le_refl _) _) | (with_reducible refine Below.drew ?_) | (with_reducible assumption) | (with_reducible exact Below.refl _ _))), a24, b24, c24, d24⟩
        · have dZ : decide (0 < Z) = true := by simp; omega
          by_cases h1 : x1 = x4 ∧ y1 = y4
          · obtain ⟨rfl, rfl⟩ := h1
            clear xt
            go_wp2
            go_meet
            case rel => exact ⟨rfl, (by repeat (first | (with_reducible refine bl_set ?_ (by simp <;> omega) _) | (with_reducible refine bl_alloc ?_ (Nat.le_refl _) _) | (with_reducible refine Below.drew ?_) | (with_reducible assumption) | (with_reducible exact Below.refl _ _))), a24, b24, c24, d24⟩
          · by_cases h2 : x2 = x4 ∧ y2 = y4
            · obtain ⟨rfl, rfl⟩ := h2
              clear xt
              by_cases g1 : x1 = x2
              · have g : ¬ y1 = y2 := fun h => h1 ⟨g1, h⟩
                have p1 : (y1 == y2) = false := by simpa using g
                have r1 : (y1 != y2) = true := by simpa using g
                clear h1
                subst g1
                go_wp2
                go_meet
                case rel => exact ⟨rfl, (by repeat (first | (with_reducible refine bl_set ?_ (by simp <;> omega) _) | (with_reducible refine bl_alloc ?_ (Nat.le_refl _) _) | (with_reducible refine Below.drew ?_) | (with_reducible assumption) | (with_reducible exact Below.refl _ _))), a24, b24, c24, d24⟩
              · have p1 : (x1 == x2) = false := by simpa using g1
                have r1 : (x1 != x2) = true := by simpa using g1
                clear h1
                go_wp2
                go_meet
                case rel => exact ⟨rfl, (by repeat (first | (with_reducible refine bl_set ?_ (by simp <;> omega) _) | (with_reducible refine bl_alloc ?_ (Nat.le_refl _) _) | (with_reducible refine Below.drew ?_) | (with_reducible assumption) | (with_reducible exact Below.refl _ _))), a24, b24, c24, d24⟩
            · have h3 : x3 = x4 ∧ y3 = y4 := by
                by_cases h3 : x3 = x4 ∧ y3 = y4
                · exact h3
                · exact absurd (xt.out h1 h2 h3 hX hY) hZ
              clear xt
              obtain ⟨rfl, rfl⟩ := h3
              by_cases g1 : x1 = x3
              · have g : ¬ y1 = y3 := fun h => h1 ⟨g1, h⟩
                have p1 : (y1 == y3) = false := by simpa using g
                have r1 : (y1 != y3) = true := by simpa using g
                clear h1
                subst g1
                by_cases g2 : x2 = x1
                · have g : ¬ y2 = y3 := fun h => h2 ⟨g2, h⟩
                  have p2 : (y2 == y3) = false := by simpa using g
                  have r2 : (y2 != y3) = true := by simpa using g
                  clear h2
                  subst g2
                  go_wp2
                  go_meet
                  case rel => exact ⟨rfl, (by repeat (first | (with_reducible refine bl_set ?_ (by simp <;> omega) _) | (with_reducible refine bl_alloc ?_ (Nat.le_refl _) _) | (with_reducible refine Below.drew ?_) | (with_reducible assumption) | (with_reducible exact Below.refl _ _))), a24, b24, c24, d24⟩
                · have p2 : (x2 == x1) = false := by simpa using g2
                  have r2 : (x2 != x1) = true := by simpa using g2
                  clear h2
                  go_wp2
                  go_meet
                  case rel => exact ⟨rfl, (by repeat (first | (with_reducible refine bl_set ?_ (by simp <;> omega) _) | (with_reducible refine bl_alloc ?_ (Nat.le_refl _) _) | (with_reducible refine Below.drew ?_) | (with_reducible assumption) | (with_reducible exact Below.refl _ _))), a24, b24, c24, d24⟩
              · have p1 : (x1 == x3) = false := by simpa using g1
                have r1 : (x1 != x3) = true := by simpa using g1
                clear h1
                by_cases g2 : x2 = x3
                · have g : ¬ y2 = y3 := fun h => h2 ⟨g2, h⟩
                  have p2 : (y2 == y3) = false := by simpa using g
                  have r2 : (y2 != y3) = true := by simpa using g
                  clear h2
                  subst g2
                  go_wp2
                  go_meet
                  case rel => exact ⟨rfl, (by repeat (first | (with_reducible refine bl_set ?_ (by simp <;> omega) _) | (with_reducible refine bl_alloc ?_ (Nat.le_refl _) _) | (with_reducible refine Below.drew ?_) | (with_reducible assumption) | (with_reducible exact Below.refl _ _))), a24, b24, c24, d24⟩
                · have p2 : (x2 == x3) = false := by simpa using g2
                  have r2 : (x2 != x3) = true := by simpa using g2
                  clear h2
                  go_wp2
                  go_meet
                  case rel => exact ⟨rfl, (by repeat (first | (with_reducible refine bl_set ?_ (by simp <;> omega) _) | (with_reducible refine bl_alloc ?_ (Nat.le_refl _) _) | (with_reducible refine Below.drew ?_) | (with_reducible assumption) | (with_reducible exact Below.refl _ _))), a24, b24, c24, d24⟩
      · have dY : decide (Y ≤ 0) = false := by simpa using hY
        clear xt
        go_wp2
        go_meet
        case rel => exact ⟨rfl, (by repeat (first | (with_reducible refine bl_set ?_ (by simp <;> omega) _) | (with_reducible refine bl_alloc ?_ (Nat.le_refl _) _) | (with_reducible refine Below.drew ?_) | (with_reducible assumption) | (with_reducible exact Below.refl _ _))), a23, b23, c23, d23⟩
    · have dX : decide (X ≤ 0) = false := by simpa using hX
      clear xt
      go_wp2
      go_meet
      case rel => exact ⟨rfl, (by repeat (first | (with_reducible refine bl_set ?_ (by simp <;> omega) _) | (with_reducible refine bl_alloc ?_ (Nat.le_refl _) _) | (with_reducible refine Below.drew ?_) | (with_reducible assumption) | (with_reducible exact Below.refl _ _))), a22, b22, c22, d22⟩
  case rest => as_aux_lemma =>
  obtain ⟨rfl, hB, oa, ob, oc, od⟩ := hcut
  obtain ⟨vC, rfl⟩ : ∃ vC, vC = wc := ⟨_, rfl⟩
  clear ka21 qa21 ra21 a21 kb21 qb21 rb21 b21 kc21 qc21 rc21 c21 kd21 qd21 rd21 d21 B21 HX1 HX2 HX3 HX4 xb xt
  have a40 := oa
  have b40 := ob
  have c40 := oc
  have d40 := od
  have ka40 := ug_cell a40
  have qa40 : v0.heap.size < vC.heap.size := (Array.getElem?_eq_some_iff.1 a40).1
  have ra40 : v0.heap.size < vC.heap.size + 1 := by omega
  have kb40 := ug_cell b40
  have qb40 : v0.heap.size + 1 < vC.heap.size := (Array.getElem?_eq_some_iff.1 b40).1
  have rb40 : v0.heap.size + 1 < vC.heap.size + 1 := by omega
  have kc40 := ug_cell c40
  have qc40 : v0.heap.size + 1 + 1 < vC.heap.size := (Array.getElem?_eq_some_iff.1 c40).1
  have rc40 : v0.heap.size + 1 + 1 < vC.heap.size + 1 := by omega
  have kd40 := ug_cell d40
  have qd40 : v0.heap.size + 1 + 1 + 1 < vC.heap.size := (Array.getElem?_eq_some_iff.1 d40).1
  have rd40 : v0.heap.size + 1 + 1 + 1 < vC.heap.size + 1 := by omega
  clear oa ob oc od
  go_wp2_with fail
  (with_reducible refine (HM _).mono ?_)
  rintro e v41 ⟨rfl, hb41⟩
  have z41 : vC.heap.size + 0 ≤ v41.heap.size := by have h := hb41.size; simpa using h
  have a41 : v41.heap[v0.heap.size]? = some (.cells #[.int .i64 x1, .int .i64 y1] 25 (0, 0)) := (hb41.block _ (by first | omega | (simp <;> omega))).trans (a40)
  have b41 : v41.heap[v0.heap.size + 1]? = some (.cells #[.int .i64 x2, .int .i64 y2] 25 (0, 0)) := (hb41.block _ (by first | omega | (simp <;> omega))).trans (b40)
  have c41 : v41.heap[v0.heap.size + 1 + 1]? = some (.cells #[.int .i64 x3, .int .i64 y3] 25 (0, 0)) := (hb41.block _ (by first | omega | (simp <;> omega))).trans (c40)
  have d41 : v41.heap[v0.heap.size + 1 + 1 + 1]? = some (.cells #[.int .i64 x4, .int .i64 y4] 25 (0, 0)) := (hb41.block _ (by first | omega | (simp <;> omega))).trans (d40)
  have B41 : Below w.heap.size w v41 := bl_call (by repeat (first | (with_reducible refine bl_set ?_ (by simp <;> omega) _) | (with_reducible refine bl_alloc ?_ (Nat.le_refl _) _) | (with_reducible refine Below.drew ?_) | (with_reducible assumption) | (with_reducible exact Below.refl _ _))) hb41
  clear hb41 ka40 qa40 ra40 a40 kb40 qb40 rb40 b40 kc40 qc40 rc40 c40 kd40 qd40 rd40 d40
  have ka41 := ug_cell a41
  have qa41 : v0.heap.size < v41.heap.size := (Array.getElem?_eq_some_iff.1 a41).1
  have ra41 : v0.heap.size < v41.heap.size + 1 := by omega
  have kb41 := ug_cell b41
  have qb41 : v0.heap.size + 1 < v41.heap.size := (Array.getElem?_eq_some_iff.1 b41).1
  have rb41 : v0.heap.size + 1 < v41.heap.size + 1 := by omega
  have kc41 := ug_cell c41
  have qc41 : v0.heap.size + 1 + 1 < v41.heap.size := (Array.getElem?_eq_some_iff.1 c41).1
  have rc41 : v0.heap.size + 1 + 1 < v41.heap.size + 1 := by omega
  have kd41 := ug_cell d41
  have qd41 : v0.heap.size + 1 + 1 + 1 < v41.heap.size := (Array.getElem?_eq_some_iff.1 d41).1
  have rd41 : v0.heap.size + 1 + 1 + 1 < v41.heap.size + 1 := by omega
  go_wp2_with fail
  (with_reducible refine (HTX _).mono ?_)
  rintro e v42 ⟨rfl, hb42⟩
  have z42 : v41.heap.size + 1 ≤ v42.heap.size := by have h := hb42.size; simpa using h
  have a42 : v42.heap[v0.heap.size]? = some (.cells #[.int .i64 x1, .int .i64 y1] 25 (0, 0)) := (hb42.block _ (by first | omega | (simp <;> omega))).trans ((ug_old _ _ (by first | omega | (simp <;> omega))).trans (a41))
  have b42 : v42.heap[v0.heap.size + 1]? = some (.cells #[.int .i64 x2, .int .i64 y2] 25 (0, 0)) := (hb42.block _ (by first | omega | (simp <;> omega))).trans ((ug_old _ _ (by first | omega | (simp <;> omega))).trans (b41))
  have c42 : v42.heap[v0.heap.size + 1 + 1]? = some (.cells #[.int .i64 x3, .int .i64 y3] 25 (0, 0)) := (hb42.block _ (by first | omega | (simp <;> omega))).trans ((ug_old _ _ (by first | omega | (simp <;> omega))).trans (c41))
  have d42 : v42.heap[v0.heap.size + 1 + 1 + 1]? = some (.cells #[.int .i64 x4, .int .i64 y4] 25 (0, 0)) := (hb42.block _ (by first | omega | (simp <;> omega))).trans ((ug_old _ _ (by first | omega | (simp <;> omega))).trans (d41))
  have m42 : v42.heap[v41.heap.size]? = some (.cells #[.int .i64 mx, .int .i64 my] 25 (0, 0)) := (hb42.block _ (by first | omega | (simp <;> omega))).trans (ug_new _ _ rfl)
  have B42 : Below w.heap.size w v42 := bl_call (by repeat (first | (with_reducible refine bl_set ?_ (by simp <;> omega) _) | (with_reducible refine bl_alloc ?_ (Nat.le_refl _) _) | (with_reducible refine Below.drew ?_) | (with_reducible assumption) | (with_reducible exact Below.refl _ _))) hb42
  clear hb42 ka41 qa41 ra41 a41 kb41 qb41 rb41 b41 kc41 qc41 rc41 c41 kd41 qd41 rd41 d41 B41
  have ka42 := ug_cell a42
  have qa42 : v0.heap.size < v42.heap.size := (Array.getElem?_eq_some_iff.1 a42).1
  have ra42 : v0.heap.size < v42.heap.size + 1 := by omega
  have kb42 := ug_cell b42
  have qb42 : v0.heap.size + 1 < v42.heap.size := (Array.getElem?_eq_some_iff.1 b42).1
  have rb42 : v0.heap.size + 1 < v42.heap.size + 1 := by omega
  have kc42 := ug_cell c42
  have qc42 : v0.heap.size + 1 + 1 < v42.heap.size := (Array.getElem?_eq_some_iff.1 c42).1
  have rc42 : v0.heap.size + 1 + 1 < v42.heap.size + 1 := by omega
  have kd42 := ug_cell d42
  have qd42 : v0.heap.size + 1 + 1 + 1 < v42.heap.size := (Array.getElem?_eq_some_iff.1 d42).1
  have rd42 : v0.heap.size + 1 + 1 + 1 < v42.heap.size + 1 := by omega
  have km42 := ug_cell m42
  have qm42 : v41.heap.size < v42.heap.size := (Array.getElem?_eq_some_iff.1 m42).1
  have rm42 : v41.heap.size < v42.heap.size + 1 := by omega
  go_wp2_with fail
  (with_reducible refine (HRP _).mono ?_)
  rintro e v43 ⟨rfl, hb43⟩
  have z43 : v42.heap.size + 0 ≤ v43.heap.size := by have h := hb43.size; simpa using h
  have a43 : v43.heap[v0.heap.size]? = some (.cells #[.int .i64 x1, .int .i64 y1] 25 (0, 0)) := (hb43.block _ (by first | omega | (simp <;> omega))).trans (a42)
  have b43 : v43.heap[v0.heap.size + 1]? = some (.cells #[.int .i64 x2, .int .i64 y2] 25 (0, 0)) := (hb43.block _ (by first | omega | (simp <;> omega))).trans (b42)
  have c43 : v43.heap[v0.heap.size + 1 + 1]? = some (.cells #[.int .i64 x3, .int .i64 y3] 25 (0, 0)) := (hb43.block _ (by first | omega | (simp <;> omega))).trans (c42)
  have d43 : v43.heap[v0.heap.size + 1 + 1 + 1]? = some (.cells #[.int .i64 x4, .int .i64 y4] 25 (0, 0)) := (hb43.block _ (by first | omega | (simp <;> omega))).trans (d42)
  have m43 : v43.heap[v41.heap.size]? = some (.cells #[.int .i64 mx, .int .i64 my] 25 (0, 0)) := (hb43.block _ (by first | omega | (simp <;> omega))).trans (m42)
  have B43 : Below w.heap.size w v43 := bl_call (by repeat (first | (with_reducible refine bl_set ?_ (by simp <;> omega) _) | (with_reducible refine bl_alloc ?_ (Nat.le_refl _) _) | (with_reducible refine Below.drew ?_) | (with_reducible assumption) | (with_reducible exact Below.refl _ _))) hb43
  clear hb43 ka42 qa42 ra42 a42 kb42 qb42 rb42 b42 kc42 qc42 rc42 c42 kd42 qd42 rd42 d42 km42 qm42 rm42 m42 B42
  have ka43 := ug_cell a43
  have qa43 : v0.heap.size < v43.heap.size := (Array.getElem?_eq_some_iff.1 a43).1
  have ra43 : v0.heap.size < v43.heap.size + 1 := by omega
  have kb43 := ug_cell b43
  have qb43 : v0.heap.size + 1 < v43.heap.size := (Array.getElem?_eq_some_iff.1 b43).1
  have rb43 : v0.heap.size + 1 < v43.heap.size + 1 := by omega
  have kc43 := ug_cell c43
  have qc43 : v0.heap.size + 1 + 1 < v43.heap.size := (Array.getElem?_eq_some_iff.1 c43).1
  have rc43 : v0.heap.size + 1 + 1 < v43.heap.size + 1 := by omega
  have kd43 := ug_cell d43
  have qd43 : v0.heap.size + 1 + 1 + 1 < v43.heap.size := (Array.getElem?_eq_some_iff.1 d43).1
  have rd43 : v0.heap.size + 1 + 1 + 1 < v43.heap.size + 1 := by omega
  have km43 := ug_cell m43
  have qm43 : v41.heap.size < v43.heap.size := (Array.getElem?_eq_some_iff.1 m43).1
  have rm43 : v41.heap.size < v43.heap.size + 1 := by omega
  go_wp2_with fail
  (with_reducible refine (HE.out _ (by repeat (first | (with_reducible refine bl_set ?_ (by simp <;> omega) _) | (with_reducible refine bl_alloc ?_ (Nat.le_refl _) _) | (with_reducible refine Below.drew ?_) | (with_reducible assumption) | (with_reducible exact Below.refl _ _)))).mono ?_)
  rintro e vD ⟨r, rfl, ⟨r0, r1⟩, hvD⟩
  subst hvD
  have HG1 := HNR r
  have HG2 := HNS (r + 1)
  have hgg := hide (hnr.out r r0 (by omega))
  generalize nearR x1 y1 x2 y2 x3 y3 r = N at *
  generalize nearR x2 y2 x1 y1 x3 y3 (r + 1) = N2 at *
  clear HE HNR HNS hnr HM HTX HRP
  go_upto_region 13 with fail
  go_cut [144] (fun s144 wx => s144 = .bool false ∧ Below w.heap.size w wx ∧ wx.heap[v0.heap.size]? = some (.cells #[.int .i64 x1, .int .i64 y1] 25 (0, 0)) ∧ wx.heap[v0.heap.size + 1]? = some (.cells #[.int .i64 x2, .int .i64 y2] 25 (0, 0)) ∧ wx.heap[v41.heap.size]? = some (.cells #[.int .i64 mx, .int .i64 my] 25 (0, 0)) ∧ wx.heap[v43.heap.size]? = some (.cells #[.int .i64 x1, .int .i64 y1] 25 (0, 0)))
  case first => as_aux_lemma =>
    clear HN1 HO1 HO2
    cases N
    · clear hgg HG2
      cases O
      · refine wp_region_quiet_below (by kernel_rfl) (by kernel_rfl) ?_
        repeat (first | go_big_quiet_step ((first | (go_at_call 15; with_reducible exact Calls.regrown_of (HG1 _)) | (go_at_call 15; with_reducible exact Calls.regrown_of (HN0 _)) | (go_at_call 58; with_reducible exact Calls.regrown_of (HO3 _)))) | quiet_step ((first | (go_at_call 15; with_reducible exact Calls.regrown_of (HG1 _)) | (go_at_call 15; with_reducible exact Calls.regrown_of (HN0 _)) | (go_at_call 58; with_reducible exact Calls.regrown_of (HO3 _)))))
        refine wpQuiet_nil ?_
        intro wq hwq
        obtain ⟨pq, hpq⟩ := hwq
        have hbq := below_of hpq
        clear hpq pq
        have zq := hbq.size
        (try simp at zq)
        go_wp2
        go_meet
        case rel => exact ⟨rfl, bl_call (by repeat (first | (with_reducible refine bl_set ?_ (by simp <;> omega) _) | (with_reducible refine bl_alloc ?_ (Nat.le_refl _) _) | (with_reducible refine Below.drew ?_) | (with_reducible assumption) | (with_reducible exact Below.refl _ _))) hbq, (hbq.block _ (by first | omega | (simp <;> omega))).trans ((ug_old _ _ (by first | omega | (simp <;> omega))).trans (a43)), (hbq.block _ (by first | omega | (simp <;> omega))).trans ((ug_old _ _ (by first | omega | (simp <;> omega))).trans (b43)), (hbq.block _ (by first | omega | (simp <;> omega))).trans ((ug_old _ _ (by first | omega | (simp <;> omega))).trans (m43)), (hbq.block _ (by first | omega | (simp <;> omega))).trans (ug_new _ _ rfl)⟩
      · refine wp_region_quiet_below (by kernel_rfl) (by kernel_rfl) ?_
        repeat (first | go_big_quiet_step ((first | (go_at_call 15; with_reducible exact Calls.regrown_of (HG1 _)) | (go_at_call 15; with_reducible exact Calls.regrown_of (HN0 _)) | (go_at_call 58; with_reducible exact Calls.regrown_of (HO3 _)))) | quiet_step ((first | (go_at_call 15; with_reducible exact Calls.regrown_of (HG1 _)) | (go_at_call 15; with_reducible exact Calls.regrown_of (HN0 _)) | (go_at_call 58; with_reducible exact Calls.regrown_of (HO3 _)))))
        refine wpQuiet_nil ?_
        intro wq hwq
        obtain ⟨pq, hpq⟩ := hwq
        have hbq := below_of hpq
        clear hpq pq
        have zq := hbq.size
        (try simp at zq)
        go_wp2
        go_meet
        case rel => exact ⟨rfl, bl_call (by repeat (first | (with_reducible refine bl_set ?_ (by simp <;> omega) _) | (with_reducible refine bl_alloc ?_ (Nat.le_refl _) _) | (with_reducible refine Below.drew ?_) | (with_reducible assumption) | (with_reducible exact Below.refl _ _))) hbq, (hbq.block _ (by first | omega | (simp <;> omega))).trans ((ug_old _ _ (by first | omega | (simp <;> omega))).trans (a43)), (hbq.block _ (by first | omega | (simp <;> omega))).trans ((ug_old _ _ (by first | omega | (simp <;> omega))).trans (b43)), (hbq.block _ (by first | omega | (simp <;> omega))).trans ((ug_old _ _ (by first | omega | (simp <;> omega))).trans (m43)), (hbq.block _ (by first | omega | (simp <;> omega))).trans (ug_new _ _ rfl)⟩
    · obtain rfl : N2 = true := hgg.out rfl
      clear hgg
      cases O
      · refine wp_region_quiet_below (by kernel_rfl) (by kernel_rfl) ?_
        repeat (first | go_big_quiet_step ((first | (go_at_call 15; with_reducible exact Calls.regrown_of (HG1 _)) | (go_at_call 15; with_reducible exact Calls.regrown_of (HG2 _)) | (go_at_call 15; with_reducible exact Calls.regrown_of (HN0 _)) | (go_at_call 58; with_reducible exact Calls.regrown_of (HO3 _)))) | quiet_step ((first | (go_at_call 15; with_reducible exact Calls.regrown_of (HG1 _)) | (go_at_call 15; with_reducible exact Calls.regrown_of (HG2 _)) | (go_at_call 15; with_reducible exact Calls.regrown_of (HN0 _)) | (go_at_call 58; with_reducible exact Calls.regrown_of (HO3 _)))))
        refine wpQuiet_nil ?_
        intro wq hwq
        obtain ⟨pq, hpq⟩ := hwq
        have hbq := below_of hpq
        clear hpq pq
        have zq := hbq.size
        (try simp at zq)
        go_wp2
        go_meet
        case rel => exact ⟨rfl, bl_call (by repeat (first | (with_reducible refine bl_set ?_ (by simp <;> omega) _) | (with_reducible refine bl_alloc ?_ (Nat.le_refl _) _) | (with_reducible refine Below.drew ?_) | (with_reducible assumption) | (with_reducible exact Below.refl _ _))) hbq, (hbq.block _ (by first | omega | (simp <;> omega))).trans ((ug_old _ _ (by first | omega | (simp <;> omega))).trans (a43)), (hbq.block _ (by first | omega | (simp <;> omega))).trans ((ug_old _ _ (by first | omega | (simp <;> omega))).trans (b43)), (hbq.block _ (by first | omega | (simp <;> omega))).trans ((ug_old _ _ (by first | omega | (simp <;> omega))).trans (m43)), (hbq.block _ (by first | omega | (simp <;> omega))).trans (ug_new _ _ rfl)⟩
      · refine wp_region_quiet_below (by kernel_rfl) (by kernel_rfl) ?_
        repeat (first | go_big_quiet_step ((first | (go_at_call 15; with_reducible exact Calls.regrown_of (HG1 _)) | (go_at_call 15; with_reducible exact Calls.regrown_of (HG2 _)) | (go_at_call 15; with_reducible exact Calls.regrown_of (HN0 _)) | (go_at_call 58; with_reducible exact Calls.regrown_of (HO3 _)))) | quiet_step ((first | (go_at_call 15; with_reducible exact Calls.regrown_of (HG1 _)) | (go_at_call 15; with_reducible exact Calls.regrown_of (HG2 _)) | (go_at_call 15; with_reducible exact Calls.regrown_of (HN0 _)) | (go_at_call 58; with_reducible exact Calls.regrown_of (HO3 _)))))
        refine wpQuiet_nil ?_
        intro wq hwq
        obtain ⟨pq, hpq⟩ := hwq
        have hbq := below_of hpq
        clear hpq pq
        have zq := hbq.size
        (try simp at zq)
        go_wp2
        go_meet
        case rel => exact ⟨rfl, bl_call (by repeat (first | (with_reducible refine bl_set ?_ (by simp <;> omega) _) | (with_reducible refine bl_alloc ?_ (Nat.le_refl _) _) | (with_reducible refine Below.drew ?_) | (with_reducible assumption) | (with_reducible exact Below.refl _ _))) hbq, (hbq.block _ (by first | omega | (simp <;> omega))).trans ((ug_old _ _ (by first | omega | (simp <;> omega))).trans (a43)), (hbq.block _ (by first | omega | (simp <;> omega))).trans ((ug_old _ _ (by first | omega | (simp <;> omega))).trans (b43)), (hbq.block _ (by first | omega | (simp <;> omega))).trans ((ug_old _ _ (by first | omega | (simp <;> omega))).trans (m43)), (hbq.block _ (by first | omega | (simp <;> omega))).trans (ug_new _ _ rfl)⟩
  case rest => as_aux_lemma =>
  obtain ⟨rfl, hB, oa, ob, om, ok⟩ := hcut
  obtain ⟨vE, rfl⟩ : ∃ vE, vE = wc := ⟨_, rfl⟩
  clear ka43 qa43 ra43 a43 kb43 qb43 rb43 b43 kc43 qc43 rc43 c43 kd43 qd43 rd43 d43 km43 qm43 rm43 m43 B43 HG1 HG2 hgg HO3 HN0
  have a60 := oa
  have b60 := ob
  have m60 := om
  have k60 := ok
  have ka60 := ug_cell a60
  have qa60 : v0.heap.size < vE.heap.size := (Array.getElem?_eq_some_iff.1 a60).1
  have ra60 : v0.heap.size < vE.heap.size + 1 := by omega
  have kb60 := ug_cell b60
  have qb60 : v0.heap.size + 1 < vE.heap.size := (Array.getElem?_eq_some_iff.1 b60).1
  have rb60 : v0.heap.size + 1 < vE.heap.size + 1 := by omega
  have km60 := ug_cell m60
  have qm60 : v41.heap.size < vE.heap.size := (Array.getElem?_eq_some_iff.1 m60).1
  have rm60 : v41.heap.size < vE.heap.size + 1 := by omega
  have kk60 := ug_cell k60
  have qk60 : v43.heap.size < vE.heap.size := (Array.getElem?_eq_some_iff.1 k60).1
  have rk60 : v43.heap.size < vE.heap.size + 1 := by omega
  clear oa ob om ok
  go_wp2_with fail
  (with_reducible refine (HN1 _).mono ?_)
  rintro e v61 ⟨rfl, hb61⟩
  have z61 : vE.heap.size + 0 ≤ v61.heap.size := by have h := hb61.size; simpa using h
  have a61 : v61.heap[v0.heap.size]? = some (.cells #[.int .i64 x1, .int .i64 y1] 25 (0, 0)) := (hb61.block _ (by first | omega | (simp <;> omega))).trans (a60)
  have b61 : v61.heap[v0.heap.size + 1]? = some (.cells #[.int .i64 x2, .int .i64 y2] 25 (0, 0)) := (hb61.block _ (by first | omega | (simp <;> omega))).trans (b60)
  have m61 : v61.heap[v41.heap.size]? = some (.cells #[.int .i64 mx, .int .i64 my] 25 (0, 0)) := (hb61.block _ (by first | omega | (simp <;> omega))).trans (m60)
  have k61 : v61.heap[v43.heap.size]? = some (.cells #[.int .i64 x1, .int .i64 y1] 25 (0, 0)) := (hb61.block _ (by first | omega | (simp <;> omega))).trans (k60)
  have B61 : Below w.heap.size w v61 := bl_call (by repeat (first | (with_reducible refine bl_set ?_ (by simp <;> omega) _) | (with_reducible refine bl_alloc ?_ (Nat.le_refl _) _) | (with_reducible refine Below.drew ?_) | (with_reducible assumption) | (with_reducible exact Below.refl _ _))) hb61
  clear hb61 ka60 qa60 ra60 a60 kb60 qb60 rb60 b60 km60 qm60 rm60 m60 kk60 qk60 rk60 k60
  have ka61 := ug_cell a61
  have qa61 : v0.heap.size < v61.heap.size := (Array.getElem?_eq_some_iff.1 a61).1
  have ra61 : v0.heap.size < v61.heap.size + 1 := by omega
  have kb61 := ug_cell b61
  have qb61 : v0.heap.size + 1 < v61.heap.size := (Array.getElem?_eq_some_iff.1 b61).1
  have rb61 : v0.heap.size + 1 < v61.heap.size + 1 := by omega
  have km61 := ug_cell m61
  have qm61 : v41.heap.size < v61.heap.size := (Array.getElem?_eq_some_iff.1 m61).1
  have rm61 : v41.heap.size < v61.heap.size + 1 := by omega
  have kk61 := ug_cell k61
  have qk61 : v43.heap.size < v61.heap.size := (Array.getElem?_eq_some_iff.1 k61).1
  have rk61 : v43.heap.size < v61.heap.size + 1 := by omega
  go_wp2_with fail
  (with_reducible refine (HO1 _).mono ?_)
  rintro e v62 ⟨rfl, hb62⟩
  have z62 : v61.heap.size + 0 ≤ v62.heap.size := by have h := hb62.size; simpa using h
  have a62 : v62.heap[v0.heap.size]? = some (.cells #[.int .i64 x1, .int .i64 y1] 25 (0, 0)) := (hb62.block _ (by first | omega | (simp <;> omega))).trans (a61)
  have b62 : v62.heap[v0.heap.size + 1]? = some (.cells #[.int .i64 x2, .int .i64 y2] 25 (0, 0)) := (hb62.block _ (by first | omega | (simp <;> omega))).trans (b61)
  have B62 : Below w.heap.size w v62 := bl_call (by repeat (first | (with_reducible refine bl_set ?_ (by simp <;> omega) _) | (with_reducible refine bl_alloc ?_ (Nat.le_refl _) _) | (with_reducible refine Below.drew ?_) | (with_reducible assumption) | (with_reducible exact Below.refl _ _))) hb62
  clear hb62 ka61 qa61 ra61 a61 kb61 qb61 rb61 b61 km61 qm61 rm61 m61 kk61 qk61 rk61 k61 B61
  have ka62 := ug_cell a62
  have qa62 : v0.heap.size < v62.heap.size := (Array.getElem?_eq_some_iff.1 a62).1
  have ra62 : v0.heap.size < v62.heap.size + 1 := by omega
  have kb62 := ug_cell b62
  have qb62 : v0.heap.size + 1 < v62.heap.size := (Array.getElem?_eq_some_iff.1 b62).1
  have rb62 : v0.heap.size + 1 < v62.heap.size + 1 := by omega
  go_wp2_with fail
  (with_reducible refine (HO2 _).mono ?_)
  rintro e v63 ⟨rfl, hb63⟩
  have z63 : v62.heap.size + 0 ≤ v63.heap.size := by have h := hb63.size; simpa using h
  have a63 : v63.heap[v0.heap.size]? = some (.cells #[.int .i64 x1, .int .i64 y1] 25 (0, 0)) := (hb63.block _ (by first | omega | (simp <;> omega))).trans (a62)
  have b63 : v63.heap[v0.heap.size + 1]? = some (.cells #[.int .i64 x2, .int .i64 y2] 25 (0, 0)) := (hb63.block _ (by first | omega | (simp <;> omega))).trans (b62)
  have B63 : Below w.heap.size w v63 := bl_call (by repeat (first | (with_reducible refine bl_set ?_ (by simp <;> omega) _) | (with_reducible refine bl_alloc ?_ (Nat.le_refl _) _) | (with_reducible refine Below.drew ?_) | (with_reducible assumption) | (with_reducible exact Below.refl _ _))) hb63
  clear hb63 ka62 qa62 ra62 a62 kb62 qb62 rb62 b62 B62
  have ka63 := ug_cell a63
  have qa63 : v0.heap.size < v63.heap.size := (Array.getElem?_eq_some_iff.1 a63).1
  have ra63 : v0.heap.size < v63.heap.size + 1 := by omega
  have kb63 := ug_cell b63
  have qb63 : v0.heap.size + 1 < v63.heap.size := (Array.getElem?_eq_some_iff.1 b63).1
  have rb63 : v0.heap.size + 1 < v63.heap.size + 1 := by omega
  go_wp2
  go_ret
  exact ⟨rfl, (by repeat (first | (with_reducible refine bl_set ?_ (by simp <;> omega) _) | (with_reducible refine bl_alloc ?_ (Nat.le_refl _) _) | (with_reducible refine Below.drew ?_) | (with_reducible assumption) | (with_reducible exact Below.refl _ _)))⟩
end Go.Proofs.Ythellegojnndlaa
