/-
  The law FnTransforms. Conditions: what the slices hold, and the cell of bytealg's MaxLen.
-/
import Derived.Test.YtickgkfgmbaalaaDoorTrA
import Derived.Test.YtickgkfgmbaalaaDoorTrP
import Derived.Test.YtickgkfgmbaalaaDoorTxM
import Derived.Test.YtickgkfgmbaalaaDoorDrawP
import Derived.Test.YtickgkfgmbaalaaDoorRdmB
import Derived.BigRegion
import Derived.BigQuiet
import Derived.Deep.DeepCutAuto
namespace Go.Proofs.YtickgkfgmbaalaaDoor
open Go.RowKit Go.Sort
set_option linter.unusedVariables false
attribute [local go_sem] cell_grow frozen_grow
attribute [local go_sem] Oper.quietAt Oper.quietUpon
theorem turn_i (j k : Int) (w : World) : Calls Tryd.prog 11 #[qV j, qV k] w fun e w' => e = .returned (.tuple #[qV (j + k), .int .i64 0]) ∧ Below w.heap.size w w' := by
  obtain ⟨h1, h2⟩ := turn_sum j k
  have h := then_i (quarter j) (quarter k) (okAf_in (quarter_ok j)) (okAf_in (quarter_ok k)) w
  rw [h1, h2] at h
  exact h
theorem appq_i (k x y : Int) (w : World) : Calls Tryd.prog 17 #[qV k, .agg #[.int .i64 x, .int .i64 y]] w fun e w' => e = .returned (.tuple #[.agg #[.int .i64 (appV (quarter k) x y).1, .int .i64 (appV (quarter k) x y).2], .int .i64 (appC (quarter k) x y)]) ∧ Below w.heap.size w w' := app_i (quarter k) (okAf_in (quarter_ok k)) x y w
set_option maxRecDepth 100000 in
set_option maxHeartbeats 64000000 in
theorem fnTransforms (A0 : Option Addr) (n0 c0 : Nat) (A1 : Option Addr) (n1 c1 : Nat) (mx : Int) (w : World) (hC0 : CodeAt w w.heap.size A0 n0) (hC1 : CodeAt w w.heap.size A1 n1) (hv : 0 < w.heap.size) (hm : w.cell? ⟨0, 0, none⟩ = some (.int .i64 mx)) :
    Calls Tryd.prog 4 #[.slice A0 n0 c0, .slice A1 n1 c1] w fun e w' => e = .returned (.bool true) ∧ Below w.heap.size w w' := by
  have HL := e8Long_any A0 n0 c0 A1 n1 c1 hC0.1 hC1.1
  have HE0 := hide (fun W (hW : Below w.heap.size w W) => e8Map_any A0 n0 c0 W (hC0.up hW.size (fun g hg => hW.block g hg)))
  have HE1 := hide (fun W (hW : Below w.heap.size w W) => e8Map_any A1 n1 c1 W (hC1.up hW.size (fun g hg => hW.block g hg)))
  have HA0 := hide (fun W (hW : Below w.heap.size w W) => e8At_any A0 n0 c0 9 (by decide) (by decide) W (hC0.up hW.size (fun g hg => hW.block g hg)))
  have HA1 := hide (fun W (hW : Below w.heap.size w W) => e8At_any A1 n1 c1 9 (by decide) (by decide) W (hC1.up hW.size (fun g hg => hW.block g hg)))
  have HP := hide (fun W (hW : Below w.heap.size w W) => e8Points_any A1 n1 c1 W (hC1.up hW.size (fun g hg => hW.block g hg)))
  have HR := hide (fun (s : ByteArray) (hz : s.size ≤ 1048576) W (hW : Below w.heap.size w W) => readMap_i s hz mx W (by have := hW.size; omega) ((World.cell?_of_block (a := ⟨0, 0, none⟩) (hW.block _ hv)).trans hm))
  clear hC0 hC1 hv hm
  have HQ := quarterMap_i
  have HTT := turn_i
  have HAP := appq_i
  have HID := identityMap_s
  simp only [qV, affV] at HQ HTT HAP HID
  simp only [afV, affV] at HE0 HE1
  generalize (decide (1048576 < n0) || decide (1048576 < n1)) = b at HL
  cases b
  case true =>
    go_enter Tryd.func4, Tryd.ntmps4
    go_wp2_with fail
    (with_reducible refine (HL _).mono ?_)
    rintro e v ⟨rfl, rfl⟩
    go_wp2
    go_ret
    exact ⟨rfl, Below.refl _ _⟩
  go_enter Tryd.func4, Tryd.ntmps4
  go_wp2_with fail
  (with_reducible refine (HL _).mono ?_)
  rintro e v ⟨rfl, rfl⟩
  clear HL
  go_wp2_with fail
  (with_reducible refine (HE0.out _ (Below.refl _ _)).mono ?_)
  rintro e v0 ⟨m, rfl, hm0, him, B0⟩
  have hm := hide hm0
  clear HE0 hm0
  go_wp2_with fail
  (with_reducible refine (HE1.out _ (by repeat (first | (with_reducible refine bl_set ?_ (by simp <;> omega) _) | (with_reducible refine bl_alloc ?_ (Nat.le_refl _) _) | (with_reducible refine Below.drew ?_) | (with_reducible assumption) | (with_reducible exact Below.refl _ _)))).mono ?_)
  rintro e v1 ⟨n, rfl, hn0, hin, hb1⟩
  have z1 : v0.heap.size + 1 ≤ v1.heap.size := by have h := hb1.size; simpa using h
  have m1 : v1.heap[v0.heap.size]? = some (.cells #[.int .i64 m.xx.1, .int .i64 m.xx.2, .int .i64 m.xy.1, .int .i64 m.xy.2, .int .i64 m.yx.1, .int .i64 m.yx.2, .int .i64 m.yy.1, .int .i64 m.yy.2, .int .i64 m.dx.1, .int .i64 m.dx.2, .int .i64 m.dy.1, .int .i64 m.dy.2] 25 (0, 0)) := (hb1.block _ (by first | omega | (simp <;> omega))).trans (ug_new _ _ rfl)
  have B1 : Below w.heap.size w v1 := bl_call (by repeat (first | (with_reducible refine bl_set ?_ (by simp <;> omega) _) | (with_reducible refine bl_alloc ?_ (Nat.le_refl _) _) | (with_reducible refine Below.drew ?_) | (with_reducible assumption) | (with_reducible exact Below.refl _ _))) hb1
  clear hb1  B0
  have km1 := ug_cell m1
  have qm1 : v0.heap.size < v1.heap.size := (Array.getElem?_eq_some_iff.1 m1).1
  have rm1 : v0.heap.size < v1.heap.size + 1 := by omega
  have hn := hide hn0
  clear HE1 hn0
  have HI := inv_i m him
  have HT1 := then_i m (invA m) him invA_in
  have hid := hide (@one_id m)
  generalize thA m (invA m) = one at *
  generalize thC m (invA m) = d1 at *
  generalize invA m = bk at *
  generalize invC m = cI at *
  simp only [afV, affV] at HI HT1
  go_wp2_with fail
  (with_reducible refine (HI _).mono ?_)
  rintro e v2 ⟨rfl, hb2⟩
  have z2 : v1.heap.size + 1 ≤ v2.heap.size := by have h := hb2.size; simpa using h
  have m2 : v2.heap[v0.heap.size]? = some (.cells #[.int .i64 m.xx.1, .int .i64 m.xx.2, .int .i64 m.xy.1, .int .i64 m.xy.2, .int .i64 m.yx.1, .int .i64 m.yx.2, .int .i64 m.yy.1, .int .i64 m.yy.2, .int .i64 m.dx.1, .int .i64 m.dx.2, .int .i64 m.dy.1, .int .i64 m.dy.2] 25 (0, 0)) := (hb2.block _ (by first | omega | (simp <;> omega))).trans ((ug_old _ _ (by first | omega | (simp <;> omega))).trans (m1))
  have n2 : v2.heap[v1.heap.size]? = some (.cells #[.int .i64 n.xx.1, .int .i64 n.xx.2, .int .i64 n.xy.1, .int .i64 n.xy.2, .int .i64 n.yx.1, .int .i64 n.yx.2, .int .i64 n.yy.1, .int .i64 n.yy.2, .int .i64 n.dx.1, .int .i64 n.dx.2, .int .i64 n.dy.1, .int .i64 n.dy.2] 25 (0, 0)) := (hb2.block _ (by first | omega | (simp <;> omega))).trans (ug_new _ _ rfl)
  have B2 : Below w.heap.size w v2 := bl_call (by repeat (first | (with_reducible refine bl_set ?_ (by simp <;> omega) _) | (with_reducible refine bl_alloc ?_ (Nat.le_refl _) _) | (with_reducible refine Below.drew ?_) | (with_reducible assumption) | (with_reducible exact Below.refl _ _))) hb2
  clear hb2 km1 qm1 rm1 m1 B1
  have km2 := ug_cell m2
  have qm2 : v0.heap.size < v2.heap.size := (Array.getElem?_eq_some_iff.1 m2).1
  have rm2 : v0.heap.size < v2.heap.size + 1 := by omega
  have kn2 := ug_cell n2
  have qn2 : v1.heap.size < v2.heap.size := (Array.getElem?_eq_some_iff.1 n2).1
  have rn2 : v1.heap.size < v2.heap.size + 1 := by omega
  clear HI
  go_upto_if 48 with fail
  go_cut [] (fun wx => Below w.heap.size w wx ∧ wx.heap[v0.heap.size]? = some (.cells #[.int .i64 m.xx.1, .int .i64 m.xx.2, .int .i64 m.xy.1, .int .i64 m.xy.2, .int .i64 m.yx.1, .int .i64 m.yx.2, .int .i64 m.yy.1, .int .i64 m.yy.2, .int .i64 m.dx.1, .int .i64 m.dx.2, .int .i64 m.dy.1, .int .i64 m.dy.2] 25 (0, 0)) ∧ wx.heap[v1.heap.size]? = some (.cells #[.int .i64 n.xx.1, .int .i64 n.xx.2, .int .i64 n.xy.1, .int .i64 n.xy.2, .int .i64 n.yx.1, .int .i64 n.yx.2, .int .i64 n.yy.1, .int .i64 n.yy.2, .int .i64 n.dx.1, .int .i64 n.dx.2, .int .i64 n.dy.1, .int .i64 n.dy.2] 25 (0, 0)))
  case first => as_aux_lemma =>
    clear HA0 HA1 HP HR HQ HTT HAP
    by_cases hc : cI = 0
    · subst hc
      by_cases hd : d1 = 0
      · subst hd
        obtain rfl : one = ⟨(1, 1), (0, 1), (0, 1), (1, 1), (0, 1), (0, 1)⟩ := hid.out rfl rfl
        clear hid
        dsimp only at HT1
        go_wp2_with fail
        (with_reducible refine (HT1 _).mono ?_)
        rintro e v3 ⟨rfl, hb3⟩
        have z3 : v2.heap.size + 1 ≤ v3.heap.size := by have h := hb3.size; simpa using h
        have m3 : v3.heap[v0.heap.size]? = some (.cells #[.int .i64 m.xx.1, .int .i64 m.xx.2, .int .i64 m.xy.1, .int .i64 m.xy.2, .int .i64 m.yx.1, .int .i64 m.yx.2, .int .i64 m.yy.1, .int .i64 m.yy.2, .int .i64 m.dx.1, .int .i64 m.dx.2, .int .i64 m.dy.1, .int .i64 m.dy.2] 25 (0, 0)) := (hb3.block _ (by first | omega | (simp <;> omega))).trans ((ug_old _ _ (by first | omega | (simp <;> omega))).trans (m2))
        have n3 : v3.heap[v1.heap.size]? = some (.cells #[.int .i64 n.xx.1, .int .i64 n.xx.2, .int .i64 n.xy.1, .int .i64 n.xy.2, .int .i64 n.yx.1, .int .i64 n.yx.2, .int .i64 n.yy.1, .int .i64 n.yy.2, .int .i64 n.dx.1, .int .i64 n.dx.2, .int .i64 n.dy.1, .int .i64 n.dy.2] 25 (0, 0)) := (hb3.block _ (by first | omega | (simp <;> omega))).trans ((ug_old _ _ (by first | omega | (simp <;> omega))).trans (n2))
        have k3 : v3.heap[v2.heap.size]? = some (.cells #[.int .i64 bk.xx.1, .int .i64 bk.xx.2, .int .i64 bk.xy.1, .int .i64 bk.xy.2, .int .i64 bk.yx.1, .int .i64 bk.yx.2, .int .i64 bk.yy.1, .int .i64 bk.yy.2, .int .i64 bk.dx.1, .int .i64 bk.dx.2, .int .i64 bk.dy.1, .int .i64 bk.dy.2] 25 (0, 0)) := (hb3.block _ (by first | omega | (simp <;> omega))).trans (ug_new _ _ rfl)
        have B3 : Below w.heap.size w v3 := bl_call (by repeat (first | (with_reducible refine bl_set ?_ (by simp <;> omega) _) | (with_reducible refine bl_alloc ?_ (Nat.le_refl _) _) | (with_reducible refine Below.drew ?_) | (with_reducible assumption) | (with_reducible exact Below.refl _ _))) hb3
        clear hb3 km2 qm2 rm2 m2 kn2 qn2 rn2 n2 B2
        have km3 := ug_cell m3
        have qm3 : v0.heap.size < v3.heap.size := (Array.getElem?_eq_some_iff.1 m3).1
        have rm3 : v0.heap.size < v3.heap.size + 1 := by omega
        have kn3 := ug_cell n3
        have qn3 : v1.heap.size < v3.heap.size := (Array.getElem?_eq_some_iff.1 n3).1
        have rn3 : v1.heap.size < v3.heap.size + 1 := by omega
        have kk3 := ug_cell k3
        have qk3 : v2.heap.size < v3.heap.size := (Array.getElem?_eq_some_iff.1 k3).1
        have rk3 : v2.heap.size < v3.heap.size + 1 := by omega
        go_upto_region 8 with fail
        refine wp_region_quiet_below (by kernel_rfl) (by kernel_rfl) ?_
        repeat (first | go_big_quiet_step ((first | (go_at_call 12; with_reducible exact Calls.regrown_of (HID _)))) | quiet_step ((first | (go_at_call 12; with_reducible exact Calls.regrown_of (HID _)))))
        refine wpQuiet_nil ?_
        intro wq hwq
        obtain ⟨pq, hpq⟩ := hwq
        have hbq := below_of hpq
        clear hpq pq
        have zq := hbq.size
        (try simp at zq)
        go_wp2
        go_meet
        case rel => exact ⟨bl_call (by repeat (first | (with_reducible refine bl_set ?_ (by simp <;> omega) _) | (with_reducible refine bl_alloc ?_ (Nat.le_refl _) _) | (with_reducible refine Below.drew ?_) | (with_reducible assumption) | (with_reducible exact Below.refl _ _))) hbq, (hbq.block _ (by first | omega | (simp <;> omega))).trans ((ug_old _ _ (by first | omega | (simp <;> omega))).trans (m3)), (hbq.block _ (by first | omega | (simp <;> omega))).trans ((ug_old _ _ (by first | omega | (simp <;> omega))).trans (n3))⟩
      · have e1 : (d1 == 0) = false := by simpa using hd
        clear hid hd
        go_wp2_with fail
        (with_reducible refine (HT1 _).mono ?_)
        rintro e v3 ⟨rfl, hb3⟩
        have z3 : v2.heap.size + 1 ≤ v3.heap.size := by have h := hb3.size; simpa using h
        have m3 : v3.heap[v0.heap.size]? = some (.cells #[.int .i64 m.xx.1, .int .i64 m.xx.2, .int .i64 m.xy.1, .int .i64 m.xy.2, .int .i64 m.yx.1, .int .i64 m.yx.2, .int .i64 m.yy.1, .int .i64 m.yy.2, .int .i64 m.dx.1, .int .i64 m.dx.2, .int .i64 m.dy.1, .int .i64 m.dy.2] 25 (0, 0)) := (hb3.block _ (by first | omega | (simp <;> omega))).trans ((ug_old _ _ (by first | omega | (simp <;> omega))).trans (m2))
        have n3 : v3.heap[v1.heap.size]? = some (.cells #[.int .i64 n.xx.1, .int .i64 n.xx.2, .int .i64 n.xy.1, .int .i64 n.xy.2, .int .i64 n.yx.1, .int .i64 n.yx.2, .int .i64 n.yy.1, .int .i64 n.yy.2, .int .i64 n.dx.1, .int .i64 n.dx.2, .int .i64 n.dy.1, .int .i64 n.dy.2] 25 (0, 0)) := (hb3.block _ (by first | omega | (simp <;> omega))).trans ((ug_old _ _ (by first | omega | (simp <;> omega))).trans (n2))
        have k3 : v3.heap[v2.heap.size]? = some (.cells #[.int .i64 bk.xx.1, .int .i64 bk.xx.2, .int .i64 bk.xy.1, .int .i64 bk.xy.2, .int .i64 bk.yx.1, .int .i64 bk.yx.2, .int .i64 bk.yy.1, .int .i64 bk.yy.2, .int .i64 bk.dx.1, .int .i64 bk.dx.2, .int .i64 bk.dy.1, .int .i64 bk.dy.2] 25 (0, 0)) := (hb3.block _ (by first | omega | (simp <;> omega))).trans (ug_new _ _ rfl)
        have B3 : Below w.heap.size w v3 := bl_call (by repeat (first | (with_reducible refine bl_set ?_ (by simp <;> omega) _) | (with_reducible refine bl_alloc ?_ (Nat.le_refl _) _) | (with_reducible refine Below.drew ?_) | (with_reducible assumption) | (with_reducible exact Below.refl _ _))) hb3
        clear hb3 km2 qm2 rm2 m2 kn2 qn2 rn2 n2 B2
        have km3 := ug_cell m3
        have qm3 : v0.heap.size < v3.heap.size := (Array.getElem?_eq_some_iff.1 m3).1
        have rm3 : v0.heap.size < v3.heap.size + 1 := by omega
        have kn3 := ug_cell n3
        have qn3 : v1.heap.size < v3.heap.size := (Array.getElem?_eq_some_iff.1 n3).1
        have rn3 : v1.heap.size < v3.heap.size + 1 := by omega
        have kk3 := ug_cell k3
        have qk3 : v2.heap.size < v3.heap.size := (Array.getElem?_eq_some_iff.1 k3).1
        have rk3 : v2.heap.size < v3.heap.size + 1 := by omega
        go_upto_region 8 with fail
        refine wp_region_quiet_below (by kernel_rfl) (by kernel_rfl) ?_
        repeat (first | go_big_quiet_step ((first | (go_at_call 12; with_reducible exact Calls.regrown_of (HID _)))) | quiet_step ((first | (go_at_call 12; with_reducible exact Calls.regrown_of (HID _)))))
        refine wpQuiet_nil ?_
        intro wq hwq
        obtain ⟨pq, hpq⟩ := hwq
        have hbq := below_of hpq
        clear hpq pq
        have zq := hbq.size
        (try simp at zq)
        go_wp2
        go_meet
        case rel => exact ⟨bl_call (by repeat (first | (with_reducible refine bl_set ?_ (by simp <;> omega) _) | (with_reducible refine bl_alloc ?_ (Nat.le_refl _) _) | (with_reducible refine Below.drew ?_) | (with_reducible assumption) | (with_reducible exact Below.refl _ _))) hbq, (hbq.block _ (by first | omega | (simp <;> omega))).trans ((ug_old _ _ (by first | omega | (simp <;> omega))).trans (m3)), (hbq.block _ (by first | omega | (simp <;> omega))).trans ((ug_old _ _ (by first | omega | (simp <;> omega))).trans (n3))⟩
    · have e1 : (cI == 0) = false := by simpa using hc
      clear hid hc HT1
      go_wp2
      go_meet
      case rel => exact ⟨(by repeat (first | (with_reducible refine bl_set ?_ (by simp <;> omega) _) | (with_reducible refine bl_alloc ?_ (Nat.le_refl _) _) | (with_reducible refine Below.drew ?_) | (with_reducible assumption) | (with_reducible exact Below.refl _ _))), (ug_old _ _ (by first | omega | (simp <;> omega))).trans (m2), (ug_old _ _ (by first | omega | (simp <;> omega))).trans (n2)⟩
  case rest => as_aux_lemma =>
  obtain ⟨hB, om, on⟩ := hcut
  obtain ⟨vB, rfl⟩ : ∃ vB, vB = wc := ⟨_, rfl⟩
  clear km2 qm2 rm2 m2 kn2 qn2 rn2 n2 B2 HT1 hid HID
  have HMT := mapText_i m him
  have HRD := HR.out (mapT m) (map_back hm.out).2
  simp only [(map_back hm.out).1] at HRD
  generalize mapT m = tx at *
  simp only [afV, affV] at HMT HRD
  have HR2 := hide HRD
  clear HRD HR
  have m20 := om
  have n20 := on
  have km20 := ug_cell m20
  have qm20 : v0.heap.size < vB.heap.size := (Array.getElem?_eq_some_iff.1 m20).1
  have rm20 : v0.heap.size < vB.heap.size + 1 := by omega
  have kn20 := ug_cell n20
  have qn20 : v1.heap.size < vB.heap.size := (Array.getElem?_eq_some_iff.1 n20).1
  have rn20 : v1.heap.size < vB.heap.size + 1 := by omega
  clear om on
  go_wp2_with fail
  (with_reducible refine (HMT _).mono ?_)
  rintro e v21 ⟨rfl, hb21⟩
  have z21 : vB.heap.size + 0 ≤ v21.heap.size := by have h := hb21.size; simpa using h
  have m21 : v21.heap[v0.heap.size]? = some (.cells #[.int .i64 m.xx.1, .int .i64 m.xx.2, .int .i64 m.xy.1, .int .i64 m.xy.2, .int .i64 m.yx.1, .int .i64 m.yx.2, .int .i64 m.yy.1, .int .i64 m.yy.2, .int .i64 m.dx.1, .int .i64 m.dx.2, .int .i64 m.dy.1, .int .i64 m.dy.2] 25 (0, 0)) := (hb21.block _ (by first | omega | (simp <;> omega))).trans (m20)
  have n21 : v21.heap[v1.heap.size]? = some (.cells #[.int .i64 n.xx.1, .int .i64 n.xx.2, .int .i64 n.xy.1, .int .i64 n.xy.2, .int .i64 n.yx.1, .int .i64 n.yx.2, .int .i64 n.yy.1, .int .i64 n.yy.2, .int .i64 n.dx.1, .int .i64 n.dx.2, .int .i64 n.dy.1, .int .i64 n.dy.2] 25 (0, 0)) := (hb21.block _ (by first | omega | (simp <;> omega))).trans (n20)
  have B21 : Below w.heap.size w v21 := bl_call (by repeat (first | (with_reducible refine bl_set ?_ (by simp <;> omega) _) | (with_reducible refine bl_alloc ?_ (Nat.le_refl _) _) | (with_reducible refine Below.drew ?_) | (with_reducible assumption) | (with_reducible exact Below.refl _ _))) hb21
  clear hb21 km20 qm20 rm20 m20 kn20 qn20 rn20 n20
  have km21 := ug_cell m21
  have qm21 : v0.heap.size < v21.heap.size := (Array.getElem?_eq_some_iff.1 m21).1
  have rm21 : v0.heap.size < v21.heap.size + 1 := by omega
  have kn21 := ug_cell n21
  have qn21 : v1.heap.size < v21.heap.size := (Array.getElem?_eq_some_iff.1 n21).1
  have rn21 : v1.heap.size < v21.heap.size + 1 := by omega
  go_wp2_with fail
  (with_reducible refine (HR2.out _ (by repeat (first | (with_reducible refine bl_set ?_ (by simp <;> omega) _) | (with_reducible refine bl_alloc ?_ (Nat.le_refl _) _) | (with_reducible refine Below.drew ?_) | (with_reducible assumption) | (with_reducible exact Below.refl _ _)))).mono ?_)
  rintro e v22 ⟨rfl, hb22⟩
  have z22 : v21.heap.size + 0 ≤ v22.heap.size := by have h := hb22.size; simpa using h
  have m22 : v22.heap[v0.heap.size]? = some (.cells #[.int .i64 m.xx.1, .int .i64 m.xx.2, .int .i64 m.xy.1, .int .i64 m.xy.2, .int .i64 m.yx.1, .int .i64 m.yx.2, .int .i64 m.yy.1, .int .i64 m.yy.2, .int .i64 m.dx.1, .int .i64 m.dx.2, .int .i64 m.dy.1, .int .i64 m.dy.2] 25 (0, 0)) := (hb22.block _ (by first | omega | (simp <;> omega))).trans (m21)
  have n22 : v22.heap[v1.heap.size]? = some (.cells #[.int .i64 n.xx.1, .int .i64 n.xx.2, .int .i64 n.xy.1, .int .i64 n.xy.2, .int .i64 n.yx.1, .int .i64 n.yx.2, .int .i64 n.yy.1, .int .i64 n.yy.2, .int .i64 n.dx.1, .int .i64 n.dx.2, .int .i64 n.dy.1, .int .i64 n.dy.2] 25 (0, 0)) := (hb22.block _ (by first | omega | (simp <;> omega))).trans (n21)
  have B22 : Below w.heap.size w v22 := bl_call (by repeat (first | (with_reducible refine bl_set ?_ (by simp <;> omega) _) | (with_reducible refine bl_alloc ?_ (Nat.le_refl _) _) | (with_reducible refine Below.drew ?_) | (with_reducible assumption) | (with_reducible exact Below.refl _ _))) hb22
  clear hb22 km21 qm21 rm21 m21 kn21 qn21 rn21 n21 B21
  have km22 := ug_cell m22
  have qm22 : v0.heap.size < v22.heap.size := (Array.getElem?_eq_some_iff.1 m22).1
  have rm22 : v0.heap.size < v22.heap.size + 1 := by omega
  have kn22 := ug_cell n22
  have qn22 : v1.heap.size < v22.heap.size := (Array.getElem?_eq_some_iff.1 n22).1
  have rn22 : v1.heap.size < v22.heap.size + 1 := by omega
  clear HMT HR2
  go_wp2_with fail
  (with_reducible refine (HA0.out _ (by repeat (first | (with_reducible refine bl_set ?_ (by simp <;> omega) _) | (with_reducible refine bl_alloc ?_ (Nat.le_refl _) _) | (with_reducible refine Below.drew ?_) | (with_reducible assumption) | (with_reducible exact Below.refl _ _)))).mono ?_)
  rintro e vC ⟨r, rfl, ⟨r0, r1⟩, hvC⟩
  subst hvC
  have j0 : -4 ≤ r - 4 ∧ r - 4 ≤ 4 := by omega
  go_wp2_with fail
  (with_reducible refine (HA1.out _ (by repeat (first | (with_reducible refine bl_set ?_ (by simp <;> omega) _) | (with_reducible refine bl_alloc ?_ (Nat.le_refl _) _) | (with_reducible refine Below.drew ?_) | (with_reducible assumption) | (with_reducible exact Below.refl _ _)))).mono ?_)
  rintro e vC ⟨s, rfl, ⟨s0, s1⟩, hvC⟩
  subst hvC
  have k0 : -4 ≤ s - 4 ∧ s - 4 ≤ 4 := by omega
  clear HA0 HA1
  go_wp2_with fail
  (with_reducible refine (HQ (r - 4) _).mono ?_)
  rintro e v23 ⟨rfl, hb23⟩
  have z23 : v22.heap.size + 1 ≤ v23.heap.size := by have h := hb23.size; simpa using h
  have m23 : v23.heap[v0.heap.size]? = some (.cells #[.int .i64 m.xx.1, .int .i64 m.xx.2, .int .i64 m.xy.1, .int .i64 m.xy.2, .int .i64 m.yx.1, .int .i64 m.yx.2, .int .i64 m.yy.1, .int .i64 m.yy.2, .int .i64 m.dx.1, .int .i64 m.dx.2, .int .i64 m.dy.1, .int .i64 m.dy.2] 25 (0, 0)) := (hb23.block _ (by first | omega | (simp <;> omega))).trans ((ug_old _ _ (by first | omega | (simp <;> omega))).trans (m22))
  have n23 : v23.heap[v1.heap.size]? = some (.cells #[.int .i64 n.xx.1, .int .i64 n.xx.2, .int .i64 n.xy.1, .int .i64 n.xy.2, .int .i64 n.yx.1, .int .i64 n.yx.2, .int .i64 n.yy.1, .int .i64 n.yy.2, .int .i64 n.dx.1, .int .i64 n.dx.2, .int .i64 n.dy.1, .int .i64 n.dy.2] 25 (0, 0)) := (hb23.block _ (by first | omega | (simp <;> omega))).trans ((ug_old _ _ (by first | omega | (simp <;> omega))).trans (n22))
  have B23 : Below w.heap.size w v23 := bl_call (by repeat (first | (with_reducible refine bl_set ?_ (by simp <;> omega) _) | (with_reducible refine bl_alloc ?_ (Nat.le_refl _) _) | (with_reducible refine Below.drew ?_) | (with_reducible assumption) | (with_reducible exact Below.refl _ _))) hb23
  clear hb23 km22 qm22 rm22 m22 kn22 qn22 rn22 n22 B22
  have km23 := ug_cell m23
  have qm23 : v0.heap.size < v23.heap.size := (Array.getElem?_eq_some_iff.1 m23).1
  have rm23 : v0.heap.size < v23.heap.size + 1 := by omega
  have kn23 := ug_cell n23
  have qn23 : v1.heap.size < v23.heap.size := (Array.getElem?_eq_some_iff.1 n23).1
  have rn23 : v1.heap.size < v23.heap.size + 1 := by omega
  go_wp2_with fail
  (with_reducible refine (HQ (s - 4) _).mono ?_)
  rintro e v24 ⟨rfl, hb24⟩
  have z24 : v23.heap.size + 0 ≤ v24.heap.size := by have h := hb24.size; simpa using h
  have m24 : v24.heap[v0.heap.size]? = some (.cells #[.int .i64 m.xx.1, .int .i64 m.xx.2, .int .i64 m.xy.1, .int .i64 m.xy.2, .int .i64 m.yx.1, .int .i64 m.yx.2, .int .i64 m.yy.1, .int .i64 m.yy.2, .int .i64 m.dx.1, .int .i64 m.dx.2, .int .i64 m.dy.1, .int .i64 m.dy.2] 25 (0, 0)) := (hb24.block _ (by first | omega | (simp <;> omega))).trans (m23)
  have n24 : v24.heap[v1.heap.size]? = some (.cells #[.int .i64 n.xx.1, .int .i64 n.xx.2, .int .i64 n.xy.1, .int .i64 n.xy.2, .int .i64 n.yx.1, .int .i64 n.yx.2, .int .i64 n.yy.1, .int .i64 n.yy.2, .int .i64 n.dx.1, .int .i64 n.dx.2, .int .i64 n.dy.1, .int .i64 n.dy.2] 25 (0, 0)) := (hb24.block _ (by first | omega | (simp <;> omega))).trans (n23)
  have B24 : Below w.heap.size w v24 := bl_call (by repeat (first | (with_reducible refine bl_set ?_ (by simp <;> omega) _) | (with_reducible refine bl_alloc ?_ (Nat.le_refl _) _) | (with_reducible refine Below.drew ?_) | (with_reducible assumption) | (with_reducible exact Below.refl _ _))) hb24
  clear hb24 km23 qm23 rm23 m23 kn23 qn23 rn23 n23 B23
  have km24 := ug_cell m24
  have qm24 : v0.heap.size < v24.heap.size := (Array.getElem?_eq_some_iff.1 m24).1
  have rm24 : v0.heap.size < v24.heap.size + 1 := by omega
  have kn24 := ug_cell n24
  have qn24 : v1.heap.size < v24.heap.size := (Array.getElem?_eq_some_iff.1 n24).1
  have rn24 : v1.heap.size < v24.heap.size + 1 := by omega
  go_wp2_with fail
  (with_reducible refine (HTT (r - 4) (s - 4) _).mono ?_)
  rintro e v25 ⟨rfl, hb25⟩
  have z25 : v24.heap.size + 0 ≤ v25.heap.size := by have h := hb25.size; simpa using h
  have m25 : v25.heap[v0.heap.size]? = some (.cells #[.int .i64 m.xx.1, .int .i64 m.xx.2, .int .i64 m.xy.1, .int .i64 m.xy.2, .int .i64 m.yx.1, .int .i64 m.yx.2, .int .i64 m.yy.1, .int .i64 m.yy.2, .int .i64 m.dx.1, .int .i64 m.dx.2, .int .i64 m.dy.1, .int .i64 m.dy.2] 25 (0, 0)) := (hb25.block _ (by first | omega | (simp <;> omega))).trans (m24)
  have n25 : v25.heap[v1.heap.size]? = some (.cells #[.int .i64 n.xx.1, .int .i64 n.xx.2, .int .i64 n.xy.1, .int .i64 n.xy.2, .int .i64 n.yx.1, .int .i64 n.yx.2, .int .i64 n.yy.1, .int .i64 n.yy.2, .int .i64 n.dx.1, .int .i64 n.dx.2, .int .i64 n.dy.1, .int .i64 n.dy.2] 25 (0, 0)) := (hb25.block _ (by first | omega | (simp <;> omega))).trans (n24)
  have B25 : Below w.heap.size w v25 := bl_call (by repeat (first | (with_reducible refine bl_set ?_ (by simp <;> omega) _) | (with_reducible refine bl_alloc ?_ (Nat.le_refl _) _) | (with_reducible refine Below.drew ?_) | (with_reducible assumption) | (with_reducible exact Below.refl _ _))) hb25
  clear hb25 km24 qm24 rm24 m24 kn24 qn24 rn24 n24 B24
  have km25 := ug_cell m25
  have qm25 : v0.heap.size < v25.heap.size := (Array.getElem?_eq_some_iff.1 m25).1
  have rm25 : v0.heap.size < v25.heap.size + 1 := by omega
  have kn25 := ug_cell n25
  have qn25 : v1.heap.size < v25.heap.size := (Array.getElem?_eq_some_iff.1 n25).1
  have rn25 : v1.heap.size < v25.heap.size + 1 := by omega
  go_upto_region 16 with fail
  go_cut [98] (fun s98 wx => s98 = .bool false ∧ Below w.heap.size w wx ∧ wx.heap[v0.heap.size]? = some (.cells #[.int .i64 m.xx.1, .int .i64 m.xx.2, .int .i64 m.xy.1, .int .i64 m.xy.2, .int .i64 m.yx.1, .int .i64 m.yx.2, .int .i64 m.yy.1, .int .i64 m.yy.2, .int .i64 m.dx.1, .int .i64 m.dx.2, .int .i64 m.dy.1, .int .i64 m.dy.2] 25 (0, 0)) ∧ wx.heap[v1.heap.size]? = some (.cells #[.int .i64 n.xx.1, .int .i64 n.xx.2, .int .i64 n.xy.1, .int .i64 n.xy.2, .int .i64 n.yx.1, .int .i64 n.yx.2, .int .i64 n.yy.1, .int .i64 n.yy.2, .int .i64 n.dx.1, .int .i64 n.dx.2, .int .i64 n.dy.1, .int .i64 n.dy.2] 25 (0, 0)))
  case first => as_aux_lemma =>
    clear HP HAP HTT hm hn him hin
    refine wp_region_quiet_below (by kernel_rfl) (by kernel_rfl) ?_
    repeat (first | go_big_quiet_step ((first | (go_at_call 15; with_reducible exact Calls.regrown_of (HQ _ _)))) | quiet_step ((first | (go_at_call 15; with_reducible exact Calls.regrown_of (HQ _ _)))))
    refine wpQuiet_nil ?_
    intro wq hwq
    obtain ⟨pq, hpq⟩ := hwq
    have hbq := below_of hpq
    clear hpq pq
    have zq := hbq.size
    (try simp at zq)
    go_wp2
    go_meet
    case rel => exact ⟨rfl, bl_call (by repeat (first | (with_reducible refine bl_set ?_ (by simp <;> omega) _) | (with_reducible refine bl_alloc ?_ (Nat.le_refl _) _) | (with_reducible refine Below.drew ?_) | (with_reducible assumption) | (with_reducible exact Below.refl _ _))) hbq, (hbq.block _ (by first | omega | (simp <;> omega))).trans ((ug_old _ _ (by first | omega | (simp <;> omega))).trans (m25)), (hbq.block _ (by first | omega | (simp <;> omega))).trans ((ug_old _ _ (by first | omega | (simp <;> omega))).trans (n25))⟩
  case rest => as_aux_lemma =>
  obtain ⟨rfl, hB, om, on⟩ := hcut
  obtain ⟨vE, rfl⟩ : ∃ vE, vE = wc := ⟨_, rfl⟩
  clear km25 qm25 rm25 m25 kn25 qn25 rn25 n25 B25 HTT
  clear r0 r1 j0 s0 s1
  generalize s - 4 = kk at *
  have m40 := om
  have n40 := on
  have km40 := ug_cell m40
  have qm40 : v0.heap.size < vE.heap.size := (Array.getElem?_eq_some_iff.1 m40).1
  have rm40 : v0.heap.size < vE.heap.size + 1 := by omega
  have kn40 := ug_cell n40
  have qn40 : v1.heap.size < vE.heap.size := (Array.getElem?_eq_some_iff.1 n40).1
  have rn40 : v1.heap.size < vE.heap.size + 1 := by omega
  clear om on
  go_wp2_with fail
  (with_reducible refine (HP.out _ (by repeat (first | (with_reducible refine bl_set ?_ (by simp <;> omega) _) | (with_reducible refine bl_alloc ?_ (Nat.le_refl _) _) | (with_reducible refine Below.drew ?_) | (with_reducible assumption) | (with_reducible exact Below.refl _ _)))).mono ?_)
  rintro e v41 ⟨x1, y1, x2, y2, x3, y3, x4, y4, rfl, o1, o2, o3, o4, hb41⟩
  have z41 : vE.heap.size + 0 ≤ v41.heap.size := by have h := hb41.size; simpa using h
  have m41 : v41.heap[v0.heap.size]? = some (.cells #[.int .i64 m.xx.1, .int .i64 m.xx.2, .int .i64 m.xy.1, .int .i64 m.xy.2, .int .i64 m.yx.1, .int .i64 m.yx.2, .int .i64 m.yy.1, .int .i64 m.yy.2, .int .i64 m.dx.1, .int .i64 m.dx.2, .int .i64 m.dy.1, .int .i64 m.dy.2] 25 (0, 0)) := (hb41.block _ (by first | omega | (simp <;> omega))).trans (m40)
  have n41 : v41.heap[v1.heap.size]? = some (.cells #[.int .i64 n.xx.1, .int .i64 n.xx.2, .int .i64 n.xy.1, .int .i64 n.xy.2, .int .i64 n.yx.1, .int .i64 n.yx.2, .int .i64 n.yy.1, .int .i64 n.yy.2, .int .i64 n.dx.1, .int .i64 n.dx.2, .int .i64 n.dy.1, .int .i64 n.dy.2] 25 (0, 0)) := (hb41.block _ (by first | omega | (simp <;> omega))).trans (n40)
  have B41 : Below w.heap.size w v41 := bl_call (by repeat (first | (with_reducible refine bl_set ?_ (by simp <;> omega) _) | (with_reducible refine bl_alloc ?_ (Nat.le_refl _) _) | (with_reducible refine Below.drew ?_) | (with_reducible assumption) | (with_reducible exact Below.refl _ _))) hb41
  clear hb41 km40 qm40 rm40 m40 kn40 qn40 rn40 n40
  have km41 := ug_cell m41
  have qm41 : v0.heap.size < v41.heap.size := (Array.getElem?_eq_some_iff.1 m41).1
  have rm41 : v0.heap.size < v41.heap.size + 1 := by omega
  have kn41 := ug_cell n41
  have qn41 : v1.heap.size < v41.heap.size := (Array.getElem?_eq_some_iff.1 n41).1
  have rn41 : v1.heap.size < v41.heap.size + 1 := by omega
  clear HP o2 o3 o4
  have o1h := hide o1
  clear o1
  have HX1 := HAP kk x1 y1
  have HX2 := HAP (-kk) (appV (quarter kk) x1 y1).1 (appV (quarter kk) x1 y1).2
  rw [(turn_pt kk o1h.out).1] at HX1
  rw [(turn_pt kk o1h.out).2.2.1, (turn_pt kk o1h.out).2.2.2] at HX2
  generalize appV (quarter kk) x1 y1 = q at *
  clear HAP o1h
  have hw : IntKind.i64.wrap (-kk) = -kk := by rw [IntKind.wrap_i64]; omega
  go_upto_region 19 with fail
  refine wp_region_made 7 _ _ (.cells #[.int .i64 0, .int .i64 0] 41) (.cells #[.int .i64 q.1, .int .i64 q.2] 41) (by kernel_rfl) (by kernel_rfl) rfl rfl (fun _ _ => by kernel_rfl) ?_
  simp only [List.take_succ_cons, List.take_zero, List.drop_succ_cons, List.drop_zero]
  repeat (refine wpSteady_step (fun K hK => ?_); go_simp; first | (refine hK _ ?_; clear hK K) | (apply Exists.intro; refine ⟨fun _ => ?_, hK _ ?_⟩; (first | (go_at_call 15; with_reducible exact keeps_of (HQ _ _)) | (go_at_call 17; with_reducible exact keeps_of (HX1 _))); clear hK K))
  refine wpSteady_nil ?_
  refine ⟨?_, ?_⟩
  · intro gx w1 _ hx
    have hk := cell_blk hx
    have hf := frozen_blk hx
    exact ⟨World.setCell (World.setCell w1 ⟨gx, 0, none⟩ (.int .i64 q.1)) ⟨gx, 1, none⟩ (.int .i64 q.2), (by simp [go_sem, hk, hf]), heap_set (heap_set hx 0 _) 1 _, only_set (only_set (only_refl w1 gx) 0 _) 1 _⟩
  intro gx vx hgx hlx hbx hxx
  have z42 : v41.heap.size + 4 ≤ vx.heap.size := by have h := hbx.size; simpa using h
  have m42 : vx.heap[v0.heap.size]? = some (.cells #[.int .i64 m.xx.1, .int .i64 m.xx.2, .int .i64 m.xy.1, .int .i64 m.xy.2, .int .i64 m.yx.1, .int .i64 m.yx.2, .int .i64 m.yy.1, .int .i64 m.yy.2, .int .i64 m.dx.1, .int .i64 m.dx.2, .int .i64 m.dy.1, .int .i64 m.dy.2] 25 (0, 0)) := (hbx.block _ (by first | omega | (simp <;> omega))).trans ((ug_old _ _ (by first | omega | (simp <;> omega))).trans ((ug_old _ _ (by first | omega | (simp <;> omega))).trans ((ug_old _ _ (by first | omega | (simp <;> omega))).trans ((ug_old _ _ (by first | omega | (simp <;> omega))).trans (m41)))))
  have n42 : vx.heap[v1.heap.size]? = some (.cells #[.int .i64 n.xx.1, .int .i64 n.xx.2, .int .i64 n.xy.1, .int .i64 n.xy.2, .int .i64 n.yx.1, .int .i64 n.yx.2, .int .i64 n.yy.1, .int .i64 n.yy.2, .int .i64 n.dx.1, .int .i64 n.dx.2, .int .i64 n.dy.1, .int .i64 n.dy.2] 25 (0, 0)) := (hbx.block _ (by first | omega | (simp <;> omega))).trans ((ug_old _ _ (by first | omega | (simp <;> omega))).trans ((ug_old _ _ (by first | omega | (simp <;> omega))).trans ((ug_old _ _ (by first | omega | (simp <;> omega))).trans ((ug_old _ _ (by first | omega | (simp <;> omega))).trans (n41)))))
  have p42 : vx.heap[v41.heap.size]? = some (.cells #[.int .i64 x1, .int .i64 y1] 41 (0, 0)) := (hbx.block _ (by first | omega | (simp <;> omega))).trans ((ug_old _ _ (by first | omega | (simp <;> omega))).trans ((ug_old _ _ (by first | omega | (simp <;> omega))).trans ((ug_old _ _ (by first | omega | (simp <;> omega))).trans (ug_new _ _ rfl))))
  have x42 : vx.heap[gx]? = some (.cells #[.int .i64 q.1, .int .i64 q.2] 41 (0, 0)) := hxx
  have B42 : Below w.heap.size w vx := bl_call (by repeat (first | (with_reducible refine bl_set ?_ (by simp <;> omega) _) | (with_reducible refine bl_alloc ?_ (Nat.le_refl _) _) | (with_reducible refine Below.drew ?_) | (with_reducible assumption) | (with_reducible exact Below.refl _ _))) hbx
  clear hxx hbx hgx hlx km41 qm41 rm41 m41 kn41 qn41 rn41 n41 B41
  have km42 := ug_cell m42
  have qm42 : v0.heap.size < vx.heap.size := (Array.getElem?_eq_some_iff.1 m42).1
  have rm42 : v0.heap.size < vx.heap.size + 1 := by omega
  have kn42 := ug_cell n42
  have qn42 : v1.heap.size < vx.heap.size := (Array.getElem?_eq_some_iff.1 n42).1
  have rn42 : v1.heap.size < vx.heap.size + 1 := by omega
  have kp42 := ug_cell p42
  have qp42 : v41.heap.size < vx.heap.size := (Array.getElem?_eq_some_iff.1 p42).1
  have rp42 : v41.heap.size < vx.heap.size + 1 := by omega
  have kx42 := ug_cell x42
  have qx42 : gx < vx.heap.size := (Array.getElem?_eq_some_iff.1 x42).1
  have rx42 : gx < vx.heap.size + 1 := by omega
  go_upto_region 20 with fail
  refine wp_region_made 8 _ _ (.cells #[.int .i64 0, .int .i64 0] 41) (.cells #[.int .i64 x1, .int .i64 y1] 41) (by kernel_rfl) (by kernel_rfl) rfl rfl (fun _ _ => by kernel_rfl) ?_
  simp only [List.take_succ_cons, List.take_zero, List.drop_succ_cons, List.drop_zero]
  repeat (refine wpSteady_step (fun K hK => ?_); go_simp; first | (refine hK _ ?_; clear hK K) | (apply Exists.intro; refine ⟨fun _ => ?_, hK _ ?_⟩; (first | (go_at_call 15; with_reducible exact keeps_of (HQ _ _)) | (go_at_call 17; with_reducible exact keeps_of (HX2 _))); clear hK K))
  refine wpSteady_nil ?_
  refine ⟨?_, ?_⟩
  · intro gy w1 _ hx
    have hk := cell_blk hx
    have hf := frozen_blk hx
    exact ⟨World.setCell (World.setCell w1 ⟨gy, 0, none⟩ (.int .i64 x1)) ⟨gy, 1, none⟩ (.int .i64 y1), (by simp [go_sem, hk, hf]), heap_set (heap_set hx 0 _) 1 _, only_set (only_set (only_refl w1 gy) 0 _) 1 _⟩
  intro gy vy hgy hly hby hxy
  have z43 : vx.heap.size + 0 ≤ vy.heap.size := by have h := hby.size; simpa using h
  have m43 : vy.heap[v0.heap.size]? = some (.cells #[.int .i64 m.xx.1, .int .i64 m.xx.2, .int .i64 m.xy.1, .int .i64 m.xy.2, .int .i64 m.yx.1, .int .i64 m.yx.2, .int .i64 m.yy.1, .int .i64 m.yy.2, .int .i64 m.dx.1, .int .i64 m.dx.2, .int .i64 m.dy.1, .int .i64 m.dy.2] 25 (0, 0)) := (hby.block _ (by first | omega | (simp <;> omega))).trans (m42)
  have n43 : vy.heap[v1.heap.size]? = some (.cells #[.int .i64 n.xx.1, .int .i64 n.xx.2, .int .i64 n.xy.1, .int .i64 n.xy.2, .int .i64 n.yx.1, .int .i64 n.yx.2, .int .i64 n.yy.1, .int .i64 n.yy.2, .int .i64 n.dx.1, .int .i64 n.dx.2, .int .i64 n.dy.1, .int .i64 n.dy.2] 25 (0, 0)) := (hby.block _ (by first | omega | (simp <;> omega))).trans (n42)
  have p43 : vy.heap[v41.heap.size]? = some (.cells #[.int .i64 x1, .int .i64 y1] 41 (0, 0)) := (hby.block _ (by first | omega | (simp <;> omega))).trans (p42)
  have x43 : vy.heap[gx]? = some (.cells #[.int .i64 q.1, .int .i64 q.2] 41 (0, 0)) := (hby.block _ (by first | omega | (simp <;> omega))).trans (x42)
  have y43 : vy.heap[gy]? = some (.cells #[.int .i64 x1, .int .i64 y1] 41 (0, 0)) := hxy
  have B43 : Below w.heap.size w vy := bl_call (by repeat (first | (with_reducible refine bl_set ?_ (by simp <;> omega) _) | (with_reducible refine bl_alloc ?_ (Nat.le_refl _) _) | (with_reducible refine Below.drew ?_) | (with_reducible assumption) | (with_reducible exact Below.refl _ _))) hby
  clear hxy hby hgy hly km42 qm42 rm42 m42 kn42 qn42 rn42 n42 kp42 qp42 rp42 p42 kx42 qx42 rx42 x42 B42
  have km43 := ug_cell m43
  have qm43 : v0.heap.size < vy.heap.size := (Array.getElem?_eq_some_iff.1 m43).1
  have rm43 : v0.heap.size < vy.heap.size + 1 := by omega
  have kn43 := ug_cell n43
  have qn43 : v1.heap.size < vy.heap.size := (Array.getElem?_eq_some_iff.1 n43).1
  have rn43 : v1.heap.size < vy.heap.size + 1 := by omega
  have kp43 := ug_cell p43
  have qp43 : v41.heap.size < vy.heap.size := (Array.getElem?_eq_some_iff.1 p43).1
  have rp43 : v41.heap.size < vy.heap.size + 1 := by omega
  have kx43 := ug_cell x43
  have qx43 : gx < vy.heap.size := (Array.getElem?_eq_some_iff.1 x43).1
  have rx43 : gx < vy.heap.size + 1 := by omega
  have ky43 := ug_cell y43
  have qy43 : gy < vy.heap.size := (Array.getElem?_eq_some_iff.1 y43).1
  have ry43 : gy < vy.heap.size + 1 := by omega
  clear HQ HX1 HX2 k0 hw
  have HBO := then_i m n him hin
  have HD1 := det_i m him
  have HD2 := det_i n hin
  have HD3 := det_i (thA m n) thA_in
  have HMU := mulFrac_s (detV m).1 (detV m).2 (detV n).1 (detV n).2 (detV_in m).1 (detV_in m).2 (detV_in n).1 (detV_in n).2
  have hfin := hide (@det_both m n)
  simp only [afV, affV] at HBO HD1 HD2 HD3
  generalize mulN (detV m).1 (detV m).2 (detV n).1 (detV n).2 = pn at *
  generalize mulD (detV m).1 (detV m).2 (detV n).1 (detV n).2 = pd at *
  generalize mulC (detV m).1 (detV m).2 (detV n).1 (detV n).2 = vv at *
  generalize detV (thA m n) = de at *
  generalize detC (thA m n) = uu at *
  generalize thA m n = bo at *
  generalize thC m n = hh at *
  generalize detV m = aa at *
  generalize detC m = ii at *
  generalize detV n = bb at *
  generalize detC n = ll at *
  go_wp2_with fail
  (with_reducible refine (HBO _).mono ?_)
  rintro e v44 ⟨rfl, hb44⟩
  have z44 : vy.heap.size + 0 ≤ v44.heap.size := by have h := hb44.size; simpa using h
  have m44 : v44.heap[v0.heap.size]? = some (.cells #[.int .i64 m.xx.1, .int .i64 m.xx.2, .int .i64 m.xy.1, .int .i64 m.xy.2, .int .i64 m.yx.1, .int .i64 m.yx.2, .int .i64 m.yy.1, .int .i64 m.yy.2, .int .i64 m.dx.1, .int .i64 m.dx.2, .int .i64 m.dy.1, .int .i64 m.dy.2] 25 (0, 0)) := (hb44.block _ (by first | omega | (simp <;> omega))).trans (m43)
  have n44 : v44.heap[v1.heap.size]? = some (.cells #[.int .i64 n.xx.1, .int .i64 n.xx.2, .int .i64 n.xy.1, .int .i64 n.xy.2, .int .i64 n.yx.1, .int .i64 n.yx.2, .int .i64 n.yy.1, .int .i64 n.yy.2, .int .i64 n.dx.1, .int .i64 n.dx.2, .int .i64 n.dy.1, .int .i64 n.dy.2] 25 (0, 0)) := (hb44.block _ (by first | omega | (simp <;> omega))).trans (n43)
  have p44 : v44.heap[v41.heap.size]? = some (.cells #[.int .i64 x1, .int .i64 y1] 41 (0, 0)) := (hb44.block _ (by first | omega | (simp <;> omega))).trans (p43)
  have x44 : v44.heap[gx]? = some (.cells #[.int .i64 q.1, .int .i64 q.2] 41 (0, 0)) := (hb44.block _ (by first | omega | (simp <;> omega))).trans (x43)
  have y44 : v44.heap[gy]? = some (.cells #[.int .i64 x1, .int .i64 y1] 41 (0, 0)) := (hb44.block _ (by first | omega | (simp <;> omega))).trans (y43)
  have B44 : Below w.heap.size w v44 := bl_call (by repeat (first | (with_reducible refine bl_set ?_ (by simp <;> omega) _) | (with_reducible refine bl_alloc ?_ (Nat.le_refl _) _) | (with_reducible refine Below.drew ?_) | (with_reducible assumption) | (with_reducible exact Below.refl _ _))) hb44
  clear hb44 km43 qm43 rm43 m43 kn43 qn43 rn43 n43 kp43 qp43 rp43 p43 kx43 qx43 rx43 x43 ky43 qy43 ry43 y43 B43
  have km44 := ug_cell m44
  have qm44 : v0.heap.size < v44.heap.size := (Array.getElem?_eq_some_iff.1 m44).1
  have rm44 : v0.heap.size < v44.heap.size + 1 := by omega
  have kn44 := ug_cell n44
  have qn44 : v1.heap.size < v44.heap.size := (Array.getElem?_eq_some_iff.1 n44).1
  have rn44 : v1.heap.size < v44.heap.size + 1 := by omega
  have kp44 := ug_cell p44
  have qp44 : v41.heap.size < v44.heap.size := (Array.getElem?_eq_some_iff.1 p44).1
  have rp44 : v41.heap.size < v44.heap.size + 1 := by omega
  have kx44 := ug_cell x44
  have qx44 : gx < v44.heap.size := (Array.getElem?_eq_some_iff.1 x44).1
  have rx44 : gx < v44.heap.size + 1 := by omega
  have ky44 := ug_cell y44
  have qy44 : gy < v44.heap.size := (Array.getElem?_eq_some_iff.1 y44).1
  have ry44 : gy < v44.heap.size + 1 := by omega
  go_wp2_with fail
  (with_reducible refine (HD1 _).mono ?_)
  rintro e v45 ⟨rfl, hb45⟩
  have z45 : v44.heap.size + 1 ≤ v45.heap.size := by have h := hb45.size; simpa using h
  have m45 : v45.heap[v0.heap.size]? = some (.cells #[.int .i64 m.xx.1, .int .i64 m.xx.2, .int .i64 m.xy.1, .int .i64 m.xy.2, .int .i64 m.yx.1, .int .i64 m.yx.2, .int .i64 m.yy.1, .int .i64 m.yy.2, .int .i64 m.dx.1, .int .i64 m.dx.2, .int .i64 m.dy.1, .int .i64 m.dy.2] 25 (0, 0)) := (hb45.block _ (by first | omega | (simp <;> omega))).trans ((ug_old _ _ (by first | omega | (simp <;> omega))).trans (m44))
  have n45 : v45.heap[v1.heap.size]? = some (.cells #[.int .i64 n.xx.1, .int .i64 n.xx.2, .int .i64 n.xy.1, .int .i64 n.xy.2, .int .i64 n.yx.1, .int .i64 n.yx.2, .int .i64 n.yy.1, .int .i64 n.yy.2, .int .i64 n.dx.1, .int .i64 n.dx.2, .int .i64 n.dy.1, .int .i64 n.dy.2] 25 (0, 0)) := (hb45.block _ (by first | omega | (simp <;> omega))).trans ((ug_old _ _ (by first | omega | (simp <;> omega))).trans (n44))
  have b45 : v45.heap[v44.heap.size]? = some (.cells #[.int .i64 bo.xx.1, .int .i64 bo.xx.2, .int .i64 bo.xy.1, .int .i64 bo.xy.2, .int .i64 bo.yx.1, .int .i64 bo.yx.2, .int .i64 bo.yy.1, .int .i64 bo.yy.2, .int .i64 bo.dx.1, .int .i64 bo.dx.2, .int .i64 bo.dy.1, .int .i64 bo.dy.2] 25 (0, 0)) := (hb45.block _ (by first | omega | (simp <;> omega))).trans (ug_new _ _ rfl)
  have B45 : Below w.heap.size w v45 := bl_call (by repeat (first | (with_reducible refine bl_set ?_ (by simp <;> omega) _) | (with_reducible refine bl_alloc ?_ (Nat.le_refl _) _) | (with_reducible refine Below.drew ?_) | (with_reducible assumption) | (with_reducible exact Below.refl _ _))) hb45
  clear hb45 km44 qm44 rm44 m44 kn44 qn44 rn44 n44 kp44 qp44 rp44 p44 kx44 qx44 rx44 x44 ky44 qy44 ry44 y44 B44
  have km45 := ug_cell m45
  have qm45 : v0.heap.size < v45.heap.size := (Array.getElem?_eq_some_iff.1 m45).1
  have rm45 : v0.heap.size < v45.heap.size + 1 := by omega
  have kn45 := ug_cell n45
  have qn45 : v1.heap.size < v45.heap.size := (Array.getElem?_eq_some_iff.1 n45).1
  have rn45 : v1.heap.size < v45.heap.size + 1 := by omega
  have kb45 := ug_cell b45
  have qb45 : v44.heap.size < v45.heap.size := (Array.getElem?_eq_some_iff.1 b45).1
  have rb45 : v44.heap.size < v45.heap.size + 1 := by omega
  go_wp2_with fail
  (with_reducible refine (HD2 _).mono ?_)
  rintro e v46 ⟨rfl, hb46⟩
  have z46 : v45.heap.size + 1 ≤ v46.heap.size := by have h := hb46.size; simpa using h
  have m46 : v46.heap[v0.heap.size]? = some (.cells #[.int .i64 m.xx.1, .int .i64 m.xx.2, .int .i64 m.xy.1, .int .i64 m.xy.2, .int .i64 m.yx.1, .int .i64 m.yx.2, .int .i64 m.yy.1, .int .i64 m.yy.2, .int .i64 m.dx.1, .int .i64 m.dx.2, .int .i64 m.dy.1, .int .i64 m.dy.2] 25 (0, 0)) := (hb46.block _ (by first | omega | (simp <;> omega))).trans ((ug_old _ _ (by first | omega | (simp <;> omega))).trans (m45))
  have n46 : v46.heap[v1.heap.size]? = some (.cells #[.int .i64 n.xx.1, .int .i64 n.xx.2, .int .i64 n.xy.1, .int .i64 n.xy.2, .int .i64 n.yx.1, .int .i64 n.yx.2, .int .i64 n.yy.1, .int .i64 n.yy.2, .int .i64 n.dx.1, .int .i64 n.dx.2, .int .i64 n.dy.1, .int .i64 n.dy.2] 25 (0, 0)) := (hb46.block _ (by first | omega | (simp <;> omega))).trans ((ug_old _ _ (by first | omega | (simp <;> omega))).trans (n45))
  have b46 : v46.heap[v44.heap.size]? = some (.cells #[.int .i64 bo.xx.1, .int .i64 bo.xx.2, .int .i64 bo.xy.1, .int .i64 bo.xy.2, .int .i64 bo.yx.1, .int .i64 bo.yx.2, .int .i64 bo.yy.1, .int .i64 bo.yy.2, .int .i64 bo.dx.1, .int .i64 bo.dx.2, .int .i64 bo.dy.1, .int .i64 bo.dy.2] 25 (0, 0)) := (hb46.block _ (by first | omega | (simp <;> omega))).trans ((ug_old _ _ (by first | omega | (simp <;> omega))).trans (b45))
  have a46 : v46.heap[v45.heap.size]? = some (.cells #[.int .i64 aa.1, .int .i64 aa.2] 23 (0, 0)) := (hb46.block _ (by first | omega | (simp <;> omega))).trans (ug_new _ _ rfl)
  have B46 : Below w.heap.size w v46 := bl_call (by repeat (first | (with_reducible refine bl_set ?_ (by simp <;> omega) _) | (with_reducible refine bl_alloc ?_ (Nat.le_refl _) _) | (with_reducible refine Below.drew ?_) | (with_reducible assumption) | (with_reducible exact Below.refl _ _))) hb46
  clear hb46 km45 qm45 rm45 m45 kn45 qn45 rn45 n45 kb45 qb45 rb45 b45 B45
  have km46 := ug_cell m46
  have qm46 : v0.heap.size < v46.heap.size := (Array.getElem?_eq_some_iff.1 m46).1
  have rm46 : v0.heap.size < v46.heap.size + 1 := by omega
  have kn46 := ug_cell n46
  have qn46 : v1.heap.size < v46.heap.size := (Array.getElem?_eq_some_iff.1 n46).1
  have rn46 : v1.heap.size < v46.heap.size + 1 := by omega
  have kb46 := ug_cell b46
  have qb46 : v44.heap.size < v46.heap.size := (Array.getElem?_eq_some_iff.1 b46).1
  have rb46 : v44.heap.size < v46.heap.size + 1 := by omega
  have ka46 := ug_cell a46
  have qa46 : v45.heap.size < v46.heap.size := (Array.getElem?_eq_some_iff.1 a46).1
  have ra46 : v45.heap.size < v46.heap.size + 1 := by omega
  clear HBO HD1 HD2
  by_cases hhh : hh = 0
  case neg =>
    have e1 : (hh == 0) = false := by simpa using hhh
    have e2 : (hh != 0) = true := by simpa using hhh
    clear hhh hfin
    go_wp2
    go_ret
    exact ⟨rfl, (by repeat (first | (with_reducible refine bl_set ?_ (by simp <;> omega) _) | (with_reducible refine bl_alloc ?_ (Nat.le_refl _) _) | (with_reducible refine Below.drew ?_) | (with_reducible assumption) | (with_reducible exact Below.refl _ _)))⟩
  subst hhh
  by_cases hii : ii = 0
  case neg =>
    have e1 : (ii == 0) = false := by simpa using hii
    have e2 : (ii != 0) = true := by simpa using hii
    clear hii hfin
    go_wp2
    go_ret
    exact ⟨rfl, (by repeat (first | (with_reducible refine bl_set ?_ (by simp <;> omega) _) | (with_reducible refine bl_alloc ?_ (Nat.le_refl _) _) | (with_reducible refine Below.drew ?_) | (with_reducible assumption) | (with_reducible exact Below.refl _ _)))⟩
  subst hii
  by_cases hll : ll = 0
  case neg =>
    have e1 : (ll == 0) = false := by simpa using hll
    have e2 : (ll != 0) = true := by simpa using hll
    clear hll hfin
    go_wp2
    go_ret
    exact ⟨rfl, (by repeat (first | (with_reducible refine bl_set ?_ (by simp <;> omega) _) | (with_reducible refine bl_alloc ?_ (Nat.le_refl _) _) | (with_reducible refine Below.drew ?_) | (with_reducible assumption) | (with_reducible exact Below.refl _ _)))⟩
  subst hll
  go_wp2_with fail
  (with_reducible refine (HD3 _).mono ?_)
  rintro e v47 ⟨rfl, hb47⟩
  have z47 : v46.heap.size + 1 ≤ v47.heap.size := by have h := hb47.size; simpa using h
  have b47 : v47.heap[v44.heap.size]? = some (.cells #[.int .i64 bo.xx.1, .int .i64 bo.xx.2, .int .i64 bo.xy.1, .int .i64 bo.xy.2, .int .i64 bo.yx.1, .int .i64 bo.yx.2, .int .i64 bo.yy.1, .int .i64 bo.yy.2, .int .i64 bo.dx.1, .int .i64 bo.dx.2, .int .i64 bo.dy.1, .int .i64 bo.dy.2] 25 (0, 0)) := (hb47.block _ (by first | omega | (simp <;> omega))).trans ((ug_old _ _ (by first | omega | (simp <;> omega))).trans (b46))
  have a47 : v47.heap[v45.heap.size]? = some (.cells #[.int .i64 aa.1, .int .i64 aa.2] 23 (0, 0)) := (hb47.block _ (by first | omega | (simp <;> omega))).trans ((ug_old _ _ (by first | omega | (simp <;> omega))).trans (a46))
  have c47 : v47.heap[v46.heap.size]? = some (.cells #[.int .i64 bb.1, .int .i64 bb.2] 23 (0, 0)) := (hb47.block _ (by first | omega | (simp <;> omega))).trans (ug_new _ _ rfl)
  have B47 : Below w.heap.size w v47 := bl_call (by repeat (first | (with_reducible refine bl_set ?_ (by simp <;> omega) _) | (with_reducible refine bl_alloc ?_ (Nat.le_refl _) _) | (with_reducible refine Below.drew ?_) | (with_reducible assumption) | (with_reducible exact Below.refl _ _))) hb47
  clear hb47 km46 qm46 rm46 m46 kn46 qn46 rn46 n46 kb46 qb46 rb46 b46 ka46 qa46 ra46 a46 B46
  have kb47 := ug_cell b47
  have qb47 : v44.heap.size < v47.heap.size := (Array.getElem?_eq_some_iff.1 b47).1
  have rb47 : v44.heap.size < v47.heap.size + 1 := by omega
  have ka47 := ug_cell a47
  have qa47 : v45.heap.size < v47.heap.size := (Array.getElem?_eq_some_iff.1 a47).1
  have ra47 : v45.heap.size < v47.heap.size + 1 := by omega
  have kc47 := ug_cell c47
  have qc47 : v46.heap.size < v47.heap.size := (Array.getElem?_eq_some_iff.1 c47).1
  have rc47 : v46.heap.size < v47.heap.size + 1 := by omega
  go_wp2_with fail
  (with_reducible refine (HMU _).mono ?_)
  rintro e v48 ⟨rfl, hb48⟩
  have z48 : v47.heap.size + 1 ≤ v48.heap.size := by have h := hb48.size; simpa using h
  have a48 : v48.heap[v45.heap.size]? = some (.cells #[.int .i64 aa.1, .int .i64 aa.2] 23 (0, 0)) := (hb48.block _ (by first | omega | (simp <;> omega))).trans ((ug_old _ _ (by first | omega | (simp <;> omega))).trans (a47))
  have c48 : v48.heap[v46.heap.size]? = some (.cells #[.int .i64 bb.1, .int .i64 bb.2] 23 (0, 0)) := (hb48.block _ (by first | omega | (simp <;> omega))).trans ((ug_old _ _ (by first | omega | (simp <;> omega))).trans (c47))
  have d48 : v48.heap[v47.heap.size]? = some (.cells #[.int .i64 de.1, .int .i64 de.2] 23 (0, 0)) := (hb48.block _ (by first | omega | (simp <;> omega))).trans (ug_new _ _ rfl)
  have B48 : Below w.heap.size w v48 := bl_call (by repeat (first | (with_reducible refine bl_set ?_ (by simp <;> omega) _) | (with_reducible refine bl_alloc ?_ (Nat.le_refl _) _) | (with_reducible refine Below.drew ?_) | (with_reducible assumption) | (with_reducible exact Below.refl _ _))) hb48
  clear hb48 kb47 qb47 rb47 b47 ka47 qa47 ra47 a47 kc47 qc47 rc47 c47 B47
  have ka48 := ug_cell a48
  have qa48 : v45.heap.size < v48.heap.size := (Array.getElem?_eq_some_iff.1 a48).1
  have ra48 : v45.heap.size < v48.heap.size + 1 := by omega
  have kc48 := ug_cell c48
  have qc48 : v46.heap.size < v48.heap.size := (Array.getElem?_eq_some_iff.1 c48).1
  have rc48 : v46.heap.size < v48.heap.size + 1 := by omega
  have kd48 := ug_cell d48
  have qd48 : v47.heap.size < v48.heap.size := (Array.getElem?_eq_some_iff.1 d48).1
  have rd48 : v47.heap.size < v48.heap.size + 1 := by omega
  clear HD3 HMU
  by_cases huu : uu = 0
  case neg =>
    have e1 : (uu == 0) = false := by simpa using huu
    have e2 : (uu != 0) = true := by simpa using huu
    clear huu hfin
    go_wp2
    go_ret
    exact ⟨rfl, (by repeat (first | (with_reducible refine bl_set ?_ (by simp <;> omega) _) | (with_reducible refine bl_alloc ?_ (Nat.le_refl _) _) | (with_reducible refine Below.drew ?_) | (with_reducible assumption) | (with_reducible exact Below.refl _ _)))⟩
  subst huu
  by_cases hvv : vv = 0
  case neg =>
    have e1 : (vv == 0) = false := by simpa using hvv
    have e2 : (vv != 0) = true := by simpa using hvv
    clear hvv hfin
    go_wp2
    go_ret
    exact ⟨rfl, (by repeat (first | (with_reducible refine bl_set ?_ (by simp <;> omega) _) | (with_reducible refine bl_alloc ?_ (Nat.le_refl _) _) | (with_reducible refine Below.drew ?_) | (with_reducible assumption) | (with_reducible exact Below.refl _ _)))⟩
  subst hvv
  obtain ⟨f1, f2⟩ := hfin.out (by trivial) (by trivial) (by trivial) (by trivial) (by trivial)
  have e1 : (de.1 == pn) = true := by simpa using f1
  have e2 : (de.2 == pd) = true := by simpa using f2
  clear hfin
  go_wp2
  go_ret
  exact ⟨rfl, (by repeat (first | (with_reducible refine bl_set ?_ (by simp <;> omega) _) | (with_reducible refine bl_alloc ?_ (Nat.le_refl _) _) | (with_reducible refine Below.drew ?_) | (with_reducible assumption) | (with_reducible exact Below.refl _ _)))⟩
end Go.Proofs.YtickgkfgmbaalaaDoor
