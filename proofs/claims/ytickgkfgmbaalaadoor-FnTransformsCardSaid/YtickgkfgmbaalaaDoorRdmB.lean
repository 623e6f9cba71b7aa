/-
  CONTRACT of ReadMap of package impl. Conditions: a text of at most 1048576 bytes; internal/bytealg.MaxLen holds some integer.
-/
import Derived.Test.YtickgkfgmbaalaaDoorRdmA
namespace Go.Proofs.YtickgkfgmbaalaaDoor
open Go.RowKit Go.Sort
set_option linter.unusedVariables false
attribute [local go_sem] cell_grow frozen_grow
set_option maxRecDepth 100000 in
set_option maxHeartbeats 16000000 in
theorem readMap_i (s : ByteArray) (hz : s.size ≤ 1048576) (m : Int) (w : World) (hv : 0 < w.heap.size) (hm : w.cell? ⟨0, 0, none⟩ = some (.int .i64 m)) : Calls Tryd.prog 6 #[.string s] w fun e w' => e = .returned (rmT (splitOf s 32)) ∧ Below w.heap.size w w' := by
  have HSP := hide (fun W (hW : Below w.heap.size w W) => split_any s hz m W ((hW.cell (p := ⟨0, 0, none⟩) hv).trans hm))
  have hpart := part_le s 32 hz
  have hll := splitOf_len s 32
  generalize splitOf s 32 = L at *
  clear hm
  by_cases h6 : L.length = 6
  · have HRF := hide (fun k (hk : k < 6) => readFrac_i (rmW L k) (hpart _ (getD_mem (by omega))))
    have HBAD := hide (fun k (hk : k < 6) h => @rm_bad L k hk h)
    have HOK := hide (fun h2 => @rm_ok L h6 h2)
    have HCEL := hide (fun (k : Nat) (hk : k < 6) => show ((L.map Value.string).toArray)[k]? = some (.string (rmW L k)) by
      rw [List.getElem?_toArray, List.getElem?_map, List.getElem?_eq_getElem (by omega)]
      simp [rmW, List.getD_eq_getElem?_getD, List.getElem?_eq_getElem (show k < L.length by omega)])
    generalize (L.map Value.string).toArray = CS at *
    rw [h6] at HSP
    clear hpart hll h6
    go_enter Tryd.func6, Tryd.ntmps6
    go_wp2_with fail
    (with_reducible refine (HSP.out _ (by repeat (first | (with_reducible refine bl_set ?_ (by simp <;> omega) _) | (with_reducible refine bl_alloc ?_ (Nat.le_refl _) _) | (with_reducible refine Below.drew ?_) | (with_reducible assumption) | (with_reducible exact Below.refl _ _)))).mono ?_)
    rintro e w1 ⟨rfl, rfl⟩
    have oR : ((w.alloc (.cells #[.int .i64 0, .int .i64 0, .int .i64 0, .int .i64 0, .int .i64 0, .int .i64 0, .int .i64 0, .int .i64 0, .int .i64 0, .int .i64 0, .int .i64 0, .int .i64 0] 25)).alloc (.cells CS 9)).heap[w.heap.size]? = some (.cells #[.int .i64 0, .int .i64 0, .int .i64 0, .int .i64 0, .int .i64 0, .int .i64 0, .int .i64 0, .int .i64 0, .int .i64 0, .int .i64 0, .int .i64 0, .int .i64 0] 25 (0, 0)) := (ug_old _ _ (by simp)).trans (ug_new _ _ rfl)
    have oS : ((w.alloc (.cells #[.int .i64 0, .int .i64 0, .int .i64 0, .int .i64 0, .int .i64 0, .int .i64 0, .int .i64 0, .int .i64 0, .int .i64 0, .int .i64 0, .int .i64 0, .int .i64 0] 25)).alloc (.cells CS 9)).heap[w.heap.size + 1]? = some (.cells CS 9 (0, 0)) := ug_new _ _ (by simp)
    have bS : Below w.heap.size w ((w.alloc (.cells #[.int .i64 0, .int .i64 0, .int .i64 0, .int .i64 0, .int .i64 0, .int .i64 0, .int .i64 0, .int .i64 0, .int .i64 0, .int .i64 0, .int .i64 0, .int .i64 0] 25)).alloc (.cells CS 9)) := (by repeat (first | (with_reducible refine bl_set ?_ (by simp <;> omega) _) | (with_reducible refine bl_alloc ?_ (Nat.le_refl _) _) | (with_reducible refine Below.drew ?_) | (with_reducible assumption) | (with_reducible exact Below.refl _ _)))
    have zS : w.heap.size + 1 + 1 ≤ ((w.alloc (.cells #[.int .i64 0, .int .i64 0, .int .i64 0, .int .i64 0, .int .i64 0, .int .i64 0, .int .i64 0, .int .i64 0, .int .i64 0, .int .i64 0, .int .i64 0, .int .i64 0] 25)).alloc (.cells CS 9)).heap.size := by simp
    generalize hS : ((w.alloc (.cells #[.int .i64 0, .int .i64 0, .int .i64 0, .int .i64 0, .int .i64 0, .int .i64 0, .int .i64 0, .int .i64 0, .int .i64 0, .int .i64 0, .int .i64 0, .int .i64 0] 25)).alloc (.cells CS 9)) = wS at *
    clear hS HSP
    go_wp2
    go_loopw [17] (fun iv wr => ∃ k : Nat, k ≤ 6 ∧ iv = .int .i64 k ∧ Hid (allN (fun k => rfOk (rmW L k)) k = true) ∧ Below wS.heap.size wS wr ∧ Hid (wr.heap[wS.heap.size]? = some (.cells (arrC L k) 56 (0, 0)))) (fun iv _ => 6 - (intOf iv).toNat)
    case atStart => exact ⟨0, by omega, rfl, rfl, (Below.refl _ _).alloc (Nat.le_refl _) _, hide (ug_new _ _ rfl)⟩
    case round =>
      obtain ⟨k, hk, rfl, hok, hb, hA⟩ := hrel
      have zr := hb.size
      have lA : wS.heap.size < wr.heap.size := (Array.getElem?_eq_some_iff.1 hA.out).1
      have r1 := (hb.block _ (by omega)).trans oR
      have s1 := (hb.block _ (by omega)).trans oS
      have bw : Below w.heap.size w wr := bS.trans (hb.mono (by omega))
      have HB := hide hb
      have HOR := hide oR
      have HOS := hide oS
      clear oR oS hb bS
      by_cases hk6 : k < 6
      · have cS : wr.cell? ⟨w.heap.size + 1, k, none⟩ = some (.string (rmW L k)) := (ug_cell s1 k).trans (HCEL.out k hk6)
        have HR := HRF.out k hk6
        have hd1 : decide ((k : Int) < 6) = true := by simp; omega
        have hk7 : (k : Int) < 6 := by omega
        have lw : w.heap.size + 1 < wr.heap.size := by omega
        cases hv : rfOk (rmW L k)
        · have HX := hide (HBAD.out k hk6 hv)
          rw [show rfT (rmW L k) = .tuple #[.agg #[.int .i64 0, .int .i64 0], .bool false] by unfold rfT rfF; rw [hv]; rfl] at HR
          clear hv HRF HBAD HOK HCEL hok
          go_wp2_with fail
          (with_reducible refine (HR _).mono ?_)
          rintro e w2 ⟨rfl, hb2⟩
          have z2 := hb2.size
          obtain ⟨n0, e0⟩ := arrC_some (L := L) (k := k) (j := k * 2) (by omega)
          obtain ⟨n1, e1⟩ := arrC_some (L := L) (k := k) (j := k * 2 + 1) (by omega)
          have A2 := (hb2.block _ lA).trans hA.out
          have a0 := (ug_cell A2 (k * 2)).trans e0
          have a1 := (ug_cell A2 (k * 2 + 1)).trans e1
          have f0 := ug_frozen A2
          have r2 := (hb2.block _ (by omega)).trans r1
          have kR := ug_cell r2
          have fR := ug_frozen r2
          have b2 : Below w.heap.size w w2 := bw.trans (hb2.mono (by omega))
          have nA : ¬ wS.heap.size = w.heap.size := by omega
          have nA2 : ¬ w.heap.size = wS.heap.size := by omega
          clear A2 r2 hb2 HR r1 s1 cS
          go_wp2
          refine bodyPost_ret (v := rmT L) ?_ rfl ⟨rfl, (by repeat (first | (with_reducible refine bl_set ?_ (by simp <;> omega) _) | (with_reducible refine bl_alloc ?_ (Nat.le_refl _) _) | (with_reducible refine Below.drew ?_) | (with_reducible assumption) | (with_reducible exact Below.refl _ _)))⟩
          rw [HX.out]
          simp (maxDischargeDepth := 9) [rmZ, affV, results, Tryd.results6, go_sem, *]
        · have HX := hide (show allN (fun k => rfOk (rmW L k)) (k + 1) = true by rw [allN, hok.out, hv]; rfl)
          rw [show rfT (rmW L k) = .tuple #[.agg #[.int .i64 (rfN (rmW L k)), .int .i64 (rfD (rmW L k))], .bool true] by unfold rfT; rw [hv]; rfl] at HR
          have HN := hide (arrC_next (L := L) hk6)
          clear hv
          go_wp2_with fail
          (with_reducible refine (HR _).mono ?_)
          rintro e w2 ⟨rfl, hb2⟩
          have z2 := hb2.size
          obtain ⟨n0, e0⟩ := arrC_some (L := L) (k := k) (j := k * 2) (by omega)
          obtain ⟨n1, e1⟩ := arrC_some (L := L) (k := k) (j := k * 2 + 1) (by omega)
          have A2 := (hb2.block _ lA).trans hA.out
          have a0 := (ug_cell A2 (k * 2)).trans e0
          have a1 := (ug_cell A2 (k * 2 + 1)).trans e1
          have f0 := ug_frozen A2
          have HA2 := hide A2
          have HB2 := hide hb2
          clear A2 hb2 HR r1 s1 cS
          go_wp2
          go_roundw
          case rel => exact ⟨k + 1, by omega, by go_num, HX, ((HB.out.trans (HB2.out.mono zr)).setCell (p := ⟨wS.heap.size, k * 2, none⟩) (Nat.le_refl _) _).setCell (p := ⟨wS.heap.size, k * 2 + 1, none⟩) (Nat.le_refl _) _, hide (by rw [← HN.out]; exact ug_set (ug_set HA2.out _ _) _ _)⟩
          case measure => simp [intOf]; omega
      · obtain rfl : k = 6 := by omega
        have HX := hide (HOK.out hok.out)
        have A6 : wr.heap[wS.heap.size]? = some (.cells #[.int .i64 (rfN (rmW L 0)), .int .i64 (rfD (rmW L 0)), .int .i64 (rfN (rmW L 1)), .int .i64 (rfD (rmW L 1)), .int .i64 (rfN (rmW L 2)), .int .i64 (rfD (rmW L 2)), .int .i64 (rfN (rmW L 3)), .int .i64 (rfD (rmW L 3)), .int .i64 (rfN (rmW L 4)), .int .i64 (rfD (rmW L 4)), .int .i64 (rfN (rmW L 5)), .int .i64 (rfD (rmW L 5))] 56 (0, 0)) := hA.out.trans (by simp [arrC])
        have kA := ug_cell A6
        have HAO := affineOf_any (rfN (rmW L 0)) (rfD (rmW L 0)) (rfN (rmW L 1)) (rfD (rmW L 1)) (rfN (rmW L 2)) (rfD (rmW L 2)) (rfN (rmW L 3)) (rfD (rmW L 3)) (rfN (rmW L 4)) (rfD (rmW L 4)) (rfN (rmW L 5)) (rfD (rmW L 5))
        simp only [affV] at HAO
        clear HRF HBAD HOK HCEL hok hA s1
        go_wp2_with fail
        (with_reducible refine (HAO _).mono ?_)
        rintro e w2 ⟨rfl, hb2⟩
        have z2 := hb2.size
        have r2 := (hb2.block _ (by omega)).trans r1
        have kR := ug_cell r2
        have fR := ug_frozen r2
        have b2 : Below w.heap.size w w2 := bw.trans (hb2.mono (by omega))
        clear r2 hb2 r1 HAO kA A6
        go_wp2
        refine bodyPost_ret (v := rmT L) ?_ rfl ⟨rfl, (by repeat (first | (with_reducible refine bl_set ?_ (by simp <;> omega) _) | (with_reducible refine bl_alloc ?_ (Nat.le_refl _) _) | (with_reducible refine Below.drew ?_) | (with_reducible assumption) | (with_reducible exact Below.refl _ _)))⟩
        rw [HX.out]
        simp (maxDischargeDepth := 9) [rmV, affV, results, Tryd.results6, go_sem, *]
  · have HR := hide (rm_len h6)
    have q1 : ((L.length : Int) != 6) = true := by simp; omega
    clear hpart
    go_enter Tryd.func6, Tryd.ntmps6
    go_wp2_with fail
    (with_reducible refine (HSP.out _ (by repeat (first | (with_reducible refine bl_set ?_ (by simp <;> omega) _) | (with_reducible refine bl_alloc ?_ (Nat.le_refl _) _) | (with_reducible refine Below.drew ?_) | (with_reducible assumption) | (with_reducible exact Below.refl _ _)))).mono ?_)
    rintro e w1 ⟨rfl, rfl⟩
    go_wp2
    refine bodyPost_ret (v := rmT L) ?_ rfl ⟨rfl, (by repeat (first | (with_reducible refine bl_set ?_ (by simp <;> omega) _) | (with_reducible refine bl_alloc ?_ (Nat.le_refl _) _) | (with_reducible refine Below.drew ?_) | (with_reducible assumption) | (with_reducible exact Below.refl _ _)))⟩
    rw [HR.out]
    simp (maxDischargeDepth := 9) [rmZ, affV, results, Tryd.results6, go_sem]
end Go.Proofs.YtickgkfgmbaalaaDoor
