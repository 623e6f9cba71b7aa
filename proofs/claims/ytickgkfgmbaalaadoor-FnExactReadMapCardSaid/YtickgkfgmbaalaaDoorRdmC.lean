/-
  CONTRACTS of l04Make (at explicit cells) and ReadMap of package spec. Conditions: a text of at most 1048576 bytes.
-/
import Derived.Test.YtickgkfgmbaalaaDoorRdmB
import Derived.Test.YtickgkfgmbaalaaDoorSeq
import Derived.Test.YtickgkfgmbaalaaDoorWordsLaw
namespace Go.Proofs.YtickgkfgmbaalaaDoor
open Go.RowKit Go.Sort
set_option linter.unusedVariables false
attribute [local go_sem] cell_grow frozen_grow
set_option maxRecDepth 100000 in
set_option maxHeartbeats 4000000 in
theorem l04Make_r (x0 x1 x2 x3 x4 x5 x6 x7 x8 x9 x10 x11 : Int) (g c : Nat) (w : World) (hg : g < w.heap.size) (hcap : 6 ≤ c) (hc : ∀ j, j < 12 → w.cell? ⟨g, j, none⟩ = (#[Value.int .i64 x0, Value.int .i64 x1, Value.int .i64 x2, Value.int .i64 x3, Value.int .i64 x4, Value.int .i64 x5, Value.int .i64 x6, Value.int .i64 x7, Value.int .i64 x8, Value.int .i64 x9, Value.int .i64 x10, Value.int .i64 x11] : Array Value)[j]?) : Calls Tryd.prog 22 #[.slice (some ⟨g, 0, none⟩) 6 c] w fun e w' => e = .returned (affV x0 x1 x2 x3 x4 x5 x6 x7 x8 x9 x10 x11) ∧ Below w.heap.size w w' := by
  have c0 : w.cell? ⟨g, 0, none⟩ = some (.int .i64 x0) := (hc 0 (by omega)).trans rfl
  have c1 : w.cell? ⟨g, 1, none⟩ = some (.int .i64 x1) := (hc 1 (by omega)).trans rfl
  have c2 : w.cell? ⟨g, 2, none⟩ = some (.int .i64 x2) := (hc 2 (by omega)).trans rfl
  have c3 : w.cell? ⟨g, 3, none⟩ = some (.int .i64 x3) := (hc 3 (by omega)).trans rfl
  have c4 : w.cell? ⟨g, 4, none⟩ = some (.int .i64 x4) := (hc 4 (by omega)).trans rfl
  have c5 : w.cell? ⟨g, 5, none⟩ = some (.int .i64 x5) := (hc 5 (by omega)).trans rfl
  have c6 : w.cell? ⟨g, 6, none⟩ = some (.int .i64 x6) := (hc 6 (by omega)).trans rfl
  have c7 : w.cell? ⟨g, 7, none⟩ = some (.int .i64 x7) := (hc 7 (by omega)).trans rfl
  have c8 : w.cell? ⟨g, 8, none⟩ = some (.int .i64 x8) := (hc 8 (by omega)).trans rfl
  have c9 : w.cell? ⟨g, 9, none⟩ = some (.int .i64 x9) := (hc 9 (by omega)).trans rfl
  have c10 : w.cell? ⟨g, 10, none⟩ = some (.int .i64 x10) := (hc 10 (by omega)).trans rfl
  have c11 : w.cell? ⟨g, 11, none⟩ = some (.int .i64 x11) := (hc 11 (by omega)).trans rfl
  clear hc
  go_enter Tryd.func22, Tryd.ntmps22
  go_wp2
  refine wp_region_tail_below 19 (by kernel_rfl) (by kernel_rfl) ?_
  simp only [List.take_succ_cons, List.take_zero, List.drop_succ_cons, List.drop_zero]
  repeat (first | go_big_quiet_step ((fail)) | quiet_step ((fail)))
  refine wpQuiet_nil ?_
  intro w1 hw1
  obtain ⟨pq, hpq⟩ := hw1
  have hb1 := below_of hpq
  clear hpq pq
  have hz4 := hb1.size
  (try simp at hz4)
  obtain ⟨hc1, hf1⟩ := bcell hb1
  have hw1 : Below w.heap.size w w1 := bl_call (by repeat (first | exact Below.refl _ _ | assumption | (refine bl_alloc ?_ (Nat.le_refl _) _) | (refine bl_set ?_ (by simp <;> omega) _))) hb1
  have hz1 : w.heap.size + 1 ≤ w1.heap.size := (by have hq := hb1.size; have hr := hw1.size; (try simp at hq); omega)
  have hza : w.heap.size < w1.heap.size := (by omega)
  go_wp2
  exact bodyPost_ret (v := affV x0 x1 x2 x3 x4 x5 x6 x7 x8 x9 x10 x11) (by simp (maxDischargeDepth := 9) [results, Tryd.results22, go_sem, affV, *]) rfl ⟨rfl, (by repeat (first | (with_reducible refine bl_set ?_ (by simp <;> omega) _) | (with_reducible refine bl_alloc ?_ (Nat.le_refl _) _) | (with_reducible refine Below.drew ?_) | (with_reducible assumption) | (with_reducible exact Below.refl _ _)))⟩
def rmP (L : List ByteArray) : Nat → List (Int × Int)
  | 0 => []
  | k + 1 => rmP L k ++ [(rfN (rmW L k), rfD (rmW L k))]
theorem info_frR : (Tryd.prog.info? 23).map (fun i => (i.zero, i.size, i.bytes)) = some (some (.agg #[.int .i64 0, .int .i64 0]), 2, 16) := by kernel_rfl
theorem own_valR {w : World} {B n : Nat} {t : TypeId} {v : Value} {xs : List Value} {sz : Nat} (h : w.ownsRow B t sz v n xs) : ∃ A c, v = .slice A n c := by
  rcases h.2 with ⟨rfl, h0⟩ | ⟨g, cap, cur, rfl, _⟩
  · exact ⟨none, 0, by rw [h0]⟩
  · exact ⟨_, cap, rfl⟩
theorem own_sixR {w : World} {B : Nat} {t : TypeId} {A : Option Addr} {c : Nat} {xs : List Value} {sz : Nat} (h : w.ownsRow B t sz (.slice A 6 c) 6 xs) : ∃ g, A = some ⟨g, 0, none⟩ ∧ g < w.heap.size ∧ 6 ≤ c := by
  have hl := h
  rcases h.2 with ⟨h', h0⟩ | ⟨g, cap, cur, h', hb, hgg, h1, _⟩
  · omega
  · simp only [Value.slice.injEq, true_and] at h'
    obtain ⟨rfl, rfl⟩ := h'
    exact ⟨g, rfl, (Array.getElem?_eq_some_iff.1 hgg).1, h1⟩
set_option maxRecDepth 100000 in
set_option maxHeartbeats 16000000 in
theorem readMap_s (s : ByteArray) (hz : s.size ≤ 1048576) (w : World) : Calls Tryd.prog 5 #[.string s] w fun e w' => e = .returned (rmT (splitOf s 32)) ∧ Below w.heap.size w w' := by
  obtain ⟨i0, hi, hzA, hzB, hzC⟩ := info_parts info_frR
  have HSP := hide (fun W => l01Split_any s 32 hz W)
  have hpart := part_le s 32 hz
  have hll := splitOf_len s 32
  generalize splitOf s 32 = L at *
  by_cases h6 : L.length = 6
  · have HRF := hide (fun k (hk : k < 6) => readFrac_s (rmW L k) (hpart _ (getD_mem (by omega))))
    have HBAD := hide (fun k (hk : k < 6) h => @rm_bad L k hk h)
    have HOK := hide (fun h2 => @rm_ok L h6 h2)
    clear hpart
    go_enter Tryd.func5, Tryd.ntmps5
    go_wp2_with fail
    (with_reducible refine (HSP.out _).mono ?_)
    rintro e w1 ⟨v, rfl, ⟨A1, c1, rfl, hL⟩, hg1, hb1⟩
    obtain ⟨g, rfl, hg, hcg, _⟩ := hL (by omega)
    have hg2 : w.heap.size + 1 ≤ g := by have := hg1 g rfl; simp at this; omega
    have z1 := hb1.size
    simp at z1
    have oR : w1.heap[w.heap.size]? = some (.cells #[.int .i64 0, .int .i64 0, .int .i64 0, .int .i64 0, .int .i64 0, .int .i64 0, .int .i64 0, .int .i64 0, .int .i64 0, .int .i64 0, .int .i64 0, .int .i64 0] 25 (0, 0)) := (hb1.block _ (by simp)).trans (ug_new _ _ rfl)
    have b1 : Below w.heap.size w w1 := bl_call (by repeat (first | (with_reducible refine bl_set ?_ (by simp <;> omega) _) | (with_reducible refine bl_alloc ?_ (Nat.le_refl _) _) | (with_reducible refine Below.drew ?_) | (with_reducible assumption) | (with_reducible exact Below.refl _ _))) hb1
    have HCEL := hide (fun k (hk : k < 6) => show w1.cell? ⟨g, k, none⟩ = some (.string (rmW L k)) from hcg k (by omega))
    have h6i : (L.length : Int) = 6 := by omega
    rw [h6]
    clear hL hcg hg1 hb1 HSP h6i
    go_wp2
    go_loopw [5, 6] (fun lv iv wr => ∃ k : Nat, k ≤ 6 ∧ iv = .int .i64 k ∧ Hid (allN (fun k => rfOk (rmW L k)) k = true) ∧ Under 23 2 w1.heap.size lv k (flat2 (rmP L k)) w (w1.alloc (.cells #[] 23)) wr) (fun _ iv _ => 6 - (intOf iv).toNat)
    case atStart => exact ⟨0, by omega, rfl, rfl, Under.start ⟨rfl, .inr ⟨w1.heap.size, 0, #[], rfl, Nat.le_refl _, ug_new _ _ rfl, Nat.le_refl _, by decide, rfl, rfl⟩⟩ (fun k hk => by simp [Value.ownBlock] at hk; exact hk.symm) (by omega) (by simp) (b1.alloc (by omega) _)⟩
    case round =>
      obtain ⟨k, hk, rfl, hok, hU⟩ := hrel
      obtain ⟨Av, cv, rfl⟩ := own_valR hU.own
      have zr := hU.size
      simp at zr
      have bw := hU.below
      have HU := hide hU
      have kR : ∀ i, wr.cell? ⟨w.heap.size, i, none⟩ = (#[.int .i64 0, .int .i64 0, .int .i64 0, .int .i64 0, .int .i64 0, .int .i64 0, .int .i64 0, .int .i64 0, .int .i64 0, .int .i64 0, .int .i64 0, .int .i64 0] : Array Value)[i]? := fun i => (hU.cell (b := w.heap.size) (by simp; omega) (by omega) i).trans ((World.cell?_of_block (a := ⟨w.heap.size, i, none⟩) (ug_old _ _ (by show w.heap.size < w1.heap.size; omega))).trans (ug_cell oR i))
      have fR : ∀ i, wr.frozen? ⟨w.heap.size, i, none⟩ = false := fun i => (hU.frozen (b := w.heap.size) (by simp; omega) (by omega) i).trans ((World.frozen?_of_block (a := ⟨w.heap.size, i, none⟩) (ug_old _ _ (by show w.heap.size < w1.heap.size; omega))).trans (ug_frozen oR i))
      have lw : w.heap.size < wr.heap.size := by omega
      by_cases hk6 : k < 6
      · have cS : wr.cell? ⟨g, k, none⟩ = some (.string (rmW L k)) := (hU.cell (b := g) (by simp; omega) (by omega) k).trans ((World.cell?_of_block (a := ⟨g, k, none⟩) (ug_old _ _ hg)).trans (HCEL.out k hk6))
        have HR := HRF.out k hk6
        have hk7 : (k : Int) < 6 := by omega
        have hgr : g < wr.heap.size := by omega
        cases hv : rfOk (rmW L k)
        · have HX := hide (HBAD.out k hk6 hv)
          rw [show rfT (rmW L k) = .tuple #[.agg #[.int .i64 0, .int .i64 0], .bool false] by unfold rfT rfF; rw [hv]; rfl] at HR
          clear hv HRF HBAD HOK HCEL hok hU
          go_wp2_with fail
          (with_reducible refine (HR _).mono ?_)
          rintro e w2 ⟨rfl, hb2⟩
          have z2 := hb2.size
          have kR2 : ∀ i, w2.cell? ⟨w.heap.size, i, none⟩ = (#[.int .i64 0, .int .i64 0, .int .i64 0, .int .i64 0, .int .i64 0, .int .i64 0, .int .i64 0, .int .i64 0, .int .i64 0, .int .i64 0, .int .i64 0, .int .i64 0] : Array Value)[i]? := fun i => (hb2.cell (p := ⟨w.heap.size, i, none⟩) lw).trans (kR i)
          have fR2 : ∀ i, w2.frozen? ⟨w.heap.size, i, none⟩ = false := fun i => (hb2.frozen (p := ⟨w.heap.size, i, none⟩) lw).trans (fR i)
          have b2 : Below w.heap.size w w2 := bw.trans (hb2.mono (by omega))
          have lw2 : w.heap.size < w2.heap.size := by omega
          clear hb2 HR kR fR cS
          go_wp2
          refine bodyPost_ret (v := rmT L) ?_ rfl ⟨rfl, (by repeat (first | (with_reducible refine bl_set ?_ (by simp <;> omega) _) | (with_reducible refine bl_alloc ?_ (Nat.le_refl _) _) | (with_reducible refine Below.drew ?_) | (with_reducible assumption) | (with_reducible exact Below.refl _ _)))⟩
          rw [HX.out]
          simp (maxDischargeDepth := 9) [rmZ, affV, results, Tryd.results5, go_sem, *]
        · have HX := hide (show allN (fun k => rfOk (rmW L k)) (k + 1) = true by rw [allN, hok.out, hv]; rfl)
          rw [show rfT (rmW L k) = .tuple #[.agg #[.int .i64 (rfN (rmW L k)), .int .i64 (rfD (rmW L k))], .bool true] by unfold rfT; rw [hv]; rfl] at HR
          have HE := hide (show flat2 (rmP L (k + 1)) = flat2 (rmP L k) ++ [.int .i64 (rfN (rmW L k)), .int .i64 (rfD (rmW L k))] from flat2_snoc _ _)
          clear hv hU
          generalize rfN (rmW L k) = pN at *
          generalize rfD (rmW L k) = pD at *
          go_wp2_with fail
          (with_reducible refine (HR _).mono ?_)
          rintro e w2 ⟨rfl, hb2⟩
          have z2 := hb2.size
          have HU2 := hide (HU.out.later hb2)
          clear hb2 HR kR fR cS
          go_wp2_with (at_builtin; refine wpList_append_lies _ (by rfl) (.tmp 31) (.tmp 33) _ (by rfl) w1.heap.size 23 i0 _ 2 16 Tryd.underlying51 hi hzA hzB hzC rfl (by decide) _ k _ (by rfl) ((HU2.out.own.alloc _).alloc _) ⟨w2.heap.size + 1, 0, none⟩ 1 1 [.int .i64 pN, .int .i64 pD] (by rfl) rfl (World.news_of_block (ug_new _ _ (by simp))) (by intro u hu; simp at hu; rcases hu with rfl | rfl <;> rfl) (by decide) (by simp only [maxLen]; omega) (by omega) (by simp; omega) (w2.heap.size + 1 + 1) (by simp) ?_; intro g' cap' w5 hown hgrow hat hlt5)
          have bA : Below w2.heap.size w2 ((w2.alloc (.cells #[.int .i64 pN, .int .i64 pD] 23)).alloc (.cells #[.int .i64 pN, .int .i64 pD] 23)) := (by repeat (first | (with_reducible refine bl_set ?_ (by simp <;> omega) _) | (with_reducible refine bl_alloc ?_ (Nat.le_refl _) _) | (with_reducible refine Below.drew ?_) | (with_reducible assumption) | (with_reducible exact Below.refl _ _)))
          have HW := hide (HU2.out.grown bA hown hgrow (hat.imp id (fun e => by omega)))
          clear hown hgrow hat
          go_wp2
          go_roundw
          case rel => exact ⟨k + 1, by omega, by go_num, HX, by rw [HE.out]; exact HW.out⟩
          case measure => simp [intOf]; omega
      · obtain rfl : k = 6 := by omega
        have HX := hide (HOK.out hok.out)
        obtain ⟨g9, rfl, hg9, hc9⟩ := own_sixR hU.own
        have HMK := l04Make_r (rfN (rmW L 0)) (rfD (rmW L 0)) (rfN (rmW L 1)) (rfD (rmW L 1)) (rfN (rmW L 2)) (rfD (rmW L 2)) (rfN (rmW L 3)) (rfD (rmW L 3)) (rfN (rmW L 4)) (rfD (rmW L 4)) (rfN (rmW L 5)) (rfD (rmW L 5)) g9 cv wr hg9 hc9 (fun j hj => (hU.own.cellAt j (by omega)).trans (by
          rcases (show j = 0 ∨ j = 1 ∨ j = 2 ∨ j = 3 ∨ j = 4 ∨ j = 5 ∨ j = 6 ∨ j = 7 ∨ j = 8 ∨ j = 9 ∨ j = 10 ∨ j = 11 by omega) with rfl | rfl | rfl | rfl | rfl | rfl | rfl | rfl | rfl | rfl | rfl | rfl <;> rfl))
        clear HRF HBAD HOK HCEL hok hU HU
        go_wp2_with fail
        (with_reducible refine HMK.mono ?_)
        rintro e w2 ⟨rfl, hb2⟩
        have z2 := hb2.size
        have kR2 : ∀ i, w2.cell? ⟨w.heap.size, i, none⟩ = (#[.int .i64 0, .int .i64 0, .int .i64 0, .int .i64 0, .int .i64 0, .int .i64 0, .int .i64 0, .int .i64 0, .int .i64 0, .int .i64 0, .int .i64 0, .int .i64 0] : Array Value)[i]? := fun i => (hb2.cell (p := ⟨w.heap.size, i, none⟩) lw).trans (kR i)
        have fR2 : ∀ i, w2.frozen? ⟨w.heap.size, i, none⟩ = false := fun i => (hb2.frozen (p := ⟨w.heap.size, i, none⟩) lw).trans (fR i)
        have b2 : Below w.heap.size w w2 := bw.trans (hb2.mono (by omega))
        have lw2 : w.heap.size < w2.heap.size := by omega
        clear hb2 HMK kR fR
        simp only [affV]
        go_wp2
        refine bodyPost_ret (v := rmT L) ?_ rfl ⟨rfl, (by repeat (first | (with_reducible refine bl_set ?_ (by simp <;> omega) _) | (with_reducible refine bl_alloc ?_ (Nat.le_refl _) _) | (with_reducible refine Below.drew ?_) | (with_reducible assumption) | (with_reducible exact Below.refl _ _)))⟩
        rw [HX.out]
        simp (maxDischargeDepth := 9) [rmV, affV, results, Tryd.results5, go_sem, *]
  · have HR := hide (rm_len h6)
    have q1 : ((L.length : Int) != 6) = true := by simp; omega
    clear hpart
    go_enter Tryd.func5, Tryd.ntmps5
    go_wp2_with fail
    (with_reducible refine (HSP.out _).mono ?_)
    rintro e w1 ⟨v, rfl, ⟨A1, c1, rfl, _⟩, _, hb1⟩
    have z1 := hb1.size
    simp at z1
    have oR : w1.heap[w.heap.size]? = some (.cells #[.int .i64 0, .int .i64 0, .int .i64 0, .int .i64 0, .int .i64 0, .int .i64 0, .int .i64 0, .int .i64 0, .int .i64 0, .int .i64 0, .int .i64 0, .int .i64 0] 25 (0, 0)) := (hb1.block _ (by simp)).trans (ug_new _ _ rfl)
    have b1 : Below w.heap.size w w1 := bl_call (by repeat (first | (with_reducible refine bl_set ?_ (by simp <;> omega) _) | (with_reducible refine bl_alloc ?_ (Nat.le_refl _) _) | (with_reducible refine Below.drew ?_) | (with_reducible assumption) | (with_reducible exact Below.refl _ _))) hb1
    have kR := ug_cell oR
    have fR := ug_frozen oR
    have lw : w.heap.size < w1.heap.size := by omega
    clear hb1
    go_wp2
    refine bodyPost_ret (v := rmT L) ?_ rfl ⟨rfl, (by repeat (first | (with_reducible refine bl_set ?_ (by simp <;> omega) _) | (with_reducible refine bl_alloc ?_ (Nat.le_refl _) _) | (with_reducible refine Below.drew ?_) | (with_reducible assumption) | (with_reducible exact Below.refl _ _)))⟩
    rw [HR.out]
    simp (maxDischargeDepth := 9) [rmZ, affV, results, Tryd.results5, go_sem, *]
theorem rmT_form (L : List ByteArray) : ∃ x0 x1 x2 x3 x4 x5 x6 x7 x8 x9 x10 x11 : Int, ∃ c : Bool, rmT L = .tuple #[affV x0 x1 x2 x3 x4 x5 x6 x7 x8 x9 x10 x11, .bool c] := by
  unfold rmT
  split
  · exact ⟨_, _, _, _, _, _, _, _, _, _, _, _, _, rfl⟩
  · exact ⟨_, _, _, _, _, _, _, _, _, _, _, _, _, rfl⟩
set_option maxRecDepth 100000 in
set_option maxHeartbeats 16000000 in
theorem fnReadMap (s : ByteArray) (hm : s.size ≤ maxLen) (m : Int) (w : World) (hv : 0 < w.heap.size) (hmm : w.cell? ⟨0, 0, none⟩ = some (.int .i64 m)) : Calls Tryd.prog 3 #[.string s] w fun e w' => e = .returned (.bool true) ∧ Below w.heap.size w w' := by
  by_cases hs : 1048576 < s.size
  · simp only [maxLen] at hm
    have d1 : decide ((1048576 : Int) < (s.size : Int)) = true := by simp; omega
    go_enter Tryd.func3, Tryd.ntmps3
    go_wp2
    go_ret
    exact ⟨rfl, Below.refl _ _⟩
  · have hs' : s.size ≤ 1048576 := by omega
    have HS := readMap_s s hs'
    have HI := hide (fun W (hW : Below w.heap.size w W) => readMap_i s hs' m W (Nat.lt_of_lt_of_le hv hW.size) ((hW.cell (p := ⟨0, 0, none⟩) hv).trans hmm))
    obtain ⟨x0, x1, x2, x3, x4, x5, x6, x7, x8, x9, x10, x11, c, hr⟩ := rmT_form (splitOf s 32)
    have HE := eqAffine_self x0 x1 x2 x3 x4 x5 x6 x7 x8 x9 x10 x11
    rw [hr] at HS HI
    simp only [affV] at HS HI HE
    have d1 : decide ((1048576 : Int) < (s.size : Int)) = false := by simp; omega
    clear hr hmm
    go_enter Tryd.func3, Tryd.ntmps3
    go_wp2_with fail
    (with_reducible refine (HS _).mono ?_)
    rintro e w1 ⟨rfl, hb1⟩
    have z1 := hb1.size
    have o1 : (w1.alloc (.cells #[.int .i64 x0, .int .i64 x1, .int .i64 x2, .int .i64 x3, .int .i64 x4, .int .i64 x5, .int .i64 x6, .int .i64 x7, .int .i64 x8, .int .i64 x9, .int .i64 x10, .int .i64 x11] 25)).heap[w1.heap.size]? = some (.cells #[.int .i64 x0, .int .i64 x1, .int .i64 x2, .int .i64 x3, .int .i64 x4, .int .i64 x5, .int .i64 x6, .int .i64 x7, .int .i64 x8, .int .i64 x9, .int .i64 x10, .int .i64 x11] 25 (0, 0)) := ug_new _ _ rfl
    have b1 : Below w.heap.size w (w1.alloc (.cells #[.int .i64 x0, .int .i64 x1, .int .i64 x2, .int .i64 x3, .int .i64 x4, .int .i64 x5, .int .i64 x6, .int .i64 x7, .int .i64 x8, .int .i64 x9, .int .i64 x10, .int .i64 x11] 25)) := hb1.alloc z1 _
    clear hb1
    go_wp2_with fail
    (with_reducible refine (HI.out _ b1).mono ?_)
    rintro e w2 ⟨rfl, hb2⟩
    have z2 := hb2.size
    simp at z2
    have o2 := (hb2.block _ (by simp)).trans o1
    have k2 := ug_cell o2
    have q2 : w1.heap.size < w2.heap.size := by omega
    have b2 : Below w.heap.size w (w2.alloc (.cells #[.int .i64 x0, .int .i64 x1, .int .i64 x2, .int .i64 x3, .int .i64 x4, .int .i64 x5, .int .i64 x6, .int .i64 x7, .int .i64 x8, .int .i64 x9, .int .i64 x10, .int .i64 x11] 25)) := (b1.trans (hb2.mono (by simp; omega))).alloc (by omega) _
    clear hb2 o1 o2 b1
    go_wp2_with fail
    (with_reducible refine (HE _).mono ?_)
    rintro e w3 ⟨rfl, hb3⟩
    have b3 : Below w.heap.size w w3 := bl_call b2 hb3
    clear hb3 b2 k2
    cases c
    all_goals
      go_wp2
      go_ret
      exact ⟨rfl, b3⟩
end Go.Proofs.YtickgkfgmbaalaaDoor
