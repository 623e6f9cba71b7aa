/-
  CONTRACTS of the laws' helpers on systems that came in (szRow, szRowS, szSystem, toRow, toRowS, toSystem, eqRow, eqRowS, eqSystem). Conditions: what the slices hold.
-/
import Derived.Test.YthojgmhionekbaaSysIn
import Derived.Test.YthojgmhionekbaaLinA
import Derived.BigRegion
namespace Go.Proofs.Ythojgmhionekbaa
open Go.RowKit Go.Sort
set_option linter.unusedVariables false
attribute [local go_sem] cell_grow frozen_grow
set_option maxRecDepth 100000 in
set_option maxHeartbeats 4000000 in
theorem szRow_any (s : ByteArray) (a b : Int) (x : Value) (L : List T3) (left : Int) (h0 : 0 ≤ left) (h1 : left ≤ 1048576) (hs : s.size ≤ maxLen) (hB : LinB L) (w : World) (hx : TermsAt w x L) : Calls Try.prog 66 #[.agg #[.string s, .int .i64 a, .int .i64 b, x], .int .i64 left] w (SzPost L.length left w) := by
  have HZ := hide (fun r (h2 : 0 ≤ r) (h3 : r ≤ 1048576) W (hW : Below w.heap.size w W) => szLinear_any a b x L r h2 h3 W (hx.later hW) hB)
  obtain ⟨A, ca, rfl, _⟩ := hx
  simp only [maxLen] at hs
  clear hB
  by_cases h : left - s.size < 0
  · go_enter Try.func66, Try.ntmps66
    go_wp2
    go_ret
    exact ⟨-1, rfl, .inl rfl, (by repeat (first | exact Below.refl _ _ | assumption | (refine bl_alloc ?_ (Nat.le_refl _) _) | (refine bl_set ?_ (by simp <;> omega) _)))⟩
  · go_enter Try.func66, Try.ntmps66
    go_wp2_with fail
    (with_reducible refine (HZ.out (left - s.size) (by omega) (by omega) _ (by repeat (first | exact Below.refl _ _ | assumption | (refine bl_alloc ?_ (Nat.le_refl _) _) | (refine bl_set ?_ (by simp <;> omega) _)))).mono ?_)
    rintro e w1 ⟨r, rfl, hr, hb1⟩
    have hw1 : Below w.heap.size w w1 := bl_call (by repeat (first | exact Below.refl _ _ | assumption | (refine bl_alloc ?_ (Nat.le_refl _) _) | (refine bl_set ?_ (by simp <;> omega) _))) hb1
    rcases hr with rfl | ⟨q0, q1, q2⟩
    · go_wp2
      go_ret
      exact ⟨-1, rfl, .inl rfl, hw1⟩
    · go_wp2
      go_ret
      exact ⟨r, rfl, .inr ⟨q0, by omega, by omega⟩, hw1⟩
/-- what a count of room leaves of a system -/
def SysSz (R : List R4) (left : Int) (w : World) (e : Ending) (w' : World) : Prop := ∃ r : Int, e = .returned (.int .i64 r) ∧ (r = -1 ∨ (0 ≤ r ∧ r ≤ left ∧ (R.length : Int) ≤ left ∧ ∀ j, j < R.length → ((R.getD j r4d).2.2.2.length : Int) ≤ left)) ∧ Below w.heap.size w w'
set_option maxRecDepth 100000 in
set_option maxHeartbeats 4000000 in
theorem szRowS_any (x : Value) (R : List R4) (left : Int) (h0 : 0 ≤ left) (h1 : left ≤ 1048576) (hB : RowsB R) (w : World) (hx : RowsAt w x R) : Calls Try.prog 41 #[x, .int .i64 left] w (SysSz R left w) := by
  obtain ⟨A, ca, rfl, ha⟩ := hx
  obtain ⟨hn, hE⟩ := hB
  simp only [maxLen] at hn
  unfold SysSz
  generalize hL : R.length = n at *
  by_cases h : left - n < 0
  · go_enter Try.func41, Try.ntmps41
    go_wp2
    go_ret
    exact ⟨-1, rfl, .inl rfl, Below.refl _ _⟩
  · go_enter Try.func41, Try.ntmps41
    go_wp2
    go_loopw [1, 5] (fun lv iv wr => ∃ (k : Nat) (r : Int), k ≤ n ∧ iv = .int .i64 k ∧ lv = .int .i64 r ∧ 0 ≤ r ∧ r ≤ left ∧ Below w.heap.size w wr ∧ Hid (∀ j, j < k → ((R.getD j r4d).2.2.2.length : Int) ≤ left)) (fun _ iv _ => n - (intOf iv).toNat)
    case atStart => exact ⟨0, left - n, by omega, rfl, rfl, by omega, by omega, Below.refl _ _, hide (fun j hj => by omega)⟩
    case round =>
      obtain ⟨k, r, hk, rfl, rfl, hr0, hr1, hbw, hls⟩ := hrel
      by_cases hkn : k < n
      · obtain ⟨g, o, rfl, hg, hcg⟩ := ha (by omega)
        obtain ⟨a1, a2, a3, sv, a4, a5⟩ := hcg k hkn
        obtain ⟨e1, _, _, e2⟩ := hE k (by omega)
        have c1 := (hbw.cell (p := ⟨g, o + k * 4, none⟩) hg).trans a1
        have c2 := (hbw.cell (p := ⟨g, o + k * 4 + 1, none⟩) hg).trans a2
        have c3 := (hbw.cell (p := ⟨g, o + k * 4 + 2, none⟩) hg).trans a3
        have c4 := (hbw.cell (p := ⟨g, o + k * 4 + 3, none⟩) hg).trans a4
        have HZ := hide (szRow_any (R.getD k r4d).1 (R.getD k r4d).2.1 (R.getD k r4d).2.2.1 sv (R.getD k r4d).2.2.2 r hr0 (by omega) e1 e2 wr (a5.later hbw))
        have HN := hide (fun (q : ((R.getD k r4d).2.2.2.length : Int) ≤ left) j (hj : j < k + 1) => show ((R.getD j r4d).2.2.2.length : Int) ≤ left by
          by_cases ej : j = k
          · subst ej; exact q
          · exact hls.out j (by omega))
        obtain ⟨Av, cv, rfl, _⟩ := a5
        generalize R.getD k r4d = q at *
        have hgr : g < wr.heap.size := Nat.lt_of_lt_of_le hg hbw.size
        have hbs := hbw.size
        clear ha hcg a1 a2 a3 a4 hE hls
        go_wp2_with fail
        (with_reducible refine HZ.out.mono ?_)
        rintro e w1 ⟨r2, rfl, hr2, hb1⟩
        have hw1 : Below w.heap.size w w1 := hbw.trans (hb1.mono (by omega))
        rcases hr2 with rfl | ⟨q0, q1, q2⟩
        · go_wp2
          go_ret
          exact ⟨-1, rfl, .inl rfl, hw1⟩
        · go_wp2
          go_roundw
          case rel => exact ⟨k + 1, r2, by omega, by go_num, rfl, q0, by omega, hw1, hide (HN.out (by omega))⟩
          case measure => simp [intOf]; omega
      · obtain rfl : k = n := by omega
        go_wp2
        go_ret
        exact ⟨r, rfl, .inr ⟨hr0, hr1, by omega, hls.out⟩, hbw⟩
set_option maxRecDepth 100000 in
set_option maxHeartbeats 4000000 in
theorem szSystem_any (x : Value) (R : List R4) (left : Int) (h0 : 0 ≤ left) (h1 : left ≤ 1048576) (hB : RowsB R) (w : World) (hx : RowsAt w x R) : Calls Try.prog 17 #[.agg #[x], .int .i64 left] w (SysSz R left w) := by
  have HZ := hide (fun W (hW : Below w.heap.size w W) => szRowS_any x R left h0 h1 hB W (hx.later hW))
  obtain ⟨A, ca, rfl, _⟩ := hx
  clear hB
  go_enter Try.func17, Try.ntmps17
  go_wp2_with fail
  (with_reducible refine (HZ.out _ (by repeat (first | exact Below.refl _ _ | assumption | (refine bl_alloc ?_ (Nat.le_refl _) _) | (refine bl_set ?_ (by simp <;> omega) _)))).mono ?_)
  rintro e w1 ⟨r, rfl, hr, hb1⟩
  have hw1 : Below w.heap.size w w1 := bl_call (by repeat (first | exact Below.refl _ _ | assumption | (refine bl_alloc ?_ (Nat.le_refl _) _) | (refine bl_set ?_ (by simp <;> omega) _))) hb1
  rcases hr with rfl | ⟨q0, q1, q2, q3⟩
  · go_wp2
    go_ret
    exact ⟨-1, rfl, .inl rfl, hw1⟩
  · have HQ := hide q3
    clear q3
    go_wp2
    go_ret
    exact ⟨r, rfl, .inr ⟨q0, q1, q2, HQ.out⟩, hw1⟩
set_option maxRecDepth 100000 in
set_option maxHeartbeats 8000000 in
theorem toRow_any (s : ByteArray) (a b : Int) (x : Value) (L : List T3) (hl : L.length ≤ 1048576) (w : World) (hx : TermsAt w x L) : Calls Try.prog 67 #[.agg #[.string s, .int .i64 a, .int .i64 b, x]] w fun e w' => ∃ v, e = .returned (.agg #[.string s, .int .i64 a, .int .i64 b, v]) ∧ TermsOwn w' v L ∧ (∀ g, v.ownBlock = some g → w.heap.size ≤ g ∧ g < w'.heap.size) ∧ Below w.heap.size w w' := by
  have HZ := hide (fun W (hW : Below w.heap.size w W) => toLinear_any a b x L W (hx.later hW) hl)
  obtain ⟨A, ca, rfl, _⟩ := hx
  go_enter Try.func67, Try.ntmps67
  go_wp2_with fail
  (with_reducible refine (HZ.out _ (by repeat (first | (with_reducible refine bl_set ?_ (by simp <;> omega) _) | (with_reducible refine bl_alloc ?_ (Nat.le_refl _) _) | (with_reducible refine Below.drew ?_) | (with_reducible assumption) | (with_reducible exact Below.refl _ _)))).mono ?_)
  rintro e w1 ⟨v, rfl, hv, hgv, hb1⟩
  obtain ⟨A1, c1, e1⟩ := hv.shape
  subst e1
  obtain ⟨hc1, hf1⟩ := bcell hb1
  have hw1 : Below w.heap.size w w1 := bl_call (by repeat (first | (with_reducible refine bl_set ?_ (by simp <;> omega) _) | (with_reducible refine bl_alloc ?_ (Nat.le_refl _) _) | (with_reducible refine Below.drew ?_) | (with_reducible assumption) | (with_reducible exact Below.refl _ _))) hb1
  have hz1 := hb1.size
  simp at hz1
  have m1 : w.heap.size < w1.heap.size := by omega
  have m2 : w.heap.size + 1 < w1.heap.size := by omega
  have m3 : w.heap.size + 1 + 1 < w1.heap.size := by omega
  have HV := hide hv
  have HG := hide (fun g hg => by have := hgv g hg; simp at this; exact this)
  clear hv hgv hb1
  go_wp2
  refine bodyPost_ret (v := .agg #[.string s, .int .i64 a, .int .i64 b, .slice A1 L.length c1]) ?_ rfl ⟨_, rfl, HV.out.kept (by simp [World.setCell]) (fun g hg hlt => ?_), fun g hg => ?_, (by repeat (first | (with_reducible refine bl_set ?_ (by simp <;> omega) _) | (with_reducible refine bl_alloc ?_ (Nat.le_refl _) _) | (with_reducible refine Below.drew ?_) | (with_reducible assumption) | (with_reducible exact Below.refl _ _)))⟩
  · simp (maxDischargeDepth := 9) [results, Try.results67, go_sem, *]
  · have := HG.out g hg
    have n1 : g ≠ w.heap.size + 1 := by omega
    have n2 : g ≠ w.heap.size + 1 + 1 := by omega
    first | (exact (Below.heap_setCell _ _ _ _ n1).trans ((Below.heap_setCell _ _ _ _ n1).trans ((Below.heap_setCell _ _ _ _ n1).trans ((Below.heap_setCell _ _ _ _ n1).trans ((Below.heap_setCell _ _ _ _ n2).trans ((Below.heap_setCell _ _ _ _ n2).trans (Below.heap_setCell _ _ _ _ n2))))))) | (exact (Below.heap_setCell _ _ _ _ n1).trans ((Below.heap_setCell _ _ _ _ n1).trans ((Below.heap_setCell _ _ _ _ n1).trans ((Below.heap_setCell _ _ _ _ n1).trans ((Below.heap_setCell _ _ _ _ n2).trans ((Below.heap_setCell _ _ _ _ n2).trans ((Below.heap_setCell _ _ _ _ n2).trans (Below.heap_setCell _ _ _ _ n2))))))))
  · have := HG.out g hg
    simp [World.setCell]
    omega
theorem put4 {w : World} {g j : Nat} (a b c d : Value) {u0 u1 u2 u3 : Value} (h0 : w.cell? ⟨g, j * 4, none⟩ = some u0) (h1 : w.cell? ⟨g, j * 4 + 1, none⟩ = some u1) (h2 : w.cell? ⟨g, j * 4 + 2, none⟩ = some u2) (h3 : w.cell? ⟨g, j * 4 + 3, none⟩ = some u3) {W : World} (hW : W = (((w.setCell ⟨g, j * 4, none⟩ a).setCell ⟨g, j * 4 + 1, none⟩ b).setCell ⟨g, j * 4 + 2, none⟩ c).setCell ⟨g, j * 4 + 3, none⟩ d) :
    W.cell? ⟨g, j * 4, none⟩ = some a ∧ W.cell? ⟨g, j * 4 + 1, none⟩ = some b ∧ W.cell? ⟨g, j * 4 + 2, none⟩ = some c ∧ W.cell? ⟨g, j * 4 + 3, none⟩ = some d ∧
      (∀ q, q ≠ j * 4 → q ≠ j * 4 + 1 → q ≠ j * 4 + 2 → q ≠ j * 4 + 3 → W.cell? ⟨g, q, none⟩ = w.cell? ⟨g, q, none⟩) ∧ (∀ q, W.frozen? ⟨g, q, none⟩ = w.frozen? ⟨g, q, none⟩) ∧ (∀ k, k ≠ g → W.heap[k]? = w.heap[k]?) ∧ W.heap.size = w.heap.size := by
  subst hW
  have ne : ∀ {x y : Nat}, x ≠ y → (⟨g, x, none⟩ : Addr) ≠ ⟨g, y, none⟩ := fun h e => h (by injection e)
  refine ⟨?_, ?_, ?_, ?_, fun q q0 q1 q2 q3 => ?_, fun q => ?_, fun k hk => ?_, ?_⟩
  · rw [World.cell?_setCell_other _ _ _ _ (ne (by omega)), World.cell?_setCell_other _ _ _ _ (ne (by omega)), World.cell?_setCell_other _ _ _ _ (ne (by omega))]
    exact World.cell?_setCell_same _ _ _ h0
  · rw [World.cell?_setCell_other _ _ _ _ (ne (by omega)), World.cell?_setCell_other _ _ _ _ (ne (by omega))]
    exact World.cell?_setCell_same _ _ _ (by rw [World.cell?_setCell_other _ _ _ _ (ne (by omega))]; exact h1)
  · rw [World.cell?_setCell_other _ _ _ _ (ne (by omega))]
    exact World.cell?_setCell_same _ _ _ (by rw [World.cell?_setCell_other _ _ _ _ (ne (by omega)), World.cell?_setCell_other _ _ _ _ (ne (by omega))]; exact h2)
  · exact World.cell?_setCell_same _ _ _ (by rw [World.cell?_setCell_other _ _ _ _ (ne (by omega)), World.cell?_setCell_other _ _ _ _ (ne (by omega)), World.cell?_setCell_other _ _ _ _ (ne (by omega))]; exact h3)
  · rw [World.cell?_setCell_other _ _ _ _ (ne (by omega)), World.cell?_setCell_other _ _ _ _ (ne (by omega)), World.cell?_setCell_other _ _ _ _ (ne (by omega)), World.cell?_setCell_other _ _ _ _ (ne (by omega))]
  · rw [World.frozen?_setCell, World.frozen?_setCell, World.frozen?_setCell, World.frozen?_setCell]
  · exact (Below.heap_setCell _ _ _ _ hk).trans ((Below.heap_setCell _ _ _ _ hk).trans ((Below.heap_setCell _ _ _ _ hk).trans (Below.heap_setCell _ _ _ _ hk)))
  · simp [World.setCell]
theorem info_row : (Try.prog.info? 70).map (fun i => (i.zero, i.size, i.bytes)) = some (some (.agg #[.string ⟨#[]⟩, .int .i64 0, .int .i64 0, .slice none 0 0]), 4, 56) := by kernel_rfl
/-- the cells of row m of block B, the terms in a block behind it -/
def RowIs (w : World) (B m : Nat) (r : R4) : Prop := w.cell? ⟨B, m * 4, none⟩ = some (.string r.1) ∧ w.cell? ⟨B, m * 4 + 1, none⟩ = some (.int .i64 r.2.1) ∧ w.cell? ⟨B, m * 4 + 2, none⟩ = some (.int .i64 r.2.2.1) ∧ ∃ sv, w.cell? ⟨B, m * 4 + 3, none⟩ = some sv ∧ TermsAt w sv r.2.2.2 ∧ ∀ g, sv.ownBlock = some g → B < g
theorem RowIs.later {w w' : World} {B m : Nat} {r : R4} (h : RowIs w B m r) (hB : B < w.heap.size) (hb : Below w.heap.size w w') : RowIs w' B m r := by
  obtain ⟨h1, h2, h3, sv, h4, h5, h6⟩ := h
  exact ⟨(hb.cell (p := ⟨B, _, none⟩) hB).trans h1, (hb.cell (p := ⟨B, _, none⟩) hB).trans h2, (hb.cell (p := ⟨B, _, none⟩) hB).trans h3, sv, (hb.cell (p := ⟨B, _, none⟩) hB).trans h4, h5.later hb, h6⟩
theorem RowIs.put {w W : World} {B m : Nat} {r : R4} (h : RowIs w B m r) (hs : W.heap.size = w.heap.size) (hc : ∀ i, i < 4 → W.cell? ⟨B, m * 4 + i, none⟩ = w.cell? ⟨B, m * 4 + i, none⟩) (hk : ∀ k, k ≠ B → W.heap[k]? = w.heap[k]?) : RowIs W B m r := by
  obtain ⟨h1, h2, h3, sv, h4, h5, h6⟩ := h
  exact ⟨(hc 0 (by omega)).trans h1, (hc 1 (by omega)).trans h2, (hc 2 (by omega)).trans h3, sv, (hc 3 (by omega)).trans h4, h5.kept (by omega) (fun g hg _ => hk g (by have := h6 g hg; omega)), h6⟩
/-- rows of the program's own, all blocks from B on -/
def RowsIn (w : World) (v : Value) (R : List R4) (B : Nat) : Prop := ∃ A cap, v = .slice A R.length cap ∧ (0 < R.length → ∃ g, A = some ⟨g, 0, none⟩ ∧ B ≤ g ∧ g < w.heap.size ∧ ∀ j, j < R.length → RowIs w g j (R.getD j r4d))
theorem RowsIn.at {w : World} {v : Value} {R : List R4} {B : Nat} (h : RowsIn w v R B) : RowsAt w v R := by
  obtain ⟨A, cap, rfl, h2⟩ := h
  refine ⟨A, cap, rfl, fun k => ?_⟩
  obtain ⟨g, rfl, _, hg, hc⟩ := h2 k
  refine ⟨g, 0, rfl, hg, fun j hj => ?_⟩
  obtain ⟨h1, h2, h3, sv, h4, h5, _⟩ := hc j hj
  rw [Nat.zero_add]
  exact ⟨h1, h2, h3, sv, h4, h5⟩
theorem RowsIn.kept {w w' : World} {v : Value} {R : List R4} {B : Nat} (h : RowsIn w v R B) (hs : w.heap.size ≤ w'.heap.size) (hb : ∀ g, B ≤ g → g < w.heap.size → w'.heap[g]? = w.heap[g]?) : RowsIn w' v R B := by
  obtain ⟨A, cap, rfl, h2⟩ := h
  refine ⟨A, cap, rfl, fun k => ?_⟩
  obtain ⟨g, rfl, hB, hg, hc⟩ := h2 k
  have e := hb g hB hg
  refine ⟨g, rfl, hB, Nat.lt_of_lt_of_le hg hs, fun j hj => ?_⟩
  obtain ⟨h1, h2, h3, sv, h4, h5, h6⟩ := hc j hj
  exact ⟨(World.cell?_of_block (a := ⟨g, _, none⟩) e).trans h1, (World.cell?_of_block (a := ⟨g, _, none⟩) e).trans h2, (World.cell?_of_block (a := ⟨g, _, none⟩) e).trans h3, sv, (World.cell?_of_block (a := ⟨g, _, none⟩) e).trans h4, h5.kept hs (fun k hk hlt => hb k (by have := h6 k hk; omega) hlt), h6⟩
/-- what a call that makes rows leaves -/
def RowsPost (w : World) (R : List R4) (e : Ending) (w' : World) : Prop := ∃ v, e = .returned v ∧ RowsIn w' v R w.heap.size ∧ Below w.heap.size w w'
set_option maxRecDepth 100000 in
set_option maxHeartbeats 8000000 in
theorem toRowS_any (x : Value) (R : List R4) (hl : R.length ≤ 1048576) (hls : ∀ j, j < R.length → (R.getD j r4d).2.2.2.length ≤ 1048576) (w : World) (hx : RowsAt w x R) : Calls Try.prog 42 #[x] w (RowsPost w R) := by
  obtain ⟨i0, hi, hzA, hzB, hzC⟩ := info_parts info_row
  obtain ⟨A, ca, rfl, ha⟩ := hx
  unfold RowsPost
  generalize hL : R.length = n at *
  have HL := hide hL
  have HLS := hide hls
  have HA := hide ha
  clear hL hls ha
  go_enter Try.func42, Try.ntmps42
  go_wp2_with (at_make; refine wpList_make_full _ rfl _ _ 42 rfl w.heap.size 70 i0 (.agg #[.string ⟨#[]⟩, .int .i64 0, .int .i64 0, .slice none 0 0]) 4 Try.underlying42 hi hzA hzB .i64 .i64 _ _ n rfl rfl rfl rfl (by rw [hzC]; omega) (by unfold maxLen; omega) (Nat.le_refl _) ?_; intro w0 hown0 hgrow0)
  obtain ⟨hex, hfz, hg0⟩ := own_exist hown0
  have hb0 : Below w.heap.size w w0 := (Below.refl _ _).grown hgrow0 (Nat.le_refl _) (fun k hk => by cases hk)
  clear hown0 hgrow0
  have HE0 := hide hex
  have HF0 := hide hfz
  clear hex hfz
  go_loopw [4] (fun iv wr => ∃ j : Nat, j ≤ n ∧ iv = .int .i64 j ∧ Below w.heap.size w wr ∧ w.heap.size < wr.heap.size ∧ Hid (∀ q, q < n * 4 → ∃ u, wr.cell? ⟨w.heap.size, q, none⟩ = some u) ∧ Hid (∀ q, wr.frozen? ⟨w.heap.size, q, none⟩ = false) ∧ Hid (∀ m, m < j → RowIs wr w.heap.size m (R.getD m r4d))) (fun iv _ => n - (intOf iv).toNat)
  case atStart => exact ⟨0, by omega, rfl, hb0, hg0, HE0, HF0, hide (fun m hm => by omega)⟩
  case round =>
    obtain ⟨j, hj, rfl, hbw, hgw, HE, HF, HD⟩ := hrel
    clear hb0 hg0 HE0 HF0
    by_cases hjn : j < n
    · obtain ⟨g, o, rfl, hg, hcg⟩ := HA.out (by omega)
      obtain ⟨a1, a2, a3, sv, a4, a5⟩ := hcg j hjn
      have c1 := (hbw.cell (p := ⟨g, o + j * 4, none⟩) hg).trans a1
      have c2 := (hbw.cell (p := ⟨g, o + j * 4 + 1, none⟩) hg).trans a2
      have c3 := (hbw.cell (p := ⟨g, o + j * 4 + 2, none⟩) hg).trans a3
      have c4 := (hbw.cell (p := ⟨g, o + j * 4 + 3, none⟩) hg).trans a4
      have hlj := HLS.out j hjn
      obtain ⟨q, hq⟩ : ∃ q, R.getD j r4d = q := ⟨_, rfl⟩
      rw [hq] at c1 c2 c3 a5 hlj
      have HT := hide (toRow_any q.1 q.2.1 q.2.2.1 sv q.2.2.2 hlj wr (a5.later hbw))
      obtain ⟨As, cs, rfl, _⟩ := a5
      have HQ := hide hq
      have hbs := hbw.size
      have HB := hide hbw
      clear hq a1 a2 a3 a4 hcg hlj
      go_wp2_with fail
      (with_reducible refine HT.out.mono ?_)
      rintro e w1 ⟨v, rfl, hv, hgv, hb1⟩
      obtain ⟨A1, cc1, e1⟩ := hv.shape
      subst e1
      have hb1s := hb1.size
      obtain ⟨u0, i0'⟩ := HE.out (j * 4) (by omega)
      obtain ⟨u1, i1'⟩ := HE.out (j * 4 + 1) (by omega)
      obtain ⟨u2, i2'⟩ := HE.out (j * 4 + 2) (by omega)
      obtain ⟨u3, i3'⟩ := HE.out (j * 4 + 3) (by omega)
      have i4 := (hb1.cell (p := ⟨w.heap.size, j * 4, none⟩) hgw).trans i0'
      have i5 := (hb1.cell (p := ⟨w.heap.size, j * 4 + 1, none⟩) hgw).trans i1'
      have i6 := (hb1.cell (p := ⟨w.heap.size, j * 4 + 2, none⟩) hgw).trans i2'
      have i7 := (hb1.cell (p := ⟨w.heap.size, j * 4 + 3, none⟩) hgw).trans i3'
      have j0 := (hb1.frozen (p := ⟨w.heap.size, j * 4, none⟩) hgw).trans (HF.out _)
      have j1 := (hb1.frozen (p := ⟨w.heap.size, j * 4 + 1, none⟩) hgw).trans (HF.out _)
      have j2 := (hb1.frozen (p := ⟨w.heap.size, j * 4 + 2, none⟩) hgw).trans (HF.out _)
      have j3 := (hb1.frozen (p := ⟨w.heap.size, j * 4 + 3, none⟩) hgw).trans (HF.out _)
      have HV := hide hv
      have HG := hide hgv
      have HB1 := hide hb1
      clear i0' i1' i2' i3' hv hgv hb1 c1 c2 c3 c4
      go_wp2
      go_roundw
      case rel =>
        obtain ⟨p0, p1, p2, p3, px, pf, pk, ps⟩ := put4 (.string q.1) (.int .i64 q.2.1) (.int .i64 q.2.2.1) (.slice A1 q.2.2.2.length cc1) i4 i5 i6 i7 rfl
        have hb1 := HB1.out
        have bw1 : Below w.heap.size w w1 := HB.out.trans (hb1.mono (by omega))
        refine ⟨j + 1, by omega, by go_num, ?_, by simp [World.setCell]; omega, hide ?_, hide ?_, hide ?_⟩
        · exact (((bw1.setCell (p := ⟨w.heap.size, j * 4, none⟩) (Nat.le_refl _) _).setCell (p := ⟨w.heap.size, j * 4 + 1, none⟩) (Nat.le_refl _) _).setCell (p := ⟨w.heap.size, j * 4 + 2, none⟩) (Nat.le_refl _) _).setCell (p := ⟨w.heap.size, j * 4 + 3, none⟩) (Nat.le_refl _) _
        · intro z hz
          by_cases q0 : z = j * 4
          · subst q0; exact ⟨_, p0⟩
          by_cases q1 : z = j * 4 + 1
          · subst q1; exact ⟨_, p1⟩
          by_cases q2 : z = j * 4 + 2
          · subst q2; exact ⟨_, p2⟩
          by_cases q3 : z = j * 4 + 3
          · subst q3; exact ⟨_, p3⟩
          obtain ⟨u, hu⟩ := HE.out z hz
          exact ⟨u, (px z q0 q1 q2 q3).trans ((hb1.cell (p := ⟨w.heap.size, z, none⟩) hgw).trans hu)⟩
        · intro z
          exact (pf z).trans ((hb1.frozen (p := ⟨w.heap.size, z, none⟩) hgw).trans (HF.out z))
        · intro m hm
          by_cases e : m = j
          · subst e
            rw [HQ.out]
            exact ⟨p0, p1, p2, _, p3, HV.out.at.kept (by omega) (fun g hg _ => pk g (by have := HG.out g hg; omega)), fun g hg => by have := HG.out g hg; omega⟩
          · exact ((HD.out m (by omega)).later hgw hb1).put ps (fun i hi => px _ (by omega) (by omega) (by omega) (by omega)) pk
      case measure => simp [intOf]; omega
    · obtain rfl : j = n := by omega
      have HB := hide hbw
      clear hbw
      go_wp2
      go_ret
      exact ⟨_, rfl, ⟨some ⟨w.heap.size, 0, none⟩, j, by rw [HL.out]; rfl, fun _ => ⟨w.heap.size, rfl, Nat.le_refl _, hgw, fun m hm => HD.out m (by rw [HL.out] at hm; exact hm)⟩⟩, HB.out⟩
theorem RowsIn.shape {w : World} {v : Value} {R : List R4} {B : Nat} (h : RowsIn w v R B) : ∃ A c, v = .slice A R.length c := by
  obtain ⟨A, c, rfl, _⟩ := h
  exact ⟨A, c, rfl⟩
theorem RowsAt.shape {w : World} {v : Value} {R : List R4} (h : RowsAt w v R) : ∃ A c, v = .slice A R.length c := by
  obtain ⟨A, c, rfl, _⟩ := h
  exact ⟨A, c, rfl⟩
/-- what a call that makes a system leaves -/
def SysOut (w : World) (R : List R4) (e : Ending) (w' : World) : Prop := ∃ v, e = .returned (.agg #[v]) ∧ RowsAt w' v R ∧ Below w.heap.size w w'
set_option maxRecDepth 100000 in
set_option maxHeartbeats 8000000 in
theorem toSystem_any (x : Value) (R : List R4) (hl : R.length ≤ 1048576) (hls : ∀ j, j < R.length → (R.getD j r4d).2.2.2.length ≤ 1048576) (w : World) (hx : RowsAt w x R) : Calls Try.prog 19 #[.agg #[x]] w (SysOut w R) := by
  have HZ := hide (fun W (hW : Below w.heap.size w W) => toRowS_any x R hl hls W (hx.later hW))
  obtain ⟨A, ca, rfl, _⟩ := hx
  clear hls
  go_enter Try.func19, Try.ntmps19
  go_wp2_with fail
  (with_reducible refine (HZ.out _ (by repeat (first | (with_reducible refine bl_set ?_ (by simp <;> omega) _) | (with_reducible refine bl_alloc ?_ (Nat.le_refl _) _) | (with_reducible refine Below.drew ?_) | (with_reducible assumption) | (with_reducible exact Below.refl _ _)))).mono ?_)
  rintro e w1 ⟨v, rfl, hv, hb1⟩
  obtain ⟨A1, c1, e1⟩ := hv.shape
  subst e1
  obtain ⟨hc1, hf1⟩ := bcell hb1
  have hw1 : Below w.heap.size w w1 := bl_call (by repeat (first | (with_reducible refine bl_set ?_ (by simp <;> omega) _) | (with_reducible refine bl_alloc ?_ (Nat.le_refl _) _) | (with_reducible refine Below.drew ?_) | (with_reducible assumption) | (with_reducible exact Below.refl _ _))) hb1
  have hz1 := hb1.size
  simp at hz1
  have m1 : w.heap.size < w1.heap.size := by omega
  have m2 : w.heap.size + 1 < w1.heap.size := by omega
  have m3 : w.heap.size + 1 + 1 < w1.heap.size := by omega
  have HV := hide hv
  clear hv hb1
  go_wp2
  refine bodyPost_ret (v := .agg #[.slice A1 R.length c1]) ?_ rfl ⟨_, rfl, (HV.out.kept (by simp [World.setCell]) (fun g hg hlt => ?_)).at, (by repeat (first | (with_reducible refine bl_set ?_ (by simp <;> omega) _) | (with_reducible refine bl_alloc ?_ (Nat.le_refl _) _) | (with_reducible refine Below.drew ?_) | (with_reducible assumption) | (with_reducible exact Below.refl _ _)))⟩
  · simp (maxDischargeDepth := 9) [results, Try.results19, go_sem, *]
  · simp at hg
    have n1 : g ≠ w.heap.size + 1 := by omega
    have n2 : g ≠ w.heap.size + 1 + 1 := by omega
    first | (exact (Below.heap_setCell _ _ _ _ n1).trans (Below.heap_setCell _ _ _ _ n2)) | (exact Below.heap_setCell _ _ _ _ n1)
set_option maxRecDepth 100000 in
set_option maxHeartbeats 4000000 in
theorem eqRow_any (s : ByteArray) (a b : Int) (x y : Value) (L : List T3) (hl : L.length ≤ 1048576) (w : World) (hx : TermsAt w x L) (hy : TermsAt w y L) : Calls Try.prog 68 #[.agg #[.string s, .int .i64 a, .int .i64 b, x], .agg #[.string s, .int .i64 a, .int .i64 b, y]] w fun e w' => e = .returned (.bool true) ∧ Below w.heap.size w w' := by
  have HE := hide (fun W (hW : Below w.heap.size w W) => eqLinear_any a b x y L W (hx.later hW) (hy.later hW) (by omega))
  obtain ⟨A, ca, rfl, _⟩ := hx
  obtain ⟨B, cb, rfl, _⟩ := hy
  have h3 : (s.toList != s.toList) = false := ba_bne rfl
  go_enter Try.func68, Try.ntmps68
  go_wp2_with fail
  (with_reducible refine (HE.out _ (by repeat (first | (with_reducible refine bl_set ?_ (by simp <;> omega) _) | (with_reducible refine bl_alloc ?_ (Nat.le_refl _) _) | (with_reducible refine Below.drew ?_) | (with_reducible assumption) | (with_reducible exact Below.refl _ _)))).mono ?_)
  rintro e w1 ⟨rfl, hb1⟩
  have hw1 : Below w.heap.size w w1 := bl_call (by repeat (first | (with_reducible refine bl_set ?_ (by simp <;> omega) _) | (with_reducible refine bl_alloc ?_ (Nat.le_refl _) _) | (with_reducible refine Below.drew ?_) | (with_reducible assumption) | (with_reducible exact Below.refl _ _))) hb1
  go_wp2
  go_ret
  exact ⟨rfl, hw1⟩
set_option maxRecDepth 100000 in
set_option maxHeartbeats 4000000 in
theorem eqRowS_any (x y : Value) (R : List R4) (hl : R.length ≤ 1048576) (hls : ∀ j, j < R.length → (R.getD j r4d).2.2.2.length ≤ 1048576) (w : World) (hx : RowsAt w x R) (hy : RowsAt w y R) : Calls Try.prog 45 #[x, y] w fun e w' => e = .returned (.bool true) ∧ Below w.heap.size w w' := by
  obtain ⟨A, ca, rfl, ha⟩ := hx
  obtain ⟨B, cb, rfl, hb⟩ := hy
  generalize hn : R.length = n at *
  have hne : ((n : Int) != (n : Int)) = false := by simp
  have HLS := hide hls
  clear hls
  go_enter Try.func45, Try.ntmps45
  go_wp2
  go_loopw [5] (fun iv wr => ∃ k : Nat, k ≤ n ∧ iv = .int .i64 k ∧ Below w.heap.size w wr) (fun iv _ => n - (intOf iv).toNat)
  case atStart => exact ⟨0, by omega, rfl, Below.refl _ _⟩
  case round =>
    obtain ⟨k, hk, rfl, hbw⟩ := hrel
    by_cases hkn : k < n
    · obtain ⟨g, o, rfl, hg, hcg⟩ := ha (by omega)
      obtain ⟨f, p, rfl, hf, hcf⟩ := hb (by omega)
      obtain ⟨a1, a2, a3, sv, a4, a5⟩ := hcg k hkn
      obtain ⟨b1, b2, b3, tv, b4, b5⟩ := hcf k hkn
      have h1 := (hbw.cell (p := ⟨g, o + k * 4, none⟩) hg).trans a1
      have h2 := (hbw.cell (p := ⟨g, o + k * 4 + 1, none⟩) hg).trans a2
      have h3 := (hbw.cell (p := ⟨g, o + k * 4 + 2, none⟩) hg).trans a3
      have h4 := (hbw.cell (p := ⟨g, o + k * 4 + 3, none⟩) hg).trans a4
      have h5 := (hbw.cell (p := ⟨f, p + k * 4, none⟩) hf).trans b1
      have h6 := (hbw.cell (p := ⟨f, p + k * 4 + 1, none⟩) hf).trans b2
      have h7 := (hbw.cell (p := ⟨f, p + k * 4 + 2, none⟩) hf).trans b3
      have h8 := (hbw.cell (p := ⟨f, p + k * 4 + 3, none⟩) hf).trans b4
      have hlk := HLS.out k hkn
      have HE := hide (fun W (hW : Below wr.heap.size wr W) => eqRow_any (R.getD k r4d).1 (R.getD k r4d).2.1 (R.getD k r4d).2.2.1 sv tv (R.getD k r4d).2.2.2 hlk W ((a5.later hbw).later hW) ((b5.later hbw).later hW))
      obtain ⟨As, cs, rfl, _⟩ := a5
      obtain ⟨At, ct, rfl, _⟩ := b5
      generalize R.getD k r4d = q at *
      obtain ⟨s, a, b, L⟩ := q
      simp only at h1 h2 h3 h4 h5 h6 h7 h8 HE
      have hgr : g < wr.heap.size := Nat.lt_of_lt_of_le hg hbw.size
      have hfr : f < wr.heap.size := Nat.lt_of_lt_of_le hf hbw.size
      clear ha hb hcg hcf a1 a2 a3 a4 b1 b2 b3 b4 hlk
      go_wp2
      refine wp_region_quiet_below (by kernel_rfl) (by kernel_rfl) ?_
      repeat (first | go_big_quiet_step (((go_at_call 68; with_reducible exact Calls.regrown_of (HE.out _ (below_regrown _ _ _))))) | quiet_step (((go_at_call 68; with_reducible exact Calls.regrown_of (HE.out _ (below_regrown _ _ _))))))
      refine wpQuiet_nil ?_
      intro w1 hw1
      obtain ⟨pq, hpq⟩ := hw1
      have hb1 := below_of hpq
      clear hpq pq
      have hz4 := hb1.size
      (try simp at hz4)
      obtain ⟨hc1, hf1⟩ := bcell hb1
      have hw1 : Below w.heap.size w w1 := bl_call (by repeat (first | exact Below.refl _ _ | assumption | (refine bl_alloc ?_ (Nat.le_refl _) _) | (refine bl_set ?_ (by simp <;> omega) _))) hb1
      have hz1 : w.heap.size + 0 ≤ w1.heap.size := (by have hq := hb1.size; have hr := hw1.size; (try simp at hq); omega)
      go_wp2
      go_roundw
      case rel => exact ⟨k + 1, by omega, by go_num, hw1⟩
      case measure => simp [intOf]; omega
    · obtain rfl : k = n := by omega
      go_wp2
      go_ret
      exact ⟨rfl, hbw⟩
set_option maxRecDepth 100000 in
set_option maxHeartbeats 4000000 in
theorem eqSystem_any (x y : Value) (R : List R4) (hl : R.length ≤ 1048576) (hls : ∀ j, j < R.length → (R.getD j r4d).2.2.2.length ≤ 1048576) (w : World) (hx : RowsAt w x R) (hy : RowsAt w y R) : Calls Try.prog 21 #[.agg #[x], .agg #[y]] w fun e w' => e = .returned (.bool true) ∧ Below w.heap.size w w' := by
  have HE := hide (fun W (hW : Below w.heap.size w W) => eqRowS_any x y R hl hls W (hx.later hW) (hy.later hW))
  obtain ⟨A, ca, rfl, _⟩ := hx
  obtain ⟨B, cb, rfl, _⟩ := hy
  clear hls
  go_enter Try.func21, Try.ntmps21
  go_wp2_with fail
  (with_reducible refine (HE.out _ (by repeat (first | (with_reducible refine bl_set ?_ (by simp <;> omega) _) | (with_reducible refine bl_alloc ?_ (Nat.le_refl _) _) | (with_reducible refine Below.drew ?_) | (with_reducible assumption) | (with_reducible exact Below.refl _ _)))).mono ?_)
  rintro e w1 ⟨rfl, hb1⟩
  have hw1 : Below w.heap.size w w1 := bl_call (by repeat (first | (with_reducible refine bl_set ?_ (by simp <;> omega) _) | (with_reducible refine bl_alloc ?_ (Nat.le_refl _) _) | (with_reducible refine Below.drew ?_) | (with_reducible assumption) | (with_reducible exact Below.refl _ _))) hb1
  go_wp2
  go_ret
  exact ⟨rfl, hw1⟩
end Go.Proofs.Ythojgmhionekbaa
