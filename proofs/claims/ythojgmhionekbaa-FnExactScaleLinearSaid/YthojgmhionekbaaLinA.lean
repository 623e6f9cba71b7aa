/-
  CONTRACTS of the laws' helpers on expressions that came in (szTerm, szTermS, szLinear, toTerm, toTermS, toLinear). Conditions: what the slices hold.
-/
import Derived.Test.YthojgmhionekbaaLinIn
import Derived.OwnWalk
namespace Go.Proofs.Ythojgmhionekbaa
open Go.RowKit Go.Sort
set_option linter.unusedVariables false
attribute [local go_sem] cell_grow frozen_grow
/-- what a count of room leaves: less than nothing; or the room that is left, and the terms were no more than the room -/
def SzPost (n left : Int) (w : World) (e : Ending) (w' : World) : Prop := ∃ r : Int, e = .returned (.int .i64 r) ∧ (r = -1 ∨ (0 ≤ r ∧ r ≤ left ∧ n ≤ left)) ∧ Below w.heap.size w w'
set_option maxRecDepth 100000 in
set_option maxHeartbeats 4000000 in
theorem szTerm_any (t : T3) (left : Int) (h0 : 0 ≤ left) (h1 : left ≤ 1048576) (hs : t.1.size ≤ maxLen) (w : World) : Calls Try.prog 59 #[.agg #[.string t.1, .int .i64 t.2.1, .int .i64 t.2.2], .int .i64 left] w (SzPost 0 left w) := by
  obtain ⟨s, a, b⟩ := t
  simp only at hs ⊢
  simp only [maxLen] at hs
  by_cases h : left - s.size < 0
  · go_enter Try.func59, Try.ntmps59
    go_wp2
    go_ret
    exact ⟨-1, rfl, .inl rfl, (by repeat (first | exact Below.refl _ _ | assumption | (refine bl_alloc ?_ (Nat.le_refl _) _) | (refine bl_set ?_ (by simp <;> omega) _)))⟩
  · go_enter Try.func59, Try.ntmps59
    go_wp2
    go_ret
    exact ⟨left - s.size, rfl, .inr ⟨by omega, by omega, by omega⟩, (by repeat (first | exact Below.refl _ _ | assumption | (refine bl_alloc ?_ (Nat.le_refl _) _) | (refine bl_set ?_ (by simp <;> omega) _)))⟩
set_option maxRecDepth 100000 in
set_option maxHeartbeats 4000000 in
theorem szTermS_any (x : Value) (L : List T3) (left : Int) (h0 : 0 ≤ left) (h1 : left ≤ 1048576) (w : World) (hx : TermsAt w x L) (hB : LinB L) : Calls Try.prog 34 #[x, .int .i64 left] w (SzPost L.length left w) := by
  obtain ⟨A, ca, rfl, ha⟩ := hx
  obtain ⟨hn, hE⟩ := hB
  simp only [maxLen] at hn
  generalize hL : L.length = n at *
  by_cases h : left - n < 0
  · go_enter Try.func34, Try.ntmps34
    go_wp2
    go_ret
    exact ⟨-1, rfl, .inl rfl, Below.refl _ _⟩
  · go_enter Try.func34, Try.ntmps34
    go_wp2
    go_loopw [1, 5] (fun lv iv wr => ∃ (k : Nat) (r : Int), k ≤ n ∧ iv = .int .i64 k ∧ lv = .int .i64 r ∧ 0 ≤ r ∧ r ≤ left ∧ Below w.heap.size w wr) (fun _ iv _ => n - (intOf iv).toNat)
    case atStart => exact ⟨0, left - n, by omega, rfl, rfl, by omega, by omega, Below.refl _ _⟩
    case round =>
      obtain ⟨k, r, hk, rfl, rfl, hr0, hr1, hbw⟩ := hrel
      by_cases hkn : k < n
      · obtain ⟨g, o, rfl, hg, hcg⟩ := ha (by omega)
        obtain ⟨a1, a2, a3⟩ := hcg k hkn
        obtain ⟨e1, _⟩ := hE k (by omega)
        have c1 := (hbw.cell (p := ⟨g, o + k * 3, none⟩) hg).trans a1
        have c2 := (hbw.cell (p := ⟨g, o + k * 3 + 1, none⟩) hg).trans a2
        have c3 := (hbw.cell (p := ⟨g, o + k * 3 + 2, none⟩) hg).trans a3
        have HZ := szTerm_any (L.getD k t3d) r hr0 (by omega) e1
        generalize L.getD k t3d = q at *
        have hgr : g < wr.heap.size := Nat.lt_of_lt_of_le hg hbw.size
        have hbs := hbw.size
        clear ha hcg a1 a2 a3 hE
        go_wp2_with fail
        (with_reducible refine (HZ _).mono ?_)
        rintro e w1 ⟨r2, rfl, hr2, hb1⟩
        have hw1 : Below w.heap.size w w1 := hbw.trans (hb1.mono (by omega))
        rcases hr2 with rfl | ⟨q0, q1, _⟩
        · go_wp2
          go_ret
          exact ⟨-1, rfl, .inl rfl, hw1⟩
        · go_wp2
          go_roundw
          case rel => exact ⟨k + 1, r2, by omega, by go_num, rfl, q0, by omega, hw1⟩
          case measure => simp [intOf]; omega
      · obtain rfl : k = n := by omega
        go_wp2
        go_ret
        exact ⟨r, rfl, .inr ⟨hr0, hr1, by omega⟩, hbw⟩
set_option maxRecDepth 100000 in
set_option maxHeartbeats 4000000 in
theorem szLinear_any (a b : Int) (x : Value) (L : List T3) (left : Int) (h0 : 0 ≤ left) (h1 : left ≤ 1048576) (w : World) (hx : TermsAt w x L) (hB : LinB L) : Calls Try.prog 10 #[.agg #[.int .i64 a, .int .i64 b, x], .int .i64 left] w (SzPost L.length left w) := by
  have HZ := hide (fun W (hW : Below w.heap.size w W) => szTermS_any x L left h0 h1 W (hx.later hW) hB)
  obtain ⟨A, ca, rfl, _⟩ := hx
  go_enter Try.func10, Try.ntmps10
  go_wp2_with fail
  (with_reducible refine (HZ.out _ (by repeat (first | exact Below.refl _ _ | assumption | (refine bl_alloc ?_ (Nat.le_refl _) _) | (refine bl_set ?_ (by simp <;> omega) _)))).mono ?_)
  rintro e w1 ⟨r, rfl, hr, hb1⟩
  have hw1 : Below w.heap.size w w1 := bl_call (by repeat (first | exact Below.refl _ _ | assumption | (refine bl_alloc ?_ (Nat.le_refl _) _) | (refine bl_set ?_ (by simp <;> omega) _))) hb1
  rcases hr with rfl | ⟨q0, q1, q2⟩
  · go_wp2
    go_ret
    exact ⟨-1, rfl, .inl rfl, hw1⟩
  · go_wp2
    go_ret
    exact ⟨r, rfl, .inr ⟨q0, q1, q2⟩, hw1⟩
set_option maxRecDepth 100000 in
set_option maxHeartbeats 4000000 in
theorem toTerm_any (s : ByteArray) (a b : Int) (w : World) : Calls Try.prog 60 #[.agg #[.string s, .int .i64 a, .int .i64 b]] w fun e w' => e = .returned (.agg #[.string s, .int .i64 a, .int .i64 b]) ∧ Below w.heap.size w w' := by
  go_enter Try.func60, Try.ntmps60
  go_wp2_with (first | (go_at_call 23; (with_reducible refine (toFrac_any _ _ _).mono ?_); rintro e w1 ⟨rfl, hb1⟩; obtain ⟨hc1, hf1⟩ := bcell hb1; have hw1 : Below w.heap.size w w1 := bl_call (by repeat (first | exact Below.refl _ _ | assumption | (refine bl_alloc ?_ (Nat.le_refl _) _) | (refine bl_set ?_ (by simp <;> omega) _))) hb1; have hz1 : w.heap.size + 3 ≤ w1.heap.size := (by have hq := hb1.size; have hr := hw1.size; (try simp at hq); omega); have hza : w.heap.size < w1.heap.size := (by omega); have hzb : w.heap.size + 1 < w1.heap.size := (by omega); have hzc : w.heap.size + 1 + 1 < w1.heap.size := (by omega); have hz4 := hb1.size; (try simp at hz4); (try have hz5 := Nat.lt_of_succ_le hz4)))
  refine bodyPost_ret (v := .agg #[.string s, .int .i64 a, .int .i64 b]) ?_ rfl ⟨rfl, (by repeat (first | (with_reducible refine bl_set ?_ (by simp <;> omega) _) | (with_reducible refine bl_alloc ?_ (Nat.le_refl _) _) | (with_reducible refine Below.drew ?_) | (with_reducible assumption) | (with_reducible exact Below.refl _ _)))⟩
  simp (maxDischargeDepth := 9) [results, Try.results60, go_sem, *]

theorem info_term : (Try.prog.info? 61).map (fun i => (i.zero, i.size, i.bytes)) = some (some (.agg #[.string ⟨#[]⟩, .int .i64 0, .int .i64 0]), 3, 32) := by kernel_rfl
theorem own_exist {w : World} {B n g c : Nat} {t : TypeId} {xs : List Value} {sz : Nat} (h : w.ownsRow B t sz (.slice (some ⟨g, 0, none⟩) n c) n xs) : (∀ q, q < n * sz → ∃ u, w.cell? ⟨g, q, none⟩ = some u) ∧ (∀ q, w.frozen? ⟨g, q, none⟩ = false) ∧ g < w.heap.size := by
  have hlt := (h.lt g rfl).2
  rcases h.2 with ⟨h', _⟩ | ⟨g', cap', cur, h', hb, hgg, h1, h2, h3, h4⟩
  · simp at h'
  · simp only [Value.slice.injEq, Option.some.injEq, Addr.mk.injEq, and_true, true_and] at h'
    obtain ⟨rfl, rfl⟩ := h'
    refine ⟨fun q hq => ?_, fun q => ug_frozen hgg q, hlt⟩
    have hq2 : q < cur.size := by
      have := Nat.mul_le_mul_right sz h1
      omega
    exact ⟨cur[q], by rw [ug_cell hgg q, Array.getElem?_eq_getElem hq2]⟩
/-- what a call that makes terms leaves -/
def TermsPost (w : World) (L : List T3) (e : Ending) (w' : World) : Prop := ∃ v, e = .returned v ∧ TermsOwn w' v L ∧ (∀ g, v.ownBlock = some g → w.heap.size ≤ g ∧ g < w'.heap.size) ∧ Below w.heap.size w w'
set_option maxRecDepth 100000 in
set_option maxHeartbeats 8000000 in
theorem toTermS_any (x : Value) (L : List T3) (w : World) (hx : TermsAt w x L) (hl : L.length ≤ 1048576) : Calls Try.prog 35 #[x] w (TermsPost w L) := by
  obtain ⟨i0, hi, hzA, hzB, hzC⟩ := info_parts info_term
  obtain ⟨A, ca, rfl, ha⟩ := hx
  generalize hL : L.length = n at *
  go_enter Try.func35, Try.ntmps35
  go_wp2_with (at_make; refine wpList_make_full _ rfl _ _ 30 rfl w.heap.size 61 i0 (.agg #[.string ⟨#[]⟩, .int .i64 0, .int .i64 0]) 3 Try.underlying30 hi hzA hzB .i64 .i64 _ _ n rfl rfl rfl rfl (by rw [hzC]; omega) (by unfold maxLen; omega) (Nat.le_refl _) ?_; intro w0 hown0 hgrow0)
  obtain ⟨hex, hfz, hg0⟩ := own_exist hown0
  have hb0 : Below w.heap.size w w0 := (Below.refl _ _).grown hgrow0 (Nat.le_refl _) (fun k hk => by cases hk)
  clear hown0 hgrow0
  go_loopw [4] (fun iv wr => ∃ j : Nat, j ≤ n ∧ iv = .int .i64 j ∧ Below w.heap.size w wr ∧ w.heap.size < wr.heap.size ∧ (∀ q, q < n * 3 → ∃ u, wr.cell? ⟨w.heap.size, q, none⟩ = some u) ∧ (∀ q, wr.frozen? ⟨w.heap.size, q, none⟩ = false) ∧ ∀ m, m < j → wr.cell? ⟨w.heap.size, m * 3, none⟩ = some (.string (L.getD m t3d).1) ∧ wr.cell? ⟨w.heap.size, m * 3 + 1, none⟩ = some (.int .i64 (L.getD m t3d).2.1) ∧ wr.cell? ⟨w.heap.size, m * 3 + 2, none⟩ = some (.int .i64 (L.getD m t3d).2.2)) (fun iv _ => n - (intOf iv).toNat)
  case atStart => exact ⟨0, by omega, rfl, hb0, hg0, hex, hfz, fun m hm => by omega⟩
  case round =>
    obtain ⟨j, hj, rfl, hbw, hgw, hex, hfz, hdone⟩ := hrel
    clear hb0 hg0
    by_cases hjn : j < n
    · obtain ⟨g, o, rfl, hg, hcg⟩ := ha (by omega)
      obtain ⟨a1, a2, a3⟩ := hcg j hjn
      have c1 := (hbw.cell (p := ⟨g, o + j * 3, none⟩) hg).trans a1
      have c2 := (hbw.cell (p := ⟨g, o + j * 3 + 1, none⟩) hg).trans a2
      have c3 := (hbw.cell (p := ⟨g, o + j * 3 + 2, none⟩) hg).trans a3
      obtain ⟨q, hq⟩ : ∃ q, L.getD j t3d = q := ⟨_, rfl⟩
      rw [hq] at c1 c2 c3
      have HT := toTerm_any q.1 q.2.1 q.2.2
      have HQ := hide hq
      clear hq a1 a2 a3
      have hbs := hbw.size
      have HD := hide hdone
      have HE := hide hex
      have HF := hide hfz
      clear ha hcg hdone hex hfz
      go_wp2_with fail
      (with_reducible refine (HT _).mono ?_)
      rintro e w1 ⟨rfl, hb1⟩
      have hb1s := hb1.size
      obtain ⟨u0, i0'⟩ := HE.out (j * 3) (by omega)
      obtain ⟨u1, i1'⟩ := HE.out (j * 3 + 1) (by omega)
      obtain ⟨u2, i2'⟩ := HE.out (j * 3 + 2) (by omega)
      have i4 := (hb1.cell (p := ⟨w.heap.size, j * 3, none⟩) hgw).trans i0'
      have i5 := (hb1.cell (p := ⟨w.heap.size, j * 3 + 1, none⟩) hgw).trans i1'
      have i6 := (hb1.cell (p := ⟨w.heap.size, j * 3 + 2, none⟩) hgw).trans i2'
      have j0 := (hb1.frozen (p := ⟨w.heap.size, j * 3, none⟩) hgw).trans (HF.out _)
      have j1 := (hb1.frozen (p := ⟨w.heap.size, j * 3 + 1, none⟩) hgw).trans (HF.out _)
      have j2 := (hb1.frozen (p := ⟨w.heap.size, j * 3 + 2, none⟩) hgw).trans (HF.out _)
      clear i0' i1' i2'
      go_wp2
      go_roundw
      case rel =>
        obtain ⟨p0, p1, p2, px⟩ := put3 (.string q.1) (.int .i64 q.2.1) (.int .i64 q.2.2) i4 i5 i6
        refine ⟨j + 1, by omega, by go_num, ?_, by simp [World.setCell]; omega, ?_, ?_, ?_⟩
        · exact (((hbw.trans (hb1.mono (by omega))).setCell (p := ⟨w.heap.size, j * 3, none⟩) (Nat.le_refl _) _).setCell (p := ⟨w.heap.size, j * 3 + 1, none⟩) (Nat.le_refl _) _).setCell (p := ⟨w.heap.size, j * 3 + 2, none⟩) (Nat.le_refl _) _
        · intro z hz
          by_cases q0 : z = j * 3
          · subst q0; exact ⟨_, p0⟩
          by_cases q1 : z = j * 3 + 1
          · subst q1; exact ⟨_, p1⟩
          by_cases q2 : z = j * 3 + 2
          · subst q2; exact ⟨_, p2⟩
          obtain ⟨u, hu⟩ := HE.out z hz
          exact ⟨u, (px z q0 q1 q2).trans ((hb1.cell (p := ⟨w.heap.size, z, none⟩) hgw).trans hu)⟩
        · intro q
          rw [World.frozen?_setCell, World.frozen?_setCell, World.frozen?_setCell]
          exact (hb1.frozen (p := ⟨w.heap.size, q, none⟩) hgw).trans (HF.out q)
        · intro m hm
          by_cases e : m = j
          · subst e
            rw [HQ.out]
            exact ⟨p0, p1, p2⟩
          · obtain ⟨h1, h2, h3⟩ := HD.out m (by omega)
            exact ⟨(px (m * 3) (by omega) (by omega) (by omega)).trans ((hb1.cell (p := ⟨w.heap.size, m * 3, none⟩) hgw).trans h1), (px (m * 3 + 1) (by omega) (by omega) (by omega)).trans ((hb1.cell (p := ⟨w.heap.size, m * 3 + 1, none⟩) hgw).trans h2), (px (m * 3 + 2) (by omega) (by omega) (by omega)).trans ((hb1.cell (p := ⟨w.heap.size, m * 3 + 2, none⟩) hgw).trans h3)⟩
      case measure => simp [intOf]; omega
    · obtain rfl : j = n := by omega
      have HD := hide hdone
      have HF := hide hfz
      clear hdone hfz hex
      go_wp2
      go_ret
      exact ⟨_, rfl, ⟨some ⟨w.heap.size, 0, none⟩, j, by rw [hL]; rfl, fun _ => ⟨w.heap.size, rfl, hgw, fun m hm => HD.out m (by omega), HF.out⟩⟩, fun g hg => by simp [Value.ownBlock] at hg; omega, hbw⟩

/-- what a call that makes an expression leaves -/
def LinOut (w : World) (a b : Int) (L : List T3) (e : Ending) (w' : World) : Prop := ∃ v, e = .returned (.agg #[.int .i64 a, .int .i64 b, v]) ∧ TermsOwn w' v L ∧ (∀ g, v.ownBlock = some g → w.heap.size ≤ g ∧ g < w'.heap.size) ∧ Below w.heap.size w w'
theorem TermsOwn.shape {w : World} {v : Value} {L : List T3} (h : TermsOwn w v L) : ∃ A c, v = .slice A L.length c := by
  obtain ⟨A, c, rfl, _⟩ := h
  exact ⟨A, c, rfl⟩
set_option maxRecDepth 100000 in
set_option maxHeartbeats 8000000 in
theorem toLinear_any (a b : Int) (x : Value) (L : List T3) (w : World) (hx : TermsAt w x L) (hl : L.length ≤ 1048576) : Calls Try.prog 12 #[.agg #[.int .i64 a, .int .i64 b, x]] w (LinOut w a b L) := by
  have HZ := hide (fun W (hW : Below w.heap.size w W) => toTermS_any x L W (hx.later hW) hl)
  obtain ⟨A, ca, rfl, _⟩ := hx
  go_enter Try.func12, Try.ntmps12
  go_wp2_with (first | (go_at_call 23; (with_reducible refine (toFrac_any _ _ _).mono ?_); rintro e w1 ⟨rfl, hb1⟩; obtain ⟨hc1, hf1⟩ := bcell hb1; have hw1 : Below w.heap.size w w1 := bl_call (by repeat (first | exact Below.refl _ _ | assumption | (refine bl_alloc ?_ (Nat.le_refl _) _) | (refine bl_set ?_ (by simp <;> omega) _))) hb1; have hz1 : w.heap.size + 3 ≤ w1.heap.size := (by have hq := hb1.size; have hr := hw1.size; (try simp at hq); omega); have hza : w.heap.size < w1.heap.size := (by omega); have hzb : w.heap.size + 1 < w1.heap.size := (by omega); have hzc : w.heap.size + 1 + 1 < w1.heap.size := (by omega); have hz4 := hb1.size; (try simp at hz4); (try have hz5 := Nat.lt_of_succ_le hz4); obtain ⟨wF, rfl⟩ : ∃ wF : World, wF = w1 := ⟨_, rfl⟩))
  (with_reducible refine (HZ.out _ (by repeat (first | (with_reducible refine bl_set ?_ (by simp <;> omega) _) | (with_reducible refine bl_alloc ?_ (Nat.le_refl _) _) | (with_reducible refine Below.drew ?_) | (with_reducible assumption) | (with_reducible exact Below.refl _ _)))).mono ?_)
  rintro e w1 ⟨v, rfl, hv, hgv, hb1⟩
  obtain ⟨A1, c1, e1⟩ := hv.shape
  subst e1
  obtain ⟨hc1, hf1⟩ := bcell hb1
  have hw1 : Below w.heap.size w w1 := bl_call (by repeat (first | (with_reducible refine bl_set ?_ (by simp <;> omega) _) | (with_reducible refine bl_alloc ?_ (Nat.le_refl _) _) | (with_reducible refine Below.drew ?_) | (with_reducible assumption) | (with_reducible exact Below.refl _ _))) hb1
  have hz1 := hb1.size
  simp at hz1
  have m1 : w.heap.size < w1.heap.size := by omega
  have m2 : w.heap.size + 1 < w1.heap.size := by omega
  have m3 : w.heap.size + 1 + 1 < w1.heap.size := by omega
  have HV := hide hv
  have HG := hide (fun g hg => by have := hgv g hg; simp at this; exact this)
  clear hv hgv hb1
  go_wp2
  refine bodyPost_ret (v := .agg #[.int .i64 a, .int .i64 b, .slice A1 L.length c1]) ?_ rfl ⟨_, rfl, HV.out.kept (by simp [World.setCell]) (fun g hg hlt => ?_), fun g hg => ?_, (by repeat (first | (with_reducible refine bl_set ?_ (by simp <;> omega) _) | (with_reducible refine bl_alloc ?_ (Nat.le_refl _) _) | (with_reducible refine Below.drew ?_) | (with_reducible assumption) | (with_reducible exact Below.refl _ _)))⟩
  · simp (maxDischargeDepth := 9) [results, Try.results12, go_sem, *]
  · have := HG.out g hg
    have n1 : g ≠ w.heap.size + 1 := by omega
    have n2 : g ≠ w.heap.size + 1 + 1 := by omega
    exact (Below.heap_setCell _ _ _ _ n1).trans ((Below.heap_setCell _ _ _ _ n1).trans ((Below.heap_setCell _ _ _ _ n1).trans (Below.heap_setCell _ _ _ _ n2)))
  · have := HG.out g hg
    simp [World.setCell]
    omega
end Go.Proofs.Ythojgmhionekbaa
