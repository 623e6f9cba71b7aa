/-
  CONTRACTS of the laws' helpers on terms and expressions (eqTerm, eqTermS, eqLinear, markTermS, heldTermS, markLinear, heldLinear). Conditions: what the slices hold.
-/
import Derived.Test.YthojgmhionekbaaMark
import Derived.Test.YthojgmhionekbaaFr
namespace Go.Proofs.Ythojgmhionekbaa
open Go.RowKit Go.Sort
set_option linter.unusedVariables false
attribute [local go_sem] cell_grow frozen_grow

abbrev T3 : Type := ByteArray × Int × Int
def t3d : T3 := (⟨#[]⟩, 0, 0)
/-- the terms that a slice holds -/
def TermsAt (w : World) (v : Value) (L : List T3) : Prop := ∃ A cap, v = .slice A L.length cap ∧ (0 < L.length → ∃ g o, A = some ⟨g, o, none⟩ ∧ g < w.heap.size ∧ ∀ j, j < L.length → w.cell? ⟨g, o + j * 3, none⟩ = some (.string (L.getD j t3d).1) ∧ w.cell? ⟨g, o + j * 3 + 1, none⟩ = some (.int .i64 (L.getD j t3d).2.1) ∧ w.cell? ⟨g, o + j * 3 + 2, none⟩ = some (.int .i64 (L.getD j t3d).2.2))
/-- .. in a row of the program's own -/
def TermsOwn (w : World) (v : Value) (L : List T3) : Prop := ∃ A cap, v = .slice A L.length cap ∧ (0 < L.length → ∃ g, A = some ⟨g, 0, none⟩ ∧ g < w.heap.size ∧ (∀ j, j < L.length → w.cell? ⟨g, j * 3, none⟩ = some (.string (L.getD j t3d).1) ∧ w.cell? ⟨g, j * 3 + 1, none⟩ = some (.int .i64 (L.getD j t3d).2.1) ∧ w.cell? ⟨g, j * 3 + 2, none⟩ = some (.int .i64 (L.getD j t3d).2.2)) ∧ ∀ j, w.frozen? ⟨g, j, none⟩ = false)
theorem TermsOwn.at {w : World} {v : Value} {L : List T3} (h : TermsOwn w v L) : TermsAt w v L := by
  obtain ⟨A, cap, rfl, h2⟩ := h
  refine ⟨A, cap, rfl, fun k => ?_⟩
  obtain ⟨g, e, hg, hc, hf⟩ := h2 k
  refine ⟨g, 0, e, hg, fun j hj => ?_⟩
  have := hc j hj
  rw [Nat.zero_add]
  exact this
theorem TermsAt.kept {w w' : World} {v : Value} {L : List T3} (h : TermsAt w v L) (hs : w.heap.size ≤ w'.heap.size) (hb : ∀ g, v.ownBlock = some g → g < w.heap.size → w'.heap[g]? = w.heap[g]?) : TermsAt w' v L := by
  obtain ⟨A, cap, rfl, h2⟩ := h
  refine ⟨A, cap, rfl, fun k => ?_⟩
  obtain ⟨g, o, rfl, hg, hc⟩ := h2 k
  have e : w'.heap[g]? = w.heap[g]? := hb g rfl hg
  refine ⟨g, o, rfl, Nat.lt_of_lt_of_le hg hs, fun j hj => ?_⟩
  obtain ⟨h1, h2, h3⟩ := hc j hj
  exact ⟨(World.cell?_of_block (a := ⟨g, _, none⟩) e).trans h1, (World.cell?_of_block (a := ⟨g, _, none⟩) e).trans h2, (World.cell?_of_block (a := ⟨g, _, none⟩) e).trans h3⟩
theorem TermsOwn.kept {w w' : World} {v : Value} {L : List T3} (h : TermsOwn w v L) (hs : w.heap.size ≤ w'.heap.size) (hb : ∀ g, v.ownBlock = some g → g < w.heap.size → w'.heap[g]? = w.heap[g]?) : TermsOwn w' v L := by
  obtain ⟨A, cap, rfl, h2⟩ := h
  refine ⟨A, cap, rfl, fun k => ?_⟩
  obtain ⟨g, rfl, hg, hc, hf⟩ := h2 k
  have e : w'.heap[g]? = w.heap[g]? := hb g rfl hg
  refine ⟨g, rfl, Nat.lt_of_lt_of_le hg hs, fun j hj => ?_, fun j => (World.frozen?_of_block (a := ⟨g, j, none⟩) e).trans (hf j)⟩
  obtain ⟨h1, h2, h3⟩ := hc j hj
  exact ⟨(World.cell?_of_block (a := ⟨g, _, none⟩) e).trans h1, (World.cell?_of_block (a := ⟨g, _, none⟩) e).trans h2, (World.cell?_of_block (a := ⟨g, _, none⟩) e).trans h3⟩
theorem TermsAt.later {w w' : World} {v : Value} {L : List T3} (h : TermsAt w v L) (hb : Below w.heap.size w w') : TermsAt w' v L := h.kept hb.size fun g _ hg => hb.block g hg
theorem TermsOwn.later {w w' : World} {v : Value} {L : List T3} (h : TermsOwn w v L) (hb : Below w.heap.size w w') : TermsOwn w' v L := h.kept hb.size fun g _ hg => hb.block g hg
set_option maxRecDepth 100000 in
set_option maxHeartbeats 4000000 in
theorem eqTerm_any (s : ByteArray) (a b : Int) (w : World) : Calls Try.prog 61 #[.agg #[.string s, .int .i64 a, .int .i64 b], .agg #[.string s, .int .i64 a, .int .i64 b]] w fun e w' => e = .returned (.bool true) ∧ Below w.heap.size w w' := by
  have he := eqB_self a b
  have h3 : (s.toList != s.toList) = false := ba_bne rfl
  go_enter Try.func61, Try.ntmps61
  go_wp2_with (first | (go_at_call 33; (with_reducible refine (eqFrac_any _ _ _ _ _).mono ?_); rintro e w1 ⟨rfl, hb1⟩; obtain ⟨hc1, hf1⟩ := bcell hb1; have hw1 : Below w.heap.size w w1 := bl_call (by repeat (first | exact Below.refl _ _ | assumption | (refine bl_alloc ?_ (Nat.le_refl _) _) | (refine bl_set ?_ (by simp <;> omega) _))) hb1; have hz1 : w.heap.size + 2 ≤ w1.heap.size := (by have hq := hb1.size; have hr := hw1.size; (try simp at hq); omega); have hza : w.heap.size < w1.heap.size := (by omega); have hzb : w.heap.size + 1 < w1.heap.size := (by omega); have hz4 := hb1.size; (try simp at hz4); (try have hz5 := Nat.lt_of_succ_le hz4)))
  go_ret
  exact ⟨rfl, (by repeat (first | exact Below.refl _ _ | assumption | (refine bl_alloc ?_ (Nat.le_refl _) _) | (refine bl_set ?_ (by simp <;> omega) _)))⟩
set_option maxRecDepth 100000 in
set_option maxHeartbeats 4000000 in
theorem eqTermS_any (x y : Value) (L : List T3) (w : World) (hx : TermsAt w x L) (hy : TermsAt w y L) (hl : L.length ≤ 2097152) : Calls Try.prog 37 #[x, y] w fun e w' => e = .returned (.bool true) ∧ Below w.heap.size w w' := by
  obtain ⟨A, ca, rfl, ha⟩ := hx
  obtain ⟨B, cb, rfl, hb⟩ := hy
  generalize hn : L.length = n at *
  have hne : ((n : Int) != (n : Int)) = false := by simp
  go_enter Try.func37, Try.ntmps37
  go_wp2
  go_loopw [5] (fun iv wr => ∃ k : Nat, k ≤ n ∧ iv = .int .i64 k ∧ Below w.heap.size w wr) (fun iv _ => n - (intOf iv).toNat)
  case atStart => exact ⟨0, by omega, rfl, Below.refl _ _⟩
  case round =>
    obtain ⟨k, hk, rfl, hbw⟩ := hrel
    by_cases hkn : k < n
    · obtain ⟨g, o, rfl, hg, hcg⟩ := ha (by omega)
      obtain ⟨f, p, rfl, hf, hcf⟩ := hb (by omega)
      obtain ⟨a1, a2, a3⟩ := hcg k hkn
      obtain ⟨b1, b2, b3⟩ := hcf k hkn
      have h1 := (hbw.cell (p := ⟨g, o + k * 3, none⟩) hg).trans a1
      have h2 := (hbw.cell (p := ⟨g, o + k * 3 + 1, none⟩) hg).trans a2
      have h3 := (hbw.cell (p := ⟨g, o + k * 3 + 2, none⟩) hg).trans a3
      have h4 := (hbw.cell (p := ⟨f, p + k * 3, none⟩) hf).trans b1
      have h5 := (hbw.cell (p := ⟨f, p + k * 3 + 1, none⟩) hf).trans b2
      have h6 := (hbw.cell (p := ⟨f, p + k * 3 + 2, none⟩) hf).trans b3
      generalize L.getD k t3d = q at *
      obtain ⟨s, a, b⟩ := q
      simp only at h1 h2 h3 h4 h5 h6
      have hgr : g < wr.heap.size := Nat.lt_of_lt_of_le hg hbw.size
      have hfr : f < wr.heap.size := Nat.lt_of_lt_of_le hf hbw.size
      have HE := eqTerm_any s a b
      clear ha hb hcg hcf a1 a2 a3 b1 b2 b3
      go_wp2
      refine wp_region_quiet_below (by kernel_rfl) (by kernel_rfl) ?_
      repeat (first | go_big_quiet_step (((go_at_call 61; with_reducible exact Calls.regrown_of (HE _)))) | quiet_step (((go_at_call 61; with_reducible exact Calls.regrown_of (HE _)))))
      refine wpQuiet_nil ?_
      intro w1 hw1
      obtain ⟨pq, hpq⟩ := hw1
      have hb1 := below_of hpq
      clear hpq pq
      have hz4 := hb1.size
      (try simp at hz4)
      obtain ⟨hc1, hf1⟩ := bcell hb1
      have hw1 : Below w.heap.size w w1 := bl_call (by repeat (first | exact Below.refl _ _ | assumption | (refine bl_alloc ?_ (Nat.le_refl _) _) | (refine bl_set ?_ (by simp <;> omega) _))) hb1
      have hz1 : w.heap.size + 0 ≤ w1.heap.size := (by have hq := hb1.size; have hr := hw1.size; (try simp at hq); omega)
      go_wp2
      go_roundw
      case rel => exact ⟨k + 1, by omega, by go_num, hw1⟩
      case measure => simp [intOf]; omega
    · obtain rfl : k = n := by omega
      go_wp2
      go_ret
      exact ⟨rfl, hbw⟩
set_option maxRecDepth 100000 in
set_option maxHeartbeats 4000000 in
theorem eqLinear_any (a b : Int) (x y : Value) (L : List T3) (w : World) (hx : TermsAt w x L) (hy : TermsAt w y L) (hl : L.length ≤ 2097152) : Calls Try.prog 14 #[.agg #[.int .i64 a, .int .i64 b, x], .agg #[.int .i64 a, .int .i64 b, y]] w fun e w' => e = .returned (.bool true) ∧ Below w.heap.size w w' := by
  have he := eqB_self a b
  have HX : ∀ w', Below w.heap.size w w' → TermsAt w' x L := fun w' hb => hx.later hb
  have HY : ∀ w', Below w.heap.size w w' → TermsAt w' y L := fun w' hb => hy.later hb
  have HXY := fun w' hb => eqTermS_any x y L w' (HX w' hb) (HY w' hb) hl
  have HZ := hide HXY
  obtain ⟨A, ca, rfl, _⟩ := hx
  obtain ⟨B, cb, rfl, _⟩ := hy
  clear HX HY HXY
  go_enter Try.func14, Try.ntmps14
  go_wp2_with (first | (go_at_call 33; (with_reducible refine (eqFrac_any _ _ _ _ _).mono ?_); rintro e w1 ⟨rfl, hb1⟩; obtain ⟨hc1, hf1⟩ := bcell hb1; have hw1 : Below w.heap.size w w1 := bl_call (by repeat (first | exact Below.refl _ _ | assumption | (refine bl_alloc ?_ (Nat.le_refl _) _) | (refine bl_set ?_ (by simp <;> omega) _))) hb1; have hz1 : w.heap.size + 2 ≤ w1.heap.size := (by have hq := hb1.size; have hr := hw1.size; (try simp at hq); omega); have hza : w.heap.size < w1.heap.size := (by omega); have hzb : w.heap.size + 1 < w1.heap.size := (by omega); have hz4 := hb1.size; (try simp at hz4); (try have hz5 := Nat.lt_of_succ_le hz4)) | (go_at_call 37; (with_reducible refine (HZ.out _ (by assumption)).mono ?_); rintro e w1 ⟨rfl, hb1⟩; obtain ⟨hc1, hf1⟩ := bcell hb1; have hw1 : Below w.heap.size w w1 := bl_call (by repeat (first | exact Below.refl _ _ | assumption | (refine bl_alloc ?_ (Nat.le_refl _) _) | (refine bl_set ?_ (by simp <;> omega) _))) hb1; have hz1 : w.heap.size + 2 ≤ w1.heap.size := (by have hq := hb1.size; have hr := hw1.size; (try simp at hq); omega); have hza : w.heap.size < w1.heap.size := (by omega); have hzb : w.heap.size + 1 < w1.heap.size := (by omega); have hz4 := hb1.size; (try simp at hz4); (try have hz5 := Nat.lt_of_succ_le hz4)))
  go_ret
  exact ⟨rfl, (by repeat (first | exact Below.refl _ _ | assumption | (refine bl_alloc ?_ (Nat.le_refl _) _) | (refine bl_set ?_ (by simp <;> omega) _)))⟩

/-- marks, one after the other -/
def mkT (K j : Nat) : T3 := (mtB (K + 3 * j), (K : Int) + 3 * (j : Int) + 1, (K : Int) + 3 * (j : Int) + 1 + 1)
def marksT (K n : Nat) : List T3 := (List.range n).map fun j => mkT K j
theorem marksT_len (K n : Nat) : (marksT K n).length = n := by simp [marksT]
theorem marksT_at {K n j : Nat} (h : j < n) : (marksT K n).getD j t3d = mkT K j := by
  simp [marksT, List.getD_eq_getElem?_getD, h]
theorem put3 {w : World} {g j : Nat} (a b c : Value) {u0 u1 u2 : Value} (h0 : w.cell? ⟨g, j * 3, none⟩ = some u0) (h1 : w.cell? ⟨g, j * 3 + 1, none⟩ = some u1) (h2 : w.cell? ⟨g, j * 3 + 2, none⟩ = some u2) :
    (((w.setCell ⟨g, j * 3, none⟩ a).setCell ⟨g, j * 3 + 1, none⟩ b).setCell ⟨g, j * 3 + 2, none⟩ c).cell? ⟨g, j * 3, none⟩ = some a ∧ (((w.setCell ⟨g, j * 3, none⟩ a).setCell ⟨g, j * 3 + 1, none⟩ b).setCell ⟨g, j * 3 + 2, none⟩ c).cell? ⟨g, j * 3 + 1, none⟩ = some b ∧ (((w.setCell ⟨g, j * 3, none⟩ a).setCell ⟨g, j * 3 + 1, none⟩ b).setCell ⟨g, j * 3 + 2, none⟩ c).cell? ⟨g, j * 3 + 2, none⟩ = some c ∧
      ∀ q, q ≠ j * 3 → q ≠ j * 3 + 1 → q ≠ j * 3 + 2 → (((w.setCell ⟨g, j * 3, none⟩ a).setCell ⟨g, j * 3 + 1, none⟩ b).setCell ⟨g, j * 3 + 2, none⟩ c).cell? ⟨g, q, none⟩ = w.cell? ⟨g, q, none⟩ := by
  have ne : ∀ {x y : Nat}, x ≠ y → (⟨g, x, none⟩ : Addr) ≠ ⟨g, y, none⟩ := fun h e => h (by injection e)
  refine ⟨?_, ?_, ?_, fun q q0 q1 q2 => ?_⟩
  · rw [World.cell?_setCell_other _ _ _ _ (ne (by omega)), World.cell?_setCell_other _ _ _ _ (ne (by omega))]
    exact World.cell?_setCell_same _ _ _ h0
  · rw [World.cell?_setCell_other _ _ _ _ (ne (by omega))]
    exact World.cell?_setCell_same _ _ _ (by rw [World.cell?_setCell_other _ _ _ _ (ne (by omega))]; exact h1)
  · exact World.cell?_setCell_same _ _ _ (by rw [World.cell?_setCell_other _ _ _ _ (ne (by omega)), World.cell?_setCell_other _ _ _ _ (ne (by omega))]; exact h2)
  · rw [World.cell?_setCell_other _ _ _ _ (ne (by omega)), World.cell?_setCell_other _ _ _ _ (ne (by omega)), World.cell?_setCell_other _ _ _ _ (ne (by omega))]
theorem markText_at (K j : Nat) (h0 : 1 ≤ K) (h1 : K + 3 * j ≤ 1000000000) (w : World) : Calls Try.prog 76 #[.int .i64 ((K : Int) + 3 * (j : Int))] w fun e w' => e = .returned (.string (mtB (K + 3 * j))) ∧ Below w.heap.size w w' := by
  have h := markText_any (K + 3 * j) (by omega) h1 w
  rwa [show ((K + 3 * j : Nat) : Int) = (K : Int) + 3 * (j : Int) by omega] at h
set_option maxRecDepth 100000 in
set_option maxHeartbeats 4000000 in
theorem markTermS_any (x : Value) (L : List T3) (K : Nat) (h0 : 1 ≤ K) (h1 : K ≤ 1000) (w : World) (hx : TermsOwn w x L) (hl : L.length ≤ 2097152) : Calls Try.prog 50 #[x, .int .i64 K] w fun e w' => e = .returned (.int .i64 ((K : Int) + 3 * (L.length : Int))) ∧ TermsOwn w' x (marksT K L.length) ∧ w.grownBy w' x.ownBlock := by
  obtain ⟨A, ca, rfl, ha⟩ := hx
  by_cases hz : L.length = 0
  · rw [hz]
    go_enter Try.func50, Try.ntmps50
    go_wp2
    go_loopw [1, 5] (fun kv iv wr => kv = .int .i64 K ∧ iv = .int .i64 0 ∧ wr = w) (fun _ _ _ => 0)
    case atStart => exact ⟨rfl, rfl, rfl⟩
    case round =>
      obtain ⟨rfl, rfl, rfl⟩ := hrel
      go_wp2
      go_ret
      exact ⟨by simp, ⟨A, ca, rfl, fun h => absurd h (by simp [marksT])⟩, ⟨rfl, rfl, rfl, Nat.le_refl _, fun _ _ _ => rfl⟩⟩
  · obtain ⟨g, rfl, hg, hcg, hfg⟩ := ha (by omega)
    generalize hn : L.length = n at *
    clear ha
    go_enter Try.func50, Try.ntmps50
    go_wp2
    go_loopw [1, 5] (fun kv iv wr => ∃ j : Nat, j ≤ n ∧ kv = .int .i64 ((K : Int) + 3 * (j : Int)) ∧ iv = .int .i64 j ∧ w.grownBy wr (some g) ∧ (∀ m, m < n → wr.cell? ⟨g, m * 3, none⟩ = some (.string (if m < j then mkT K m else L.getD m t3d).1) ∧ wr.cell? ⟨g, m * 3 + 1, none⟩ = some (.int .i64 (if m < j then mkT K m else L.getD m t3d).2.1) ∧ wr.cell? ⟨g, m * 3 + 2, none⟩ = some (.int .i64 (if m < j then mkT K m else L.getD m t3d).2.2)) ∧ ∀ m, wr.frozen? ⟨g, m, none⟩ = false) (fun _ iv _ => n - (intOf iv).toNat)
    case atStart => exact ⟨0, by omega, by simp, rfl, ⟨rfl, rfl, rfl, Nat.le_refl _, fun _ _ _ => rfl⟩, fun m hm => by rw [if_neg (by omega)]; exact hcg m hm, hfg⟩
    case round =>
      obtain ⟨j, hj, rfl, rfl, hgw, hcw, hfw⟩ := hrel
      by_cases hjn : j < n
      · have hgs := hgw.size
        have hgr : g < wr.heap.size := by omega
        obtain ⟨h4, h5, h6⟩ := hcw j hjn
        have HM := markText_at K j h0 (by omega)
        have HC := hide hcw
        have HF := hide hfw
        have f0 := hfw (j * 3)
        have f1 := hfw (j * 3 + 1)
        have f2 := hfw (j * 3 + 2)
        clear hcw hfw hcg hfg
        go_wp2_with fail
        (with_reducible refine (HM _).mono ?_)
        rintro e w1 ⟨rfl, hb1⟩
        have i4 := (hb1.cell (p := ⟨g, j * 3, none⟩) hgr).trans h4
        have i5 := (hb1.cell (p := ⟨g, j * 3 + 1, none⟩) hgr).trans h5
        have i6 := (hb1.cell (p := ⟨g, j * 3 + 2, none⟩) hgr).trans h6
        have j0 := (hb1.frozen (p := ⟨g, j * 3, none⟩) hgr).trans f0
        have j1 := (hb1.frozen (p := ⟨g, j * 3 + 1, none⟩) hgr).trans f1
        have j2 := (hb1.frozen (p := ⟨g, j * 3 + 2, none⟩) hgr).trans f2
        have hb1s := hb1.size
        clear h4 h5 h6 f0 f1 f2
        go_wp2
        go_roundw
        case rel =>
          obtain ⟨c0, c1, c2, cx⟩ := put3 (.string (mtB (K + 3 * j))) (.int .i64 ((K : Int) + 3 * (j : Int) + 1)) (.int .i64 ((K : Int) + 3 * (j : Int) + 1 + 1)) i4 i5 i6
          refine ⟨j + 1, by omega, by go_num, by go_num, ?_, ?_, ?_⟩
          · refine ⟨hb1.os.trans hgw.os, hb1.tape.trans hgw.tape, hb1.output.trans hgw.output, by simp [World.setCell]; omega, fun k hk hne => ?_⟩
            have e1 : ¬ k = g := by intro e; exact hne (by rw [e])
            exact (Below.heap_setCell _ _ _ _ e1).trans ((Below.heap_setCell _ _ _ _ e1).trans ((Below.heap_setCell _ _ _ _ e1).trans ((hb1.block k (by omega)).trans (hgw.block k hk hne))))
          · intro m hm
            by_cases e : m = j
            · subst e
              rw [if_pos (by omega)]
              exact ⟨c0, c1, c2⟩
            · have h8 := HC.out m hm
              have e9 : (if m < j then mkT K m else L.getD m t3d) = (if m < j + 1 then mkT K m else L.getD m t3d) := by
                by_cases e2 : m < j
                · rw [if_pos e2, if_pos (by omega)]
                · rw [if_neg e2, if_neg (by omega)]
              rw [← e9]
              exact ⟨(cx (m * 3) (by omega) (by omega) (by omega)).trans ((hb1.cell (p := ⟨g, m * 3, none⟩) hgr).trans h8.1), (cx (m * 3 + 1) (by omega) (by omega) (by omega)).trans ((hb1.cell (p := ⟨g, m * 3 + 1, none⟩) hgr).trans h8.2.1), (cx (m * 3 + 2) (by omega) (by omega) (by omega)).trans ((hb1.cell (p := ⟨g, m * 3 + 2, none⟩) hgr).trans h8.2.2)⟩
          · intro m
            rw [World.frozen?_setCell, World.frozen?_setCell, World.frozen?_setCell]
            exact (hb1.frozen (p := ⟨g, m, none⟩) hgr).trans (HF.out m)
        case measure => simp [intOf]; omega
      · obtain rfl : j = n := by omega
        go_wp2
        go_ret
        refine ⟨rfl, ⟨_, ca, by rw [marksT_len], fun _ => ⟨g, rfl, by have := hgw.size; omega, fun m hm => ?_, hfw⟩⟩, hgw⟩
        rw [marksT_len] at hm
        have := hcw m hm
        rw [if_pos hm] at this
        rw [marksT_at hm]
        exact this

set_option maxRecDepth 100000 in
set_option maxHeartbeats 4000000 in
theorem heldTermS_any (x : Value) (n K : Nat) (h0 : 1 ≤ K) (h1 : K ≤ 1000) (w : World) (hx : TermsOwn w x (marksT K n)) (hl : n ≤ 2097152) : Calls Try.prog 51 #[x, .int .i64 K] w fun e w' => e = .returned (.int .i64 ((K : Int) + 3 * (n : Int))) ∧ Below w.heap.size w w' := by
  obtain ⟨A, ca, rfl, ha⟩ := hx
  rw [marksT_len] at *
  go_enter Try.func51, Try.ntmps51
  go_wp2
  go_loopw [1, 5] (fun kv iv wr => ∃ j : Nat, j ≤ n ∧ kv = .int .i64 ((K : Int) + 3 * (j : Int)) ∧ iv = .int .i64 j ∧ Below w.heap.size w wr) (fun _ iv _ => n - (intOf iv).toNat)
  case atStart => exact ⟨0, by omega, by simp, rfl, Below.refl _ _⟩
  case round =>
    obtain ⟨j, hj, rfl, rfl, hbw⟩ := hrel
    by_cases hjn : j < n
    · obtain ⟨g, rfl, hg, hcg, _⟩ := ha (by omega)
      obtain ⟨a1, a2, a3⟩ := hcg j hjn
      rw [marksT_at hjn] at a1 a2 a3
      have h4 : wr.cell? ⟨g, j * 3, none⟩ = some (.string (mtB (K + 3 * j))) := (hbw.cell (p := ⟨g, j * 3, none⟩) hg).trans a1
      have h5 : wr.cell? ⟨g, j * 3 + 1, none⟩ = some (.int .i64 ((K : Int) + 3 * (j : Int) + 1)) := (hbw.cell (p := ⟨g, j * 3 + 1, none⟩) hg).trans a2
      have h6 : wr.cell? ⟨g, j * 3 + 1 + 1, none⟩ = some (.int .i64 ((K : Int) + 3 * (j : Int) + 1 + 1)) := (hbw.cell (p := ⟨g, j * 3 + 2, none⟩) hg).trans a3
      have hgs := hbw.size
      have hgr : g < wr.heap.size := by omega
      have h3 : ((mtB (K + 3 * j)).toList != (mtB (K + 3 * j)).toList) = false := ba_bne rfl
      have HM := markText_at K j h0 (by omega)
      clear ha hcg a1 a2 a3
      go_wp2
      refine wp_region_quiet_below (by kernel_rfl) (by kernel_rfl) ?_
      repeat (first | go_big_quiet_step (((go_at_call 76; with_reducible exact Calls.regrown_of (HM _)))) | quiet_step (((go_at_call 76; with_reducible exact Calls.regrown_of (HM _)))))
      refine wpQuiet_nil ?_
      intro w1 hw1
      obtain ⟨pq, hpq⟩ := hw1
      have hb1 := below_of hpq
      clear hpq pq
      have hz4 := hb1.size
      (try simp at hz4)
      obtain ⟨hc1, hf1⟩ := bcell hb1
      have hw1 : Below w.heap.size w w1 := bl_call (by repeat (first | exact Below.refl _ _ | assumption | (refine bl_alloc ?_ (Nat.le_refl _) _) | (refine bl_set ?_ (by simp <;> omega) _))) hb1
      have hz1 : w.heap.size + 0 ≤ w1.heap.size := (by have hq := hb1.size; have hr := hw1.size; (try simp at hq); omega)
      go_wp2
      go_roundw
      case rel => exact ⟨j + 1, by omega, by go_num, by go_num, hw1⟩
      case measure => simp [intOf]; omega
    · obtain rfl : j = n := by omega
      go_wp2
      go_ret
      exact ⟨rfl, hbw⟩
set_option maxRecDepth 100000 in
set_option maxHeartbeats 4000000 in
theorem markLinear_any (a b : Int) (x : Value) (L : List T3) (K : Nat) (h0 : 1 ≤ K) (h1 : K ≤ 1000) (w : World) (hx : TermsOwn w x L) (hl : L.length ≤ 2097152) : Calls Try.prog 25 #[.agg #[.int .i64 a, .int .i64 b, x], .int .i64 K] w fun e w' => e = .returned (.int .i64 ((K : Int) + 3 * (L.length : Int))) ∧ TermsOwn w' x (marksT K L.length) ∧ (w.heap.size ≤ w'.heap.size ∧ w'.os = w.os ∧ w'.tape = w.tape ∧ w'.output = w.output ∧ ∀ k, k < w.heap.size → x.ownBlock ≠ some k → w'.heap[k]? = w.heap[k]?) := by
  have HT := hide (fun W (hW : Below w.heap.size w W) => markTermS_any x L K h0 h1 W (hx.later hW) hl)
  obtain ⟨A, ca, rfl, ha⟩ := hx
  clear ha
  go_enter Try.func25, Try.ntmps25
  go_wp2_with fail
  have hbA : Below w.heap.size w (w.alloc (.cells #[.int .i64 a, .int .i64 b, .slice A L.length ca] 32)) := (by repeat (first | exact Below.refl _ _ | assumption | (refine bl_alloc ?_ (Nat.le_refl _) _) | (refine bl_set ?_ (by simp <;> omega) _)))
  (with_reducible refine (HT.out _ hbA).mono ?_)
  rintro e w1 ⟨rfl, ho, hg⟩
  have hz := hg.size
  simp at hz
  go_wp2
  go_ret
  refine ⟨rfl, ho, by omega, hg.os.trans hbA.os, hg.tape.trans hbA.tape, hg.output.trans hbA.output, fun k hk hne => ?_⟩
  exact (hg.block k (by simp; omega) (fun e => hne e.symm)).trans (hbA.block k hk)
set_option maxRecDepth 100000 in
set_option maxHeartbeats 4000000 in
theorem heldLinear_any (a b : Int) (x : Value) (n K : Nat) (h0 : 1 ≤ K) (h1 : K ≤ 1000) (w : World) (hx : TermsOwn w x (marksT K n)) (hl : n ≤ 2097152) : Calls Try.prog 26 #[.agg #[.int .i64 a, .int .i64 b, x], .int .i64 K] w fun e w' => e = .returned (.int .i64 ((K : Int) + 3 * (n : Int))) ∧ Below w.heap.size w w' := by
  have HT := hide (fun W (hW : Below w.heap.size w W) => heldTermS_any x n K h0 h1 W (hx.later hW) hl)
  obtain ⟨A, ca, rfl, ha⟩ := hx
  rw [marksT_len] at *
  clear ha
  go_enter Try.func26, Try.ntmps26
  go_wp2_with (first | (go_at_call 51; (with_reducible refine (HT.out _ (by repeat (first | exact Below.refl _ _ | assumption | (refine bl_alloc ?_ (Nat.le_refl _) _) | (refine bl_set ?_ (by simp <;> omega) _)))).mono ?_); rintro e w1 ⟨rfl, hb1⟩; obtain ⟨hc1, hf1⟩ := bcell hb1; have hw1 : Below w.heap.size w w1 := bl_call (by repeat (first | exact Below.refl _ _ | assumption | (refine bl_alloc ?_ (Nat.le_refl _) _) | (refine bl_set ?_ (by simp <;> omega) _))) hb1; have hz1 : w.heap.size + 1 ≤ w1.heap.size := (by have hq := hb1.size; have hr := hw1.size; (try simp at hq); omega); have hza : w.heap.size < w1.heap.size := (by omega); have hz4 := hb1.size; (try simp at hz4); (try have hz5 := Nat.lt_of_succ_le hz4)))
  go_ret
  exact ⟨rfl, (by repeat (first | exact Below.refl _ _ | assumption | (refine bl_alloc ?_ (Nat.le_refl _) _) | (refine bl_set ?_ (by simp <;> omega) _)))⟩
end Go.Proofs.Ythojgmhionekbaa
