/-
  A SYSTEM THAT CAME IN, OPENED: rows of a name and an expression. Conditions: none.
-/
import Derived.Test.YthojgmhionekbaaLinIn
namespace Go.Proofs.Ythojgmhionekbaa
open Go.ChangeShapes Go.WideShapes Go.ChangeAt Go.RowKit Go.Joins Go.Deep
set_option linter.unusedVariables false
abbrev R4 : Type := ByteArray × Int × Int × List T3
def r4d : R4 := (⟨#[]⟩, 0, 0, [])
/-- the rows that a slice holds -/
def RowsAt (w : World) (v : Value) (R : List R4) : Prop := ∃ A cap, v = .slice A R.length cap ∧ (0 < R.length → ∃ g o, A = some ⟨g, o, none⟩ ∧ g < w.heap.size ∧ ∀ j, j < R.length → w.cell? ⟨g, o + j * 4, none⟩ = some (.string (R.getD j r4d).1) ∧ w.cell? ⟨g, o + j * 4 + 1, none⟩ = some (.int .i64 (R.getD j r4d).2.1) ∧ w.cell? ⟨g, o + j * 4 + 2, none⟩ = some (.int .i64 (R.getD j r4d).2.2.1) ∧ ∃ sv, w.cell? ⟨g, o + j * 4 + 3, none⟩ = some sv ∧ TermsAt w sv (R.getD j r4d).2.2.2)
theorem RowsAt.later {w w' : World} {v : Value} {R : List R4} (h : RowsAt w v R) (hb : Below w.heap.size w w') : RowsAt w' v R := by
  obtain ⟨A, cap, rfl, h2⟩ := h
  refine ⟨A, cap, rfl, fun k => ?_⟩
  obtain ⟨g, o, rfl, hg, hc⟩ := h2 k
  refine ⟨g, o, rfl, Nat.lt_of_lt_of_le hg hb.size, fun j hj => ?_⟩
  obtain ⟨h1, h2, h3, sv, h4, h5⟩ := hc j hj
  exact ⟨(hb.cell (p := ⟨g, _, none⟩) hg).trans h1, (hb.cell (p := ⟨g, _, none⟩) hg).trans h2, (hb.cell (p := ⟨g, _, none⟩) hg).trans h3, sv, (hb.cell (p := ⟨g, _, none⟩) hg).trans h4, h5.later hb⟩
/-- the bounds of a row that came in -/
def RowB (r : R4) : Prop := r.1.size ≤ maxLen ∧ (-9223372036854775808 ≤ r.2.1 ∧ r.2.1 ≤ 9223372036854775807) ∧ (-9223372036854775808 ≤ r.2.2.1 ∧ r.2.2.1 ≤ 9223372036854775807) ∧ LinB r.2.2.2
def RowsB (R : List R4) : Prop := R.length ≤ maxLen ∧ ∀ j, j < R.length → RowB (R.getD j r4d)
section
variable {H : Type} {enc : TypeId × Value → H} {w : World} {base : Nat} {spare : Nat → Bool} {held : Bool}
theorem cells_rowL : Try.prog.cellsOf 99 = 4 := by kernel_rfl
theorem cells_sysL : Try.prog.cellsOf 39 = 1 := by kernel_rfl
theorem cells_rslL : Try.prog.cellsOf 37 = 1 := by kernel_rfl
set_option maxRecDepth 100000 in
theorem lin_cells {n : Nat} {cs : List Value} {y : DataW H × List MemPlace} (h : DataW.trod enc Try.prog w base spare held n 26 cs = some y) :
    ∃ (a b : Int) (sv : Value) (L : List T3), cs = [.int .i64 a, .int .i64 b, sv] ∧ (-9223372036854775808 ≤ a ∧ a ≤ 9223372036854775807) ∧ (-9223372036854775808 ≤ b ∧ b ≤ 9223372036854775807) ∧ TermsAt w sv L ∧ LinB L := by
  obtain ⟨xs, k, _, _, hcl, hl, hf⟩ := DataW.trod_struct Try.underlying26 h
  rw [cells_linL] at hcl
  have h0 := hf 0 _ rfl
  have h1 := hf 1 _ rfl
  match cs, hcl with
  | [c0, c1, c2], _ =>
    match xs, hl with
    | [x0, x1], _ =>
      simp [cells_fracL, cells_slL] at h0 h1
      obtain ⟨a, b, rfl, rfl, wa, wb⟩ := frac_cellsL h0
      obtain ⟨L, hL, hB⟩ := open_terms h1
      exact ⟨a, b, c2, L, rfl, wf64 wa, wf64 wb, hL, hB⟩
set_option maxRecDepth 100000 in
theorem row_cells {n : Nat} {cs : List Value} {y : DataW H × List MemPlace} (h : DataW.trod enc Try.prog w base spare held n 99 cs = some y) :
    ∃ (r : R4) (sv : Value), cs = [.string r.1, .int .i64 r.2.1, .int .i64 r.2.2.1, sv] ∧ TermsAt w sv r.2.2.2 ∧ RowB r := by
  obtain ⟨xs, k, _, _, hcl, hl, hf⟩ := DataW.trod_struct Try.underlying99 h
  rw [cells_rowL] at hcl
  have h0 := hf 0 _ rfl
  have h1 := hf 1 _ rfl
  match cs, hcl with
  | [c0, c1, c2, c3], _ =>
    match xs, hl with
    | [x0, x1], _ =>
      simp [cells_strL, cells_linL] at h0 h1
      obtain ⟨s, e0, _, w0⟩ := DataW.trod_string Try.underlying9 h0
      obtain ⟨a, b, sv, L, e1, wa, wb, hL, hB⟩ := lin_cells h1
      simp only [List.cons.injEq, and_true] at e0 e1
      obtain ⟨rfl, rfl, rfl⟩ := e1
      subst e0
      exact ⟨(s, a, b, L), c3, rfl, hL, w0, wa, wb, hB⟩
set_option maxRecDepth 100000 in
theorem open_rows {n : Nat} {sv : Value} {y : DataW H × List MemPlace} (h : DataW.trod enc Try.prog w base spare held n 37 [sv] = some y) : ∃ R : List R4, RowsAt w sv R ∧ RowsB R := by
  rcases open_slice Try.underlying37 h with ⟨h0, _⟩ | ⟨a, len, cap, m, k, D, Pl, hcs, hb, hl, hm, hmm, hx, hi⟩
  · simp only [List.cons.injEq, and_true] at h0
    subst h0
    exact ⟨[], ⟨none, 0, rfl, fun h => absurd h (by simp)⟩, by simp [RowsB]⟩
  · simp only [List.cons.injEq, and_true] at hcs
    subst hcs
    have hlm : len ≤ m := by rw [hmm]; split <;> omega
    have each : ∀ i, i < len → ∃ r : R4, w.cell? (a.add (i * 4)) = some (.string r.1) ∧ w.cell? (a.add (i * 4 + 1)) = some (.int .i64 r.2.1) ∧ w.cell? (a.add (i * 4 + 2)) = some (.int .i64 r.2.2.1) ∧ (∃ sv, w.cell? (a.add (i * 4 + 3)) = some sv ∧ TermsAt w sv r.2.2.2) ∧ RowB r := by
      intro i hil
      obtain ⟨cs', hc, ht⟩ := hi i (by omega)
      rw [cells_rowL] at hc
      obtain ⟨r, sv, rfl, w1, w2⟩ := row_cells ht
      obtain ⟨_, _, hcell⟩ := World.cells?_some hc
      have e0 := hcell 0 (by omega)
      have e1 := hcell 1 (by omega)
      have e2 := hcell 2 (by omega)
      have e3 := hcell 3 (by omega)
      rw [add_add] at e0 e1 e2 e3
      exact ⟨r, e0, e1, e2, ⟨sv, e3, w1⟩, w2⟩
    obtain ⟨f, hf⟩ := choose_lt each
    refine ⟨(List.range len).map f, ⟨some a, cap, by simp, fun h => ?_⟩, by simp; omega, fun j hj => ?_⟩
    · have h1 : 0 < len := by simpa using h
      obtain ⟨b, o, spot⟩ := a
      have h0 := (hf 0 h1).1
      have hspot : spot = none := by simpa [Addr.add] using World.cell?_spot h0
      subst hspot
      have hblk : b < w.heap.size := by
        have := World.block_lt_of_cell? w _ h0
        simpa [Addr.add] using this
      refine ⟨b, o, rfl, hblk, fun j hj => ?_⟩
      have hj' : j < len := by simpa using hj
      obtain ⟨k0, k1, k2, ⟨sv, k3, k4⟩, _⟩ := hf j hj'
      rw [Addr.add_mid] at k0 k1 k2 k3
      have e : ((List.range len).map f).getD j r4d = f j := by simp [List.getD_eq_getElem?_getD, hj']
      rw [e]
      exact ⟨k0, k1, k2, sv, k3, k4⟩
    · have hj' : j < len := by simpa using hj
      have e : ((List.range len).map f).getD j r4d = f j := by simp [List.getD_eq_getElem?_getD, hj']
      rw [e]
      exact (hf j hj').2.2.2.2
set_option maxRecDepth 100000 in
theorem open_system {r : Reach} {b0 : Nat} {v : Value} {d : DataW H} {p : List MemPlace} (hv : Value.okWide Try.prog w r b0 39 v) (h : DataW.Trod enc Try.prog w base spare held 39 v d p) :
    ∃ (sv : Value) (R : List R4), v = .agg #[sv] ∧ RowsAt w sv R ∧ RowsB R := by
  obtain ⟨cs, rfl, hsz⟩ := okWide_struct Try.underlying39 hv
  rw [cells_sysL] at hsz
  obtain ⟨l⟩ := cs
  obtain ⟨fuel, hf⟩ := h
  obtain ⟨xs, n, _, hx, _, hlen, hg⟩ := DataW.trod_struct Try.underlying39 hf
  match l, hsz with
  | [c0], _ =>
    match xs, hlen with
    | [x0], _ =>
      have g0 := hg 0 _ rfl
      simp [Value.cells, cells_rslL] at g0
      obtain ⟨R, hR, hB⟩ := open_rows g0
      exact ⟨c0, R, rfl, hR, hB⟩
end
end Go.Proofs.Ythojgmhionekbaa
