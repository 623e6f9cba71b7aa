/-
  AN EXPRESSION THAT CAME IN, OPENED: two integers and the terms of its slice. Conditions: none.
-/
import Derived.Test.YthojgmhionekbaaTerm
import Derived.ProofKit
import Derived.OpenShut
import Derived.Lib.SmallJoins
import Derived.Deep.Slices
import Derived.Deep.Fields
import Derived.Deep.MidRow
import Derived.ChangeSame
namespace Go.Proofs.Ythojgmhionekbaa
open Go.ChangeShapes Go.WideShapes Go.ChangeAt Go.RowKit Go.Joins Go.Deep
set_option linter.unusedVariables false
/-- the bounds of what came in -/
def LinB (L : List T3) : Prop := L.length ≤ maxLen ∧ ∀ j, j < L.length → (L.getD j t3d).1.size ≤ maxLen ∧ -9223372036854775808 ≤ (L.getD j t3d).2.1 ∧ (L.getD j t3d).2.1 ≤ 9223372036854775807 ∧ -9223372036854775808 ≤ (L.getD j t3d).2.2 ∧ (L.getD j t3d).2.2 ≤ 9223372036854775807
section
variable {H : Type} {enc : TypeId × Value → H} {w : World} {base : Nat} {spare : Nat → Bool} {held : Bool}
theorem cells_fracL : Try.prog.cellsOf 23 = 2 := by kernel_rfl
theorem cells_intL : Try.prog.cellsOf 2 = 1 := by kernel_rfl
theorem cells_strL : Try.prog.cellsOf 9 = 1 := by kernel_rfl
theorem cells_termL : Try.prog.cellsOf 90 = 3 := by kernel_rfl
theorem cells_linL : Try.prog.cellsOf 26 = 3 := by kernel_rfl
theorem cells_slL : Try.prog.cellsOf 24 = 1 := by kernel_rfl
theorem frac_cellsL {n : Nat} {c0 c1 : Value} {y : DataW H × List MemPlace} (h : DataW.trod enc Try.prog w base spare held n 23 [c0, c1] = some y) :
    ∃ a b : Int, c0 = .int .i64 a ∧ c1 = .int .i64 b ∧ (Lit.int .i64 a).wf = true ∧ (Lit.int .i64 b).wf = true := by
  obtain ⟨xs, k, _, _, _, hl, hf⟩ := DataW.trod_struct Try.underlying23 h
  have h0 := hf 0 _ rfl
  have h1 := hf 1 _ rfl
  match xs, hl with
  | [x0, x1], _ =>
    simp [cells_intL] at h0 h1
    obtain ⟨a, e0, _, w0⟩ := DataW.trod_int Try.underlying2 h0
    obtain ⟨b, e1, _, w1⟩ := DataW.trod_int Try.underlying2 h1
    simp only [List.cons.injEq, and_true] at e0 e1
    exact ⟨a, b, e0, e1, w0, w1⟩
set_option maxRecDepth 100000 in
theorem term_cells {n : Nat} {cs : List Value} {y : DataW H × List MemPlace} (h : DataW.trod enc Try.prog w base spare held n 90 cs = some y) :
    ∃ t : T3, cs = [.string t.1, .int .i64 t.2.1, .int .i64 t.2.2] ∧ t.1.size ≤ maxLen ∧ (-9223372036854775808 ≤ t.2.1 ∧ t.2.1 ≤ 9223372036854775807) ∧ (-9223372036854775808 ≤ t.2.2 ∧ t.2.2 ≤ 9223372036854775807) := by
  obtain ⟨xs, k, _, _, hcl, hl, hf⟩ := DataW.trod_struct Try.underlying90 h
  rw [cells_termL] at hcl
  have h0 := hf 0 _ rfl
  have h1 := hf 1 _ rfl
  match cs, hcl with
  | [c0, c1, c2], _ =>
    match xs, hl with
    | [x0, x1], _ =>
      simp [cells_strL, cells_fracL] at h0 h1
      obtain ⟨s, e0, _, w0⟩ := DataW.trod_string Try.underlying9 h0
      obtain ⟨a, b, rfl, rfl, wa, wb⟩ := frac_cellsL h1
      simp only [List.cons.injEq, and_true] at e0
      subst e0
      exact ⟨(s, a, b), rfl, w0, wf64 wa, wf64 wb⟩
set_option maxRecDepth 100000 in
theorem open_terms {n : Nat} {sv : Value} {y : DataW H × List MemPlace} (h : DataW.trod enc Try.prog w base spare held n 24 [sv] = some y) : ∃ L : List T3, TermsAt w sv L ∧ LinB L := by
  rcases open_slice Try.underlying24 h with ⟨h0, _⟩ | ⟨a, len, cap, m, k, D, Pl, hcs, hb, hl, hm, hmm, hx, hi⟩
  · simp only [List.cons.injEq, and_true] at h0
    subst h0
    exact ⟨[], ⟨none, 0, rfl, fun h => absurd h (by simp)⟩, by simp [LinB]⟩
  · simp only [List.cons.injEq, and_true] at hcs
    subst hcs
    have hlm : len ≤ m := by rw [hmm]; split <;> omega
    have each : ∀ i, i < len → ∃ t : T3, w.cell? (a.add (i * 3)) = some (.string t.1) ∧ w.cell? (a.add (i * 3 + 1)) = some (.int .i64 t.2.1) ∧ w.cell? (a.add (i * 3 + 2)) = some (.int .i64 t.2.2) ∧ t.1.size ≤ maxLen ∧ (-9223372036854775808 ≤ t.2.1 ∧ t.2.1 ≤ 9223372036854775807) ∧ (-9223372036854775808 ≤ t.2.2 ∧ t.2.2 ≤ 9223372036854775807) := by
      intro i hil
      obtain ⟨cs', hc, ht⟩ := hi i (by omega)
      rw [cells_termL] at hc
      obtain ⟨t, rfl, w1, w2, w3⟩ := term_cells ht
      obtain ⟨_, _, hcell⟩ := World.cells?_some hc
      have e0 := hcell 0 (by omega)
      have e1 := hcell 1 (by omega)
      have e2 := hcell 2 (by omega)
      rw [add_add] at e0 e1 e2
      exact ⟨t, e0, e1, e2, w1, w2, w3⟩
    obtain ⟨f, hf⟩ := choose_lt each
    refine ⟨(List.range len).map f, ⟨some a, cap, by simp, fun h => ?_⟩, by simp; omega, fun j hj => ?_⟩
    · have h1 : 0 < len := by simpa using h
      obtain ⟨b, o, spot⟩ := a
      have h0 := (hf 0 h1).1
      have hspot : spot = none := by simpa [Addr.add] using World.cell?_spot h0
      subst hspot
      have hblk : b < w.heap.size := by
        have := World.block_lt_of_cell? w _ h0
        simpa [Addr.add] using this
      refine ⟨b, o, rfl, hblk, fun j hj => ?_⟩
      have hj' : j < len := by simpa using hj
      obtain ⟨k0, k1, k2, _⟩ := hf j hj'
      rw [Addr.add_mid] at k0 k1 k2
      have e : ((List.range len).map f).getD j t3d = f j := by simp [List.getD_eq_getElem?_getD, hj']
      rw [e]
      exact ⟨k0, k1, k2⟩
    · have hj' : j < len := by simpa using hj
      have e : ((List.range len).map f).getD j t3d = f j := by simp [List.getD_eq_getElem?_getD, hj']
      rw [e]
      obtain ⟨_, _, _, w1, w2, w3⟩ := hf j hj'
      exact ⟨w1, w2.1, w2.2, w3.1, w3.2⟩
set_option maxRecDepth 100000 in
theorem open_linear {r : Reach} {b0 : Nat} {v : Value} {d : DataW H} {p : List MemPlace} (hv : Value.okWide Try.prog w r b0 26 v) (h : DataW.Trod enc Try.prog w base spare held 26 v d p) :
    ∃ (a b : Int) (sv : Value) (L : List T3), v = .agg #[.int .i64 a, .int .i64 b, sv] ∧ (-9223372036854775808 ≤ a ∧ a ≤ 9223372036854775807) ∧ (-9223372036854775808 ≤ b ∧ b ≤ 9223372036854775807) ∧ TermsAt w sv L ∧ LinB L := by
  obtain ⟨cs, rfl, hsz⟩ := okWide_struct Try.underlying26 hv
  rw [cells_linL] at hsz
  obtain ⟨l⟩ := cs
  obtain ⟨fuel, hf⟩ := h
  obtain ⟨xs, n, _, hx, _, hlen, hg⟩ := DataW.trod_struct Try.underlying26 hf
  match l, hsz with
  | [c0, c1, c2], _ =>
    match xs, hlen with
    | [x0, x1], _ =>
      have g0 := hg 0 _ rfl
      have g1 := hg 1 _ rfl
      simp [Value.cells, cells_fracL, cells_slL] at g0 g1
      obtain ⟨a, b, rfl, rfl, wa, wb⟩ := frac_cellsL g0
      obtain ⟨L, hL, hB⟩ := open_terms g1
      exact ⟨a, b, c2, L, rfl, wf64 wa, wf64 wb, hL, hB⟩
end
end Go.Proofs.Ythojgmhionekbaa
