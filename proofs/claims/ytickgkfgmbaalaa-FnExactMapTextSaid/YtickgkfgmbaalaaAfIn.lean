/-
  A MAP THAT CAME IN, OPENED: its twelve integers, of 64 bits each. Conditions: none.
-/
import Derived.Test.YtickgkfgmbaalaaMapV
import Derived.ProofKit
import Derived.OpenShut
import Derived.Lib.SmallJoins
namespace Go.Proofs.Ytickgkfgmbaalaa
open Go.ChangeShapes Go.WideShapes Go.ChangeAt Go.RowKit Go.Joins
set_option linter.unusedVariables false
section
variable {H : Type} {enc : TypeId × Value → H} {w : World} {base : Nat} {spare : Nat → Bool} {held : Bool}
theorem cells_frac : Try.prog.cellsOf 29 = 2 := by kernel_rfl
theorem cells_int : Try.prog.cellsOf 2 = 1 := by kernel_rfl
theorem cells_affine : Try.prog.cellsOf 31 = 12 := by kernel_rfl
theorem frac_cells {n : Nat} {c0 c1 : Value} {y : DataW H × List MemPlace} (h : DataW.trod enc Try.prog w base spare held n 29 [c0, c1] = some y) :
    ∃ a b : Int, c0 = .int .i64 a ∧ c1 = .int .i64 b ∧ (Lit.int .i64 a).wf = true ∧ (Lit.int .i64 b).wf = true := by
  obtain ⟨xs, k, _, _, _, hl, hf⟩ := DataW.trod_struct Try.underlying29 h
  have h0 := hf 0 _ rfl
  have h1 := hf 1 _ rfl
  match xs, hl with
  | [x0, x1], _ =>
    simp [cells_int] at h0 h1
    obtain ⟨a, e0, _, w0⟩ := DataW.trod_int Try.underlying2 h0
    obtain ⟨b, e1, _, w1⟩ := DataW.trod_int Try.underlying2 h1
    simp only [List.cons.injEq, and_true] at e0 e1
    exact ⟨a, b, e0, e1, w0, w1⟩
set_option maxRecDepth 100000 in
theorem open_affine {r : Reach} {b0 : Nat} {v : Value} {d : DataW H} {p : List MemPlace} (hv : Value.okWide Try.prog w r b0 31 v) (h : DataW.Trod enc Try.prog w base spare held 31 v d p) :
    ∃ m : Af, v = afV m ∧ AfIn m := by
  obtain ⟨cs, rfl, hsz⟩ := okWide_struct Try.underlying31 hv
  rw [cells_affine] at hsz
  obtain ⟨l⟩ := cs
  obtain ⟨fuel, hf⟩ := h
  obtain ⟨xs, n, _, hx, _, hlen, hg⟩ := DataW.trod_struct Try.underlying31 hf
  match l, hsz with
  | [c0, c1, c2, c3, c4, c5, c6, c7, c8, c9, c10, c11], _ =>
    match xs, hlen with
    | [x0, x1, x2, x3, x4, x5], _ =>
      have g0 := hg 0 _ rfl
      have g1 := hg 1 _ rfl
      have g2 := hg 2 _ rfl
      have g3 := hg 3 _ rfl
      have g4 := hg 4 _ rfl
      have g5 := hg 5 _ rfl
      simp [Value.cells, cells_frac] at g0 g1 g2 g3 g4 g5
      obtain ⟨a0, b0, rfl, rfl, w0, _⟩ := frac_cells g0
      obtain ⟨a1, b1, rfl, rfl, w1, _⟩ := frac_cells g1
      obtain ⟨a2, b2, rfl, rfl, w2, _⟩ := frac_cells g2
      obtain ⟨a3, b3, rfl, rfl, w3, _⟩ := frac_cells g3
      obtain ⟨a4, b4, rfl, rfl, w4, _⟩ := frac_cells g4
      obtain ⟨a5, b5, rfl, rfl, w5, _⟩ := frac_cells g5
      exact ⟨⟨(a0, b0), (a1, b1), (a2, b2), (a3, b3), (a4, b4), (a5, b5)⟩, rfl, wf64 w0, wf64 w1, wf64 w2, wf64 w3, wf64 w4, wf64 w5⟩
end
end Go.Proofs.Ytickgkfgmbaalaa
