/-
  BYTES THAT CAME IN, OPENED. Conditions: none.
-/
import Derived.Test.YtickgkfgmbaalaaDoorBase
import Derived.ProofKit
import Derived.OpenShut
import Derived.Lib.SmallJoins
import Derived.Deep.Slices
import Derived.Deep.MidRow
import Derived.ChangeSame
namespace Go.Proofs.YtickgkfgmbaalaaDoor
open Go.ChangeShapes Go.WideShapes Go.ChangeAt Go.RowKit Go.Joins Go.Deep
set_option linter.unusedVariables false
/-- the bytes of a slice lie below block B -/
def CodeAt (w : World) (B : Nat) (A : Option Addr) (n : Nat) : Prop := n ≤ maxLen ∧ (0 < n → ∃ g o, A = some ⟨g, o, none⟩ ∧ g < B ∧ ∀ j, j < n → ∃ x : Int, 0 ≤ x ∧ x ≤ 255 ∧ w.cell? ⟨g, o + j, none⟩ = some (.int .u8 x))
theorem CodeAt.kept {w w' : World} {B n : Nat} {A : Option Addr} (h : CodeAt w B A n) (hb : ∀ g, g < B → w'.heap[g]? = w.heap[g]?) : CodeAt w' B A n := by
  refine ⟨h.1, fun k => ?_⟩
  obtain ⟨g, o, rfl, hg, hc⟩ := h.2 k
  refine ⟨g, o, rfl, hg, fun j hj => ?_⟩
  obtain ⟨x, x0, x1, e⟩ := hc j hj
  exact ⟨x, x0, x1, (World.cell?_of_block (a := ⟨g, _, none⟩) (hb g hg)).trans e⟩
theorem CodeAt.up {w w' : World} {B B' n : Nat} {A : Option Addr} (h : CodeAt w B A n) (hB : B ≤ B') (hb : ∀ g, g < B → w'.heap[g]? = w.heap[g]?) : CodeAt w' B' A n := by
  obtain ⟨h1, h2⟩ := h.kept hb
  refine ⟨h1, fun k => ?_⟩
  obtain ⟨g, o, e, hg, hc⟩ := h2 k
  exact ⟨g, o, e, by omega, hc⟩
section
variable {H : Type} {enc : TypeId × Value → H} {w : World} {base : Nat} {spare : Nat → Bool} {held : Bool}
theorem cells_byteL : Tryd.prog.cellsOf 5 = 1 := by kernel_rfl
theorem u8_wf {n : Int} (h : (Lit.int .u8 n).wf = true) : 0 ≤ n ∧ n ≤ 255 := by
  simp [Lit.wf, IntKind.min, IntKind.max, IntKind.signed, IntKind.bits] at h; omega
set_option maxRecDepth 100000 in
theorem open_code {r : Reach} {b0 : Nat} {v : Value} {d : DataW H} {p : List MemPlace} (hv : Value.okWide Tryd.prog w r b0 30 v) (h : DataW.Trod enc Tryd.prog w base spare held 30 v d p) :
    ∃ (A : Option Addr) (n c : Nat), v = .slice A n c ∧ CodeAt w w.heap.size A n := by
  obtain ⟨A, n, c, rfl⟩ := okWide_slice Tryd.underlying30 hv
  obtain ⟨fuel, hf⟩ := h
  refine ⟨A, n, c, rfl, ?_⟩
  rcases open_slice1 Tryd.underlying30 cells_byteL hf with ⟨h0, _⟩ | ⟨a, len, cap, m, k, V, D, Pl, hcs, hb, hl, hm, hmm, hx, hi⟩
  · simp only [Value.cells, List.cons.injEq, and_true, Value.slice.injEq] at h0
    obtain ⟨rfl, rfl, rfl⟩ := h0
    exact ⟨by simp, fun h => absurd h (by simp)⟩
  · simp only [Value.cells, List.cons.injEq, and_true, Value.slice.injEq] at hcs
    obtain ⟨rfl, rfl, rfl⟩ := hcs
    have hlm : n ≤ m := by rw [hmm]; split <;> omega
    refine ⟨by omega, fun h1 => ?_⟩
    obtain ⟨b, o, spot⟩ := a
    have h0 := (hi 0 (by omega)).1
    have hspot : spot = none := by simpa [Addr.add] using World.cell?_spot h0
    subst hspot
    have hblk : b < w.heap.size := by
      have := World.block_lt_of_cell? w _ h0
      simpa [Addr.add] using this
    refine ⟨b, o, rfl, hblk, fun j hj => ?_⟩
    obtain ⟨e1, e2⟩ := hi j (by omega)
    obtain ⟨x, e3, _, wx⟩ := DataW.trod_int Tryd.underlying5 e2
    simp only [List.cons.injEq, and_true] at e3
    have := u8_wf wx
    rw [Addr.add_mid, e3] at e1
    exact ⟨x, this.1, this.2, e1⟩
end
end Go.Proofs.YtickgkfgmbaalaaDoor
