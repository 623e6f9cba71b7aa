/-
  CONTRACTS of the law's helpers on texts in slices (markText, eqStringS, markStringS, heldStringS). Conditions: what the slices hold.
-/
import Derived.Test.YtickgkfgmbaalaaDoorGrow
import Derived.Test.YtickgkfgmbaalaaDoorRead
namespace Go.Proofs.YtickgkfgmbaalaaDoor
open Go.RowKit Go.Sort
set_option linter.unusedVariables false
attribute [local go_sem] cell_grow frozen_grow

/-- the mark of a number -/
def mtB (k : Nat) : ByteArray := ⟨(109 :: digs0 k).toArray⟩

/-- the texts of a slice -/
def StrsAt (w : World) (v : Value) (L : List ByteArray) : Prop := ∃ A cap, v = .slice A L.length cap ∧ (0 < L.length → ∃ g, A = some ⟨g, 0, none⟩ ∧ g < w.heap.size ∧ (∀ j, j < L.length → w.cell? ⟨g, j, none⟩ = some (.string (L.getD j ⟨#[]⟩))) ∧ ∀ j, w.frozen? ⟨g, j, none⟩ = false)
theorem StrsAt.later {w w' : World} {v : Value} {L : List ByteArray} (h : StrsAt w v L) (hb : Below w.heap.size w w') : StrsAt w' v L := by
  obtain ⟨A, cap, rfl, h2⟩ := h
  refine ⟨A, cap, rfl, fun k => ?_⟩
  obtain ⟨g, e, hg, hc, hf⟩ := h2 k
  exact ⟨g, e, Nat.lt_of_lt_of_le hg hb.size, fun j hj => (hb.cell (p := ⟨g, j, none⟩) hg).trans (hc j hj), fun j => (hb.frozen (p := ⟨g, j, none⟩) hg).trans (hf j)⟩
theorem StrsAt.kept {w w' : World} {v : Value} {L : List ByteArray} {row : Option Nat} (h : StrsAt w v L) (hb : w.grownBy w' row) (hne : v.ownBlock = none ∨ v.ownBlock ≠ row) : StrsAt w' v L := by
  obtain ⟨A, cap, rfl, h2⟩ := h
  refine ⟨A, cap, rfl, fun k => ?_⟩
  obtain ⟨g, rfl, hg, hc, hf⟩ := h2 k
  have e : w'.heap[g]? = w.heap[g]? := hb.block g hg (by simpa [Value.ownBlock] using hne)
  exact ⟨g, rfl, Nat.lt_of_lt_of_le hg hb.size, fun j hj => (World.cell?_of_block (a := ⟨g, j, none⟩) e).trans (hc j hj), fun j => (World.frozen?_of_block (a := ⟨g, j, none⟩) e).trans (hf j)⟩
/-- marks, one after the other -/
def marks (K n : Nat) : List ByteArray := (List.range n).map fun j => mtB (K + j)
theorem marks_len (K n : Nat) : (marks K n).length = n := by simp [marks]
theorem marks_at {K n j : Nat} (h : j < n) : (marks K n).getD j ⟨#[]⟩ = mtB (K + j) := by
  simp [marks, List.getD_eq_getElem?_getD, h]
end Go.Proofs.YtickgkfgmbaalaaDoor
