/-
  CONTRACTS of the law's helpers on texts in slices (markText, eqStringS, markStringS, heldStringS). Conditions: what the slices hold.
-/
import Derived.Test.YthojgmhionekbaaGrow
import Derived.Test.YthojgmhionekbaaRead
namespace Go.Proofs.Ythojgmhionekbaa
open Go.RowKit Go.Sort
set_option linter.unusedVariables false
attribute [local go_sem] cell_grow frozen_grow

/-- the mark of a number -/
def mtB (k : Nat) : ByteArray := ⟨(109 :: digs0 k).toArray⟩
set_option maxRecDepth 100000 in
set_option maxHeartbeats 4000000 in
theorem markText_any (K : Nat) (h0 : 1 ≤ K) (h1 : K ≤ 1000000000) (w : World) : Calls Try.prog 76 #[.int .i64 K] w fun e w' => e = .returned (.string (mtB K)) ∧ Below w.heap.size w w' := by
  have HB := hide (Below.refl w.heap.size w)
  go_enter Try.func76, Try.ntmps76
  go_wp2
  go_loopw [0, 3] (fun kv ov wr => ∃ (k : Nat) (l : List UInt8), k ≤ K ∧ kv = .int .i64 k ∧ ov = .string ⟨l.toArray⟩ ∧ Hid (digs0 K = digs0 k ++ l) ∧ Hid (l.length + (digs0 k).length ≤ 10) ∧ Below w.heap.size w wr) (fun kv _ _ => (intOf kv).toNat)
  case atStart => exact ⟨K, [], by omega, rfl, rfl, by unfold Hid; simp, by unfold Hid; have := digs0_len 10 K (by omega); simpa using this, Below.refl _ _⟩
  case round =>
    obtain ⟨k, l, hk, rfl, rfl, hd, hl, hb⟩ := hrel
    by_cases hkn : 0 < k
    · have hown := own_new wr w.heap.size 5 (.int .u8 (48 + (k : Int) % 10)) hb.size
      rw [dg_val k] at hown
      have hcv := own_text (P := Try.prog) (dst := 9) (src := 112) (l := [dg (k % 10)]) hown rfl Try.underlying112 Try.underlying5 Try.underlying9
      rw [← dg_val k] at hcv
      have HD := hide (show digs0 K = digs0 (k / 10) ++ (dg (k % 10) :: l) by rw [hd.out, digs0_pos (by omega)]; simp)
      have HL := hide (show (dg (k % 10) :: l).length + (digs0 (k / 10)).length ≤ 10 by have := hl.out; rw [digs0_pos (n := k) (by omega)] at this; simp at this ⊢; omega)
      have hz : l.length ≤ 10 := by have := hl.out; omega
      clear hown hd hl
      go_wp2
      go_roundw
      case rel => exact ⟨k / 10, dg (k % 10) :: l, by omega, by go_num, by congr 1, HD, HL, hb.alloc hb.size _⟩
      case measure => simp [intOf]; omega
    · obtain rfl : k = 0 := by omega
      have HD := hide (show mtB K = ⟨#[109]⟩ ++ ⟨l.toArray⟩ by unfold mtB; rw [hd.out, digs0_zero]; apply ByteArray.ext; simp)
      have hz : l.length ≤ 10 := by have := hl.out; omega
      clear hd hl
      go_wp2
      go_ret
      exact ⟨by rw [HD.out]; rfl, hb⟩

/-- the texts of a slice -/
def StrsAt (w : World) (v : Value) (L : List ByteArray) : Prop := ∃ A cap, v = .slice A L.length cap ∧ (0 < L.length → ∃ g, A = some ⟨g, 0, none⟩ ∧ g < w.heap.size ∧ (∀ j, j < L.length → w.cell? ⟨g, j, none⟩ = some (.string (L.getD j ⟨#[]⟩))) ∧ ∀ j, w.frozen? ⟨g, j, none⟩ = false)
theorem StrsAt.later {w w' : World} {v : Value} {L : List ByteArray} (h : StrsAt w v L) (hb : Below w.heap.size w w') : StrsAt w' v L := by
  obtain ⟨A, cap, rfl, h2⟩ := h
  refine ⟨A, cap, rfl, fun k => ?_⟩
  obtain ⟨g, e, hg, hc, hf⟩ := h2 k
  exact ⟨g, e, Nat.lt_of_lt_of_le hg hb.size, fun j hj => (hb.cell (p := ⟨g, j, none⟩) hg).trans (hc j hj), fun j => (hb.frozen (p := ⟨g, j, none⟩) hg).trans (hf j)⟩
theorem StrsAt.kept {w w' : World} {v : Value} {L : List ByteArray} {row : Option Nat} (h : StrsAt w v L) (hb : w.grownBy w' row) (hne : v.ownBlock = none ∨ v.ownBlock ≠ row) : StrsAt w' v L := by
  obtain ⟨A, cap, rfl, h2⟩ := h
  refine ⟨A, cap, rfl, fun k => ?_⟩
  obtain ⟨g, rfl, hg, hc, hf⟩ := h2 k
  have e : w'.heap[g]? = w.heap[g]? := hb.block g hg (by simpa [Value.ownBlock] using hne)
  exact ⟨g, rfl, Nat.lt_of_lt_of_le hg hb.size, fun j hj => (World.cell?_of_block (a := ⟨g, j, none⟩) e).trans (hc j hj), fun j => (World.frozen?_of_block (a := ⟨g, j, none⟩) e).trans (hf j)⟩
/-- marks, one after the other -/
def marks (K n : Nat) : List ByteArray := (List.range n).map fun j => mtB (K + j)
theorem marks_len (K n : Nat) : (marks K n).length = n := by simp [marks]
theorem marks_at {K n j : Nat} (h : j < n) : (marks K n).getD j ⟨#[]⟩ = mtB (K + j) := by
  simp [marks, List.getD_eq_getElem?_getD, h]
end Go.Proofs.Ythojgmhionekbaa
