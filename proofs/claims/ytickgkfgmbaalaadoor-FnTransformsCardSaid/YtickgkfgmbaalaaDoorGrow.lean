/-
  A list that grows by append, in a loop that also calls: what stands at the head of each round. Conditions: none (lemmas on worlds).
-/
import Derived.Test.YtickgkfgmbaalaaDoorBase
import Derived.Deep.AppendLies
import Derived.LoopTactic
import Derived.OwnWalk
namespace Go.Proofs.YtickgkfgmbaalaaDoor
open Go.RowKit Go.Sort
set_option linter.unusedVariables false

theorem ug_at (w : World) (o : Obj) (i : Nat) : (w.alloc o).heap[i]? = if i = w.heap.size then some o else w.heap[i]? := by
  show (w.heap.push o)[i]? = _
  rw [Array.getElem?_push]
theorem ug_new (w : World) (o : Obj) {i : Nat} (h : i = w.heap.size) : (w.alloc o).heap[i]? = some o := by rw [ug_at, if_pos h]
theorem ug_old (w : World) (o : Obj) {i : Nat} (h : i < w.heap.size) : (w.alloc o).heap[i]? = w.heap[i]? := by rw [ug_at, if_neg (by omega)]
theorem ug_cell {w : World} {g : Nat} {t : TypeId} {cs : Array Value} (h : w.heap[g]? = some (.cells cs t (0, 0))) (i : Nat) : w.cell? ⟨g, i, none⟩ = cs[i]? := cell_of_row w g i cs t (0, 0) h
theorem ug_frozen {w : World} {g : Nat} {t : TypeId} {cs : Array Value} (h : w.heap[g]? = some (.cells cs t (0, 0))) (i : Nat) : w.frozen? ⟨g, i, none⟩ = false := by simp [World.frozen?, h]
/-- The value v owns the row of xs; the blocks of w0 are as they were, save block B; the caller's blocks (those of w) are as they were. -/
structure Under (t : TypeId) (size : Nat) (B : Nat) (v : Value) (n : Nat) (xs : List Value) (w w0 wr : World) : Prop where
  own : wr.ownsRow B t size v n xs
  gap : ∀ k, v.ownBlock = some k → k = B ∨ w0.heap.size ≤ k
  rest : ∀ j, j < w0.heap.size → j ≠ B → wr.heap[j]? = w0.heap[j]?
  size : w0.heap.size ≤ wr.heap.size
  base : w.heap.size ≤ B ∧ B ≤ w0.heap.size ∧ w.heap.size ≤ w0.heap.size
  below : Below w.heap.size w wr
theorem Under.start {t : TypeId} {size B n : Nat} {v : Value} {xs : List Value} {w w0 : World} (ho : w0.ownsRow B t size v n xs) (hv : ∀ k, v.ownBlock = some k → k = B) (h1 : w.heap.size ≤ B) (h2 : B ≤ w0.heap.size) (hb : Below w.heap.size w w0) : Under t size B v n xs w w0 w0 :=
  ⟨ho, fun k hk => .inl (hv k hk), fun _ _ _ => rfl, Nat.le_refl _, ⟨h1, h2, hb.size⟩, hb⟩
theorem Under.lt {t : TypeId} {size B n : Nat} {v : Value} {xs : List Value} {w w0 wr : World} (h : Under t size B v n xs w w0 wr) {k : Nat} (hk : v.ownBlock = some k) : B ≤ k ∧ k < wr.heap.size := h.own.lt k hk
/-- later worlds, the same list -/
theorem Under.later {t : TypeId} {size B n : Nat} {v : Value} {xs : List Value} {w w0 wr wx : World} (h : Under t size B v n xs w w0 wr) (hb : Below wr.heap.size wr wx) : Under t size B v n xs w w0 wx := by
  have hs := h.size
  have hg : wr.grownBy wx none := ⟨hb.os, hb.tape, hb.output, hb.size, fun j hj _ => hb.block j hj⟩
  obtain ⟨b1, b2, b3⟩ := h.base
  refine ⟨h.own.kept hg (by cases v.ownBlock <;> simp), h.gap, fun j h1 h2 => (hb.block j (by omega)).trans (h.rest j h1 h2), Nat.le_trans hs hb.size, h.base, h.below.trans (hb.mono (by omega))⟩
/-- behind the append -/
theorem Under.grown {t : TypeId} {size B n n' g' cap' : Nat} {v : Value} {xs xs' : List Value} {w w0 wr wx wy : World} (h : Under t size B v n xs w w0 wr) (hb : Below wr.heap.size wr wx)
    (hown : wy.ownsRow B t size (.slice (some ⟨g', 0, none⟩) n' cap') n' xs') (hgrow : wx.grownBy wy v.ownBlock) (hat : v.ownBlock = some g' ∨ wr.heap.size ≤ g') : Under t size B (.slice (some ⟨g', 0, none⟩) n' cap') n' xs' w w0 wy := by
  have hs := h.size
  have hx := hb.size
  obtain ⟨b1, b2, b3⟩ := h.base
  refine ⟨hown, ?_, ?_, by have := hgrow.size; omega, h.base, ?_⟩
  · intro k hk
    simp only [Value.ownBlock, Option.some.injEq] at hk
    subst hk
    rcases hat with e | e
    · exact h.gap _ e
    · right; omega
  · intro j h1 h2
    refine (hgrow.block j (by omega) ?_).trans ((hb.block j (by omega)).trans (h.rest j h1 h2))
    intro e
    rcases h.gap j e.symm with e1 | e1 <;> omega
  · exact (h.below.trans (hb.mono (by omega))).grown hgrow (by omega) (fun j e => by have := h.own.lt j e; omega)
theorem Under.cell {t : TypeId} {size B n : Nat} {v : Value} {xs : List Value} {w w0 wr : World} (h : Under t size B v n xs w w0 wr) {b : Nat} (h1 : b < w0.heap.size) (h2 : b ≠ B) (i : Nat) : wr.cell? ⟨b, i, none⟩ = w0.cell? ⟨b, i, none⟩ := World.cell?_of_block (h.rest b h1 h2)
theorem Under.frozen {t : TypeId} {size B n : Nat} {v : Value} {xs : List Value} {w w0 wr : World} (h : Under t size B v n xs w w0 wr) {b : Nat} (h1 : b < w0.heap.size) (h2 : b ≠ B) (i : Nat) : wr.frozen? ⟨b, i, none⟩ = w0.frozen? ⟨b, i, none⟩ := World.frozen?_of_block (h.rest b h1 h2)
/-- rows of pairs of integers -/
def flat2 (l : List (Int × Int)) : List Value := l.flatMap fun p => [.int .i64 p.1, .int .i64 p.2]
theorem flat2_len (l : List (Int × Int)) : (flat2 l).length = l.length * 2 := by
  induction l with
  | nil => rfl
  | cons p l ih =>
    have : flat2 (p :: l) = .int .i64 p.1 :: .int .i64 p.2 :: flat2 l := rfl
    rw [this]; simp only [List.length_cons, ih]; omega
theorem flat2_at (l : List (Int × Int)) : ∀ j, j < l.length → (flat2 l)[j * 2]? = some (.int .i64 (l.getD j (0, 0)).1) ∧ (flat2 l)[j * 2 + 1]? = some (.int .i64 (l.getD j (0, 0)).2) := by
  induction l with
  | nil => intro j hj; simp at hj
  | cons p l ih =>
    intro j hj
    have e : flat2 (p :: l) = .int .i64 p.1 :: .int .i64 p.2 :: flat2 l := rfl
    rw [e]
    cases j with
    | zero => exact ⟨rfl, rfl⟩
    | succ j =>
      have := ih j (by simpa using hj)
      have e1 : (j + 1) * 2 = j * 2 + 1 + 1 := by omega
      rw [e1]
      exact this
theorem flat2_snoc (l : List (Int × Int)) (p : Int × Int) : flat2 (l ++ [p]) = flat2 l ++ [.int .i64 p.1, .int .i64 p.2] := by
  unfold flat2; simp
/-- the cells of a row that is owned, of pairs and of single values -/
theorem Under.pair {t : TypeId} {B g cap : Nat} {l : List (Int × Int)} {w w0 wr : World} (h : Under t 2 B (.slice (some ⟨g, 0, none⟩) l.length cap) l.length (flat2 l) w w0 wr) {j : Nat} (hj : j < l.length) : wr.cell? ⟨g, j * 2, none⟩ = some (.int .i64 (l.getD j (0, 0)).1) ∧ wr.cell? ⟨g, j * 2 + 1, none⟩ = some (.int .i64 (l.getD j (0, 0)).2) :=
  ⟨(h.own.cellAt (j * 2) (by omega)).trans (flat2_at l j hj).1, (h.own.cellAt (j * 2 + 1) (by omega)).trans (flat2_at l j hj).2⟩
theorem flat2_set (l : List (Int × Int)) (p : Int × Int) : ∀ j, flat2 (l.set j p) = ((flat2 l).set (j * 2) (.int .i64 p.1)).set (j * 2 + 1) (.int .i64 p.2) := by
  induction l with
  | nil => intro j; rfl
  | cons q l ih =>
    intro j
    have e : flat2 (q :: l) = .int .i64 q.1 :: .int .i64 q.2 :: flat2 l := rfl
    cases j with
    | zero => rfl
    | succ j =>
      have e1 : (j + 1) * 2 = j * 2 + 1 + 1 := by omega
      rw [e, e1, List.set_cons_succ]
      have e2 : flat2 (q :: l.set j p) = .int .i64 q.1 :: .int .i64 q.2 :: flat2 (l.set j p) := rfl
      rw [e2, ih j]
      rfl
theorem ug_set {w : World} {g : Nat} {t : TypeId} {cs : Array Value} {fr : Nat × Nat} (h : w.heap[g]? = some (.cells cs t fr)) (i : Nat) (u : Value) : (w.setCell ⟨g, i, none⟩ u).heap[g]? = some (.cells (cs.setIfInBounds i u) t fr) := by
  simp only [World.setCell, Array.getElem?_modify]
  rw [if_pos trivial, h]; rfl
/-- behind a store of a pair into an element of the row -/
theorem Under.put2 {t : TypeId} {B g cap n : Nat} {l : List (Int × Int)} {w w0 wr : World} (h : Under t 2 B (.slice (some ⟨g, 0, none⟩) n cap) n (flat2 l) w w0 wr) (j : Nat) (p : Int × Int) :
    Under t 2 B (.slice (some ⟨g, 0, none⟩) n cap) n (flat2 (l.set j p)) w w0 ((wr.setCell ⟨g, j * 2, none⟩ (.int .i64 p.1)).setCell ⟨g, j * 2 + 1, none⟩ (.int .i64 p.2)) := by
  have hg := h.gap g rfl
  have hl := h.own.lt g rfl
  have hsz := h.size
  obtain ⟨b1, b2, b3⟩ := h.base
  have hne : ∀ k, k ≠ g → ((wr.setCell ⟨g, j * 2, none⟩ (.int .i64 p.1)).setCell ⟨g, j * 2 + 1, none⟩ (.int .i64 p.2)).heap[k]? = wr.heap[k]? := fun k hk => (Below.heap_setCell _ _ _ _ hk).trans (Below.heap_setCell _ _ _ _ hk)
  refine ⟨⟨?_, ?_⟩, h.gap, ?_, by simp [World.setCell]; omega, h.base, ?_⟩
  · rw [flat2_set, List.length_set, List.length_set]
    exact h.own.1
  · rcases h.own.2 with ⟨h', _⟩ | ⟨g', cap', cur, h', hb, hgg, h1, h2, h3, h4⟩
    · simp at h'
    · simp only [Value.slice.injEq, Option.some.injEq, Addr.mk.injEq, and_true, true_and] at h'
      obtain ⟨rfl, rfl⟩ := h'
      refine .inr ⟨g, cap, (cur.setIfInBounds (j * 2) (.int .i64 p.1)).setIfInBounds (j * 2 + 1) (.int .i64 p.2), rfl, hb, ug_set (ug_set hgg _ _) _ _, h1, h2, by simp [h3], ?_⟩
      rw [flat2_set, ← h4]
      simp only [Array.toList_setIfInBounds, List.take_set]
  · intro k h1 h2
    rw [hne k (by omega)]
    exact h.rest k h1 h2
  · refine (h.below.setCell (p := ⟨g, j * 2, none⟩) ?_ _).setCell (p := ⟨g, j * 2 + 1, none⟩) ?_ _
    · show _ ≤ g; omega
    · show _ ≤ g; omega
end Go.Proofs.YtickgkfgmbaalaaDoor
