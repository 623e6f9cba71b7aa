/-
  CONTRACT of spec.l03Ends: the list of the common ends of two segments, in a slice of the call's own; nothing that was there is written. Conditions: the points are valid.
-/
import Derived.Test.YthellegojnndlaaEnds
import Derived.Deep.AppendLies
import Derived.LoopTactic
import Derived.OwnWalk
namespace Go.Proofs.Ythellegojnndlaa
open Go.RowKit Go.Sort
set_option linter.unusedVariables false
attribute [local go_sem] cell_grow frozen_grow

theorem heap_at (w : World) (o : Obj) (i : Nat) : (w.alloc o).heap[i]? = if i = w.heap.size then some o else w.heap[i]? := by
  show (w.heap.push o)[i]? = _
  rw [Array.getElem?_push]
theorem heap_new (w : World) (o : Obj) {i : Nat} (h : i = w.heap.size) : (w.alloc o).heap[i]? = some o := by rw [heap_at, if_pos h]
theorem heap_old (w : World) (o : Obj) {i : Nat} (h : i < w.heap.size) : (w.alloc o).heap[i]? = w.heap[i]? := by rw [heap_at, if_neg (by omega)]
theorem cell_of_blk {w : World} {g : Nat} {t : TypeId} {cs : Array Value} (h : w.heap[g]? = some (.cells cs t (0, 0))) (i : Nat) : w.cell? ⟨g, i, none⟩ = cs[i]? := cell_of_row w g i cs t (0, 0) h
theorem frozen_of_blk {w : World} {g : Nat} {t : TypeId} {cs : Array Value} (h : w.heap[g]? = some (.cells cs t (0, 0))) (i : Nat) : w.frozen? ⟨g, i, none⟩ = false := by simp [World.frozen?, h]
/-- the cells of some points -/
def flatP (l : List P2) : List Value := l.flatMap fun p => [.int .i64 p.1, .int .i64 p.2]
theorem flatP_len (l : List P2) : (flatP l).length = l.length * 2 := by
  induction l with
  | nil => rfl
  | cons p l ih =>
    have : flatP (p :: l) = .int .i64 p.1 :: .int .i64 p.2 :: flatP l := rfl
    rw [this]; simp only [List.length_cons, ih]; omega
theorem flatP_at (l : List P2) : ∀ j, j < l.length → (flatP l)[j * 2]? = some (.int .i64 (l.getD j (0, 0)).1) ∧ (flatP l)[j * 2 + 1]? = some (.int .i64 (l.getD j (0, 0)).2) := by
  induction l with
  | nil => intro j hj; simp at hj
  | cons p l ih =>
    intro j hj
    have e : flatP (p :: l) = .int .i64 p.1 :: .int .i64 p.2 :: flatP l := rfl
    rw [e]
    cases j with
    | zero => exact ⟨rfl, rfl⟩
    | succ j =>
      have := ih j (by simpa using hj)
      have e1 : (j + 1) * 2 = j * 2 + 1 + 1 := by omega
      rw [e1]
      exact this
theorem flatP_snoc (l : List P2) (p : P2) : flatP (l ++ [p]) = flatP l ++ [.int .i64 p.1, .int .i64 p.2] := by
  unfold flatP; simp
/-- the first points' common ends -/
def endsK (a b c d : P2) (k : Nat) : List P2 := ([a, b, c, d].take k).foldl (push (goodP a b c d)) []
def nthP (a b c d : P2) (k : Nat) : P2 := [a, b, c, d].getD k (0, 0)
theorem endsK_succ (a b c d : P2) (k : Nat) (hk : k < 4) : endsK a b c d (k + 1) = push (goodP a b c d) (endsK a b c d k) (nthP a b c d k) := by
  have : k = 0 ∨ k = 1 ∨ k = 2 ∨ k = 3 := by omega
  rcases this with rfl | rfl | rfl | rfl <;> rfl
theorem endsK_four (a b c d : P2) : endsK a b c d 4 = ends a b c d := rfl
theorem push_len (good : P2 → Bool) (out : List P2) (p : P2) : (push good out p).length ≤ out.length + 1 := by
  unfold push; split
  · omega
  · split <;> simp
theorem endsK_len (a b c d : P2) : ∀ k, k ≤ 4 → (endsK a b c d k).length ≤ k
  | 0, _ => by simp [endsK]
  | k + 1, hk => by
    rw [endsK_succ a b c d k (by omega)]
    have h1 := push_len (goodP a b c d) (endsK a b c d k) (nthP a b c d k)
    have h2 := endsK_len a b c d k (by omega)
    omega
/-- is the point among the first of the list? -/
def amongP (l : List P2) (p : P2) (j : Nat) : Bool := (l.take j).contains p
theorem amongP_all (l : List P2) (p : P2) : amongP l p l.length = l.contains p := by unfold amongP; rw [List.take_length]
theorem amongP_succ (l : List P2) (p : P2) (j : Nat) (hj : j < l.length) : amongP l p (j + 1) = (amongP l p j || decide (l.getD j (0, 0) = p)) := by
  unfold amongP
  have e : l.getD j (0, 0) = l[j] := by simp [List.getD, hj]
  rw [List.take_succ_eq_append_getElem hj, e]
  rw [Bool.eq_iff_iff]
  simp only [List.contains_iff_mem, List.mem_append, List.mem_singleton, Bool.or_eq_true, decide_eq_true_eq]
  constructor
  · rintro (h | h)
    · exact .inl h
    · exact .inr h.symm
  · rintro (h | h)
    · exact .inl h
    · exact .inr h.symm
theorem nth_ok {a b c d : P2} (h1 : okP a = true) (h2 : okP b = true) (h3 : okP c = true) (h4 : okP d = true) {k : Nat} (hk : k < 4) : okP (nthP a b c d k) = true := by
  have : k = 0 ∨ k = 1 ∨ k = 2 ∨ k = 3 := by omega
  rcases this with rfl | rfl | rfl | rfl <;> assumption
theorem push_same {good : P2 → Bool} {out : List P2} {p : P2} (h : out.contains p = true) : push good out p = out := by unfold push; rw [if_pos h]
theorem push_bad {good : P2 → Bool} {out : List P2} {p : P2} (h : out.contains p = false) (h2 : good p = false) : push good out p = out := by unfold push; rw [if_neg (by rw [h]; decide), if_neg (by rw [h2]; decide)]
theorem push_new {good : P2 → Bool} {out : List P2} {p : P2} (h : out.contains p = false) (h2 : good p = true) : push good out p = out ++ [p] := by unfold push; rw [if_neg (by rw [h]; decide), if_pos h2]
def EndsPost (a b c d : P2) (w : World) (e : Ending) (w' : World) : Prop :=
  ∃ g cap, e = .returned (.slice (some ⟨g, 0, none⟩) (ends a b c d).length cap) ∧ w.heap.size ≤ g ∧ g < w'.heap.size ∧ (∀ j, j < (ends a b c d).length → w'.cell? ⟨g, j * 2, none⟩ = some (.int .i64 ((ends a b c d).getD j (0, 0)).1) ∧ w'.cell? ⟨g, j * 2 + 1, none⟩ = some (.int .i64 ((ends a b c d).getD j (0, 0)).2)) ∧ Below w.heap.size w w'
/-- what stands at the head of each round -/
structure EndsAt (a b c d : P2) (B k g cap : Nat) (w wr : World) : Prop where
  own : wr.ownsRow (B + 4) 25 2 (.slice (some ⟨g, 0, none⟩) (endsK a b c d k).length cap) (endsK a b c d k).length (flatP (endsK a b c d k))
  gap : g = B + 4 ∨ B + 6 ≤ g
  ba : wr.heap[B]? = some (.cells #[.int .i64 a.1, .int .i64 a.2] 25 (0, 0))
  bb : wr.heap[B + 1]? = some (.cells #[.int .i64 b.1, .int .i64 b.2] 25 (0, 0))
  bc : wr.heap[B + 2]? = some (.cells #[.int .i64 c.1, .int .i64 c.2] 25 (0, 0))
  bd : wr.heap[B + 3]? = some (.cells #[.int .i64 d.1, .int .i64 d.2] 25 (0, 0))
  all : wr.heap[B + 5]? = some (.cells #[.int .i64 a.1, .int .i64 a.2, .int .i64 b.1, .int .i64 b.2, .int .i64 c.1, .int .i64 c.2, .int .i64 d.1, .int .i64 d.2] 25 (0, 0))
  below : Below B w wr
  size : B + 6 ≤ wr.heap.size
theorem EndsAt.lt {a b c d : P2} {B k g cap : Nat} {w wr : World} (h : EndsAt a b c d B k g cap w wr) : g < wr.heap.size := (h.own.lt g rfl).2
theorem EndsAt.nth {a b c d : P2} {B k g cap : Nat} {w wr : World} (h : EndsAt a b c d B k g cap w wr) {i : Nat} (hi : i < 4) : wr.cell? ⟨B + 5, i * 2, none⟩ = some (.int .i64 (nthP a b c d i).1) ∧ wr.cell? ⟨B + 5, i * 2 + 1, none⟩ = some (.int .i64 (nthP a b c d i).2) := by
  have : i = 0 ∨ i = 1 ∨ i = 2 ∨ i = 3 := by omega
  rcases this with rfl | rfl | rfl | rfl <;> exact ⟨(cell_of_blk h.all _).trans rfl, (cell_of_blk h.all _).trans rfl⟩
/-- later worlds, the same list -/
theorem EndsAt.later {a b c d : P2} {B k k' g cap : Nat} {w wr wx : World} (h : EndsAt a b c d B k g cap w wr) (hb : Below wr.heap.size wr wx) (he : endsK a b c d k' = endsK a b c d k) : EndsAt a b c d B k' g cap w wx := by
  have hs := h.size
  have hl := h.lt
  have hg : wr.grownBy wx none := ⟨hb.os, hb.tape, hb.output, hb.size, fun j hj _ => hb.block j hj⟩
  refine ⟨?_, h.gap, (hb.block _ (by omega)).trans h.ba, (hb.block _ (by omega)).trans h.bb, (hb.block _ (by omega)).trans h.bc, (hb.block _ (by omega)).trans h.bd, (hb.block _ (by omega)).trans h.all, h.below.trans (hb.mono (by omega)), Nat.le_trans hs hb.size⟩
  rw [he]
  exact h.own.kept hg (.inr (by simp [Value.ownBlock]))
/-- behind the append -/
theorem EndsAt.grown {a b c d : P2} {B k g cap g' cap' : Nat} {w wr wx wy : World} {p : P2} (h : EndsAt a b c d B k g cap w wr) (hb : Below wr.heap.size wr wx)
    (hown : wy.ownsRow (B + 4) 25 2 (.slice (some ⟨g', 0, none⟩) ((endsK a b c d k).length + 1) cap') ((endsK a b c d k).length + 1) (flatP (endsK a b c d k) ++ [.int .i64 p.1, .int .i64 p.2]))
    (hgrow : wx.grownBy wy (some g)) (hat : some g = some g' ∨ wr.heap.size ≤ g') (he : endsK a b c d (k + 1) = endsK a b c d k ++ [p]) : EndsAt a b c d B (k + 1) g' cap' w wy := by
  have hs := h.size
  have hl := h.lt
  have hx := hb.size
  have hgp := h.gap
  have key : ∀ j, j < B + 6 → j ≠ B + 4 → wy.heap[j]? = wr.heap[j]? := fun j h1 h2 => (hgrow.block j (by omega) (by intro e; injection e; omega)).trans (hb.block j (by omega))
  refine ⟨?_, ?_, (key _ (by omega) (by omega)).trans h.ba, (key _ (by omega) (by omega)).trans h.bb, (key _ (by omega) (by omega)).trans h.bc, (key _ (by omega) (by omega)).trans h.bd, (key _ (by omega) (by omega)).trans h.all, ?_, by have := hgrow.size; omega⟩
  · rw [he, flatP_snoc, List.length_append]
    exact hown
  · rcases hat with e | e
    · injection e with e; omega
    · omega
  · exact (h.below.trans (hb.mono (by omega))).grown hgrow (by omega) (fun j e => by injection e; omega)
theorem info_pt : (Try.prog.info? 25).map (fun i => (i.zero, i.size, i.bytes)) = some (some (.agg #[.int .i64 0, .int .i64 0]), 2, 16) := by kernel_rfl
set_option maxRecDepth 100000 in
set_option maxHeartbeats 4000000 in
theorem l03Ends_any (a0 a1 b0 b1 c0 c1 d0 d1 : Int) (h1 : okPt a0 a1 = true) (h2 : okPt b0 b1 = true) (h3 : okPt c0 c1 = true) (h4 : okPt d0 d1 = true) (w : World) :
    Calls Try.prog 107 #[.agg #[.int .i64 a0, .int .i64 a1], .agg #[.int .i64 b0, .int .i64 b1], .agg #[.int .i64 c0, .int .i64 c1], .agg #[.int .i64 d0, .int .i64 d1]] w (EndsPost (a0, a1) (b0, b1) (c0, c1) (d0, d1) w) := by
  obtain ⟨i0, hi, hzA, hzB, hzC⟩ := info_parts info_pt
  go_enter Try.func107, Try.ntmps107
  go_wp2
  go_loopw [9, 11] (fun v i wr => ∃ k g cap : Nat, k ≤ 4 ∧ i = .int .i64 k ∧ v = .slice (some ⟨g, 0, none⟩) (endsK (a0, a1) (b0, b1) (c0, c1) (d0, d1) k).length cap ∧ EndsAt (a0, a1) (b0, b1) (c0, c1) (d0, d1) w.heap.size k g cap w wr) (fun _ i _ => 4 - (intOf i).toNat)
  case atStart =>
    refine ⟨0, w.heap.size + 4, 0, by omega, rfl, rfl, ?_⟩
    constructor
    · have h := (World.ownsRow_made (base := w.heap.size + 4) (e := 25) (size := 2) ((((w.alloc (.cells #[.int .i64 a0, .int .i64 a1] 25)).alloc (.cells #[.int .i64 b0, .int .i64 b1] 25)).alloc (.cells #[.int .i64 c0, .int .i64 c1] 25)).alloc (.cells #[.int .i64 d0, .int .i64 d1] 25)) #[] 0 (by simp) (by simp) rfl).alloc (.cells #[.int .i64 a0, .int .i64 a1, .int .i64 b0, .int .i64 b1, .int .i64 c0, .int .i64 c1, .int .i64 d0, .int .i64 d1] 25)
      simpa [endsK, flatP] using h
    · exact .inl rfl
    · repeat (first | (refine (heap_new _ _ ?_).trans rfl; simp; done) | (refine (heap_old _ _ ?_).trans ?_; (· simp <;> omega)))
    · repeat (first | (refine (heap_new _ _ ?_).trans rfl; simp; done) | (refine (heap_old _ _ ?_).trans ?_; (· simp <;> omega)))
    · repeat (first | (refine (heap_new _ _ ?_).trans rfl; simp; done) | (refine (heap_old _ _ ?_).trans ?_; (· simp <;> omega)))
    · repeat (first | (refine (heap_new _ _ ?_).trans rfl; simp; done) | (refine (heap_old _ _ ?_).trans ?_; (· simp <;> omega)))
    · repeat (first | (refine (heap_new _ _ ?_).trans rfl; simp; done) | (refine (heap_old _ _ ?_).trans ?_; (· simp <;> omega)))
    · exact (by repeat (first | exact Below.refl _ _ | assumption | (refine bl_alloc ?_ (Nat.le_refl _) _) | (refine bl_set ?_ (by simp <;> omega) _)))
    · simp
  case round =>
    obtain ⟨k, g, cap, hk, rfl, rfl, hE⟩ := hrel
    by_cases hkn : k < 4
    · obtain ⟨wo, rfl⟩ : ∃ wo : World, wo = wr := ⟨_, rfl⟩
      obtain ⟨n0, n1⟩ := hE.nth hkn
      have ha0 := cell_of_blk hE.ba
      have hb0 := cell_of_blk hE.bb
      have hc0 := cell_of_blk hE.bc
      have hd0 := cell_of_blk hE.bd
      have hsz := hE.size
      have hlt := hE.lt
      generalize hp : nthP (a0, a1) (b0, b1) (c0, c1) (d0, d1) k = p at *
      obtain ⟨px, py⟩ := p
      simp only at n0 n1
      have HE := hide hE
      have HP := hide hp
      clear hE hp
      have hbw0 := HE.out.below
      go_wp2
      go_loopw [13, 14] (fun tv kv wr => ∃ (j : Nat) (tw : Bool), j ≤ (endsK (a0, a1) (b0, b1) (c0, c1) (d0, d1) k).length ∧ kv = .int .i64 j ∧ tv = .bool tw ∧ Hid (tw = amongP (endsK (a0, a1) (b0, b1) (c0, c1) (d0, d1) k) (px, py) j) ∧ Below (wo.heap.size + 1) (wo.alloc (.cells #[.int .i64 px, .int .i64 py] 25)) wr) (fun _ kv _ => (endsK (a0, a1) (b0, b1) (c0, c1) (d0, d1) k).length - (intOf kv).toNat)
      case atStart => exact ⟨0, false, by omega, rfl, rfl, rfl, Below.refl _ _⟩
      case round =>
        obtain ⟨j, tw, hj, rfl, rfl, ht, hbx⟩ := hrel
        have hbw : Below w.heap.size w wr := (hbw0.alloc (by omega) _).trans (hbx.mono (by omega))
        have hbr : Below wo.heap.size wo wr := ((Below.refl _ _).alloc (Nat.le_refl _) _).trans (hbx.mono (by omega))
        have hz2 : wo.heap.size < wr.heap.size := by have := hbx.size; simp at this; omega
        have hz3 : g < wr.heap.size := by omega
        have hp0 : wr.cell? ⟨wo.heap.size, 0, none⟩ = some (.int .i64 px) := (hbx.cell (p := ⟨wo.heap.size, 0, none⟩) (by simp)).trans (by simp [go_sem])
        have hp1 : wr.cell? ⟨wo.heap.size, 1, none⟩ = some (.int .i64 py) := (hbx.cell (p := ⟨wo.heap.size, 1, none⟩) (by simp)).trans (by simp [go_sem])
        by_cases hjn : j < (endsK (a0, a1) (b0, b1) (c0, c1) (d0, d1) k).length
        · have hl := endsK_len (a0, a1) (b0, b1) (c0, c1) (d0, d1) k (by omega)
          have hf := flatP_at (endsK (a0, a1) (b0, b1) (c0, c1) (d0, d1) k) j hjn
          have ho0 := (hbr.cell (p := ⟨g, j * 2, none⟩) hlt).trans ((HE.out.own.cellAt (j * 2) (by omega)).trans hf.1)
          have ho1 := (hbr.cell (p := ⟨g, j * 2 + 1, none⟩) hlt).trans ((HE.out.own.cellAt (j * 2 + 1) (by omega)).trans hf.2)
          have hs := amongP_succ (endsK (a0, a1) (b0, b1) (c0, c1) (d0, d1) k) (px, py) j hjn
          rw [← ht.out] at hs
          generalize hq : (endsK (a0, a1) (b0, b1) (c0, c1) (d0, d1) k).getD j (0, 0) = q at *
          obtain ⟨qx, qy⟩ := q
          simp only at ho0 ho1
          generalize hL : (endsK (a0, a1) (b0, b1) (c0, c1) (d0, d1) k).length = L at *
          have HBX := hide hbx
          have HS := hide hs
          have HL := hide hL
          have HQ := hide hq
          clear hs hL hq hf hbx hbr
          cases tw
          · by_cases x1 : qx = px
            · by_cases x2 : qy = py
              · subst x1 x2
                have HS2 : Hid (true = amongP (endsK (a0, a1) (b0, b1) (c0, c1) (d0, d1) k) (qx, qy) (j + 1)) := by unfold Hid; rw [HS.out]; simp
                go_wp2
                refine wp_region_quiet_below (by kernel_rfl) (by kernel_rfl) ?_
                repeat (first | go_big_quiet_step ((fail)) | quiet_step ((fail)))
                refine wpQuiet_nil ?_
                intro w1 hw1
                obtain ⟨pq, hpq⟩ := hw1
                have hb1 := below_of hpq
                clear hpq pq
                have hz4 := hb1.size
                (try simp at hz4)
                obtain ⟨hc1, hf1⟩ := bcell hb1
                have hw1 : Below w.heap.size w w1 := bl_call (by repeat (first | exact Below.refl _ _ | assumption | (refine bl_alloc ?_ (Nat.le_refl _) _) | (refine bl_set ?_ (by simp <;> omega) _))) hb1
                have hz1 : w.heap.size + 0 ≤ w1.heap.size := (by have hq := hb1.size; have hr := hw1.size; (try simp at hq); omega)
                go_wp2
                go_roundw
                case rel => exact ⟨j + 1, true, by omega, by go_num, rfl, HS2, HBX.out.trans (hb1.mono (by omega))⟩
                case measure => simp [intOf]; omega
              · subst x1
                have x3 : ¬ py = qy := fun e => x2 e.symm
                have HS2 : Hid (false = amongP (endsK (a0, a1) (b0, b1) (c0, c1) (d0, d1) k) (qx, py) (j + 1)) := by unfold Hid; rw [HS.out]; simp [x2]
                go_wp2
                refine wp_region_quiet_below (by kernel_rfl) (by kernel_rfl) ?_
                repeat (first | go_big_quiet_step ((fail)) | quiet_step ((fail)))
                refine wpQuiet_nil ?_
                intro w1 hw1
                obtain ⟨pq, hpq⟩ := hw1
                have hb1 := below_of hpq
                clear hpq pq
                have hz4 := hb1.size
                (try simp at hz4)
                obtain ⟨hc1, hf1⟩ := bcell hb1
                have hw1 : Below w.heap.size w w1 := bl_call (by repeat (first | exact Below.refl _ _ | assumption | (refine bl_alloc ?_ (Nat.le_refl _) _) | (refine bl_set ?_ (by simp <;> omega) _))) hb1
                have hz1 : w.heap.size + 0 ≤ w1.heap.size := (by have hq := hb1.size; have hr := hw1.size; (try simp at hq); omega)
                go_wp2
                go_roundw
                case rel => exact ⟨j + 1, false, by omega, by go_num, rfl, HS2, HBX.out.trans (hb1.mono (by omega))⟩
                case measure => simp [intOf]; omega
            · have x3 : ¬ px = qx := fun e => x1 e.symm
              have HS2 : Hid (false = amongP (endsK (a0, a1) (b0, b1) (c0, c1) (d0, d1) k) (px, py) (j + 1)) := by unfold Hid; rw [HS.out]; simp [x1]
              go_wp2
              refine wp_region_quiet_below (by kernel_rfl) (by kernel_rfl) ?_
              repeat (first | go_big_quiet_step ((fail)) | quiet_step ((fail)))
              refine wpQuiet_nil ?_
              intro w1 hw1
              obtain ⟨pq, hpq⟩ := hw1
              have hb1 := below_of hpq
              clear hpq pq
              have hz4 := hb1.size
              (try simp at hz4)
              obtain ⟨hc1, hf1⟩ := bcell hb1
              have hw1 : Below w.heap.size w w1 := bl_call (by repeat (first | exact Below.refl _ _ | assumption | (refine bl_alloc ?_ (Nat.le_refl _) _) | (refine bl_set ?_ (by simp <;> omega) _))) hb1
              have hz1 : w.heap.size + 0 ≤ w1.heap.size := (by have hq := hb1.size; have hr := hw1.size; (try simp at hq); omega)
              go_wp2
              go_roundw
              case rel => exact ⟨j + 1, false, by omega, by go_num, rfl, HS2, HBX.out.trans (hb1.mono (by omega))⟩
              case measure => simp [intOf]; omega
          · have HS2 : Hid (true = amongP (endsK (a0, a1) (b0, b1) (c0, c1) (d0, d1) k) (px, py) (j + 1)) := by unfold Hid; rw [HS.out]; simp
            go_wp2
            refine wp_region_quiet_below (by kernel_rfl) (by kernel_rfl) ?_
            repeat (first | go_big_quiet_step ((fail)) | quiet_step ((fail)))
            refine wpQuiet_nil ?_
            intro w1 hw1
            obtain ⟨pq, hpq⟩ := hw1
            have hb1 := below_of hpq
            clear hpq pq
            have hz4 := hb1.size
            (try simp at hz4)
            obtain ⟨hc1, hf1⟩ := bcell hb1
            have hw1 : Below w.heap.size w w1 := bl_call (by repeat (first | exact Below.refl _ _ | assumption | (refine bl_alloc ?_ (Nat.le_refl _) _) | (refine bl_set ?_ (by simp <;> omega) _))) hb1
            have hz1 : w.heap.size + 0 ≤ w1.heap.size := (by have hq := hb1.size; have hr := hw1.size; (try simp at hq); omega)
            go_wp2
            go_roundw
            case rel => exact ⟨j + 1, true, by omega, by go_num, rfl, HS2, HBX.out.trans (hb1.mono (by omega))⟩
            case measure => simp [intOf]; omega
        · obtain rfl : j = (endsK (a0, a1) (b0, b1) (c0, c1) (d0, d1) k).length := by omega
          have hA := ht.out
          rw [amongP_all] at hA
          have hok : okPt px py = true := by
            have := nth_ok (a := (a0, a1)) (b := (b0, b1)) (c := (c0, c1)) (d := (d0, d1)) h1 h2 h3 h4 hkn
            rw [HP.out] at this; exact this
          have hK := endsK_succ (a0, a1) (b0, b1) (c0, c1) (d0, d1) k hkn
          rw [HP.out] at hK
          have ca : ∀ i, wr.cell? ⟨w.heap.size, i, none⟩ = _ := fun i => (hbr.cell (p := ⟨w.heap.size, i, none⟩) (by show w.heap.size < _; omega)).trans (ha0 i)
          have cb : ∀ i, wr.cell? ⟨w.heap.size + 1, i, none⟩ = _ := fun i => (hbr.cell (p := ⟨w.heap.size + 1, i, none⟩) (by show w.heap.size + 1 < _; omega)).trans (hb0 i)
          have cc : ∀ i, wr.cell? ⟨w.heap.size + 1 + 1, i, none⟩ = _ := fun i => (hbr.cell (p := ⟨w.heap.size + 1 + 1, i, none⟩) (by show w.heap.size + 1 + 1 < _; omega)).trans (hc0 i)
          have cd : ∀ i, wr.cell? ⟨w.heap.size + 1 + 1 + 1, i, none⟩ = _ := fun i => (hbr.cell (p := ⟨w.heap.size + 1 + 1 + 1, i, none⟩) (by show w.heap.size + 1 + 1 + 1 < _; omega)).trans (hd0 i)
          have hza : w.heap.size < wr.heap.size := by omega
          have hzb : w.heap.size + 1 < wr.heap.size := by omega
          have hzc : w.heap.size + 1 + 1 < wr.heap.size := by omega
          have hzd : w.heap.size + 1 + 1 + 1 < wr.heap.size := by omega
          have HBR := hide hbr
          clear ha0 hb0 hc0 hd0 hbx ht n0 n1 hbr
          cases tw
          · cases o1 : onB a0 a1 b0 b1 px py
            · have HK := hide (show endsK (a0, a1) (b0, b1) (c0, c1) (d0, d1) (k + 1) = endsK (a0, a1) (b0, b1) (c0, c1) (d0, d1) k by rw [hK, push_bad hA.symm (by show (onB _ _ _ _ _ _ && _) = false; rw [o1]; rfl)])
              clear hA hK
              go_wp2_with (first | (go_at_call 130; (with_reducible refine (l03On_any _ _ _ _ _ _ (by assumption) (by assumption) (by assumption) _).mono ?_); rintro e w1 ⟨rfl, hb1⟩; obtain ⟨hc1, hf1⟩ := bcell hb1; have hw1 : Below w.heap.size w w1 := bl_call (by repeat (first | exact Below.refl _ _ | assumption | (refine bl_alloc ?_ (Nat.le_refl _) _) | (refine bl_set ?_ (by simp <;> omega) _))) hb1; have hz1 : w.heap.size + 6 ≤ w1.heap.size := (by have hq := hb1.size; have hr := hw1.size; (try simp at hq); omega); have hza : w.heap.size < w1.heap.size := (by omega); have hzb : w.heap.size + 1 < w1.heap.size := (by omega); have hzc : w.heap.size + 1 + 1 < w1.heap.size := (by omega); have hzd : w.heap.size + 1 + 1 + 1 < w1.heap.size := (by omega); have hze : w.heap.size + 1 + 1 + 1 + 1 < w1.heap.size := (by omega); have hzf : w.heap.size + 1 + 1 + 1 + 1 + 1 < w1.heap.size := (by omega); have hz4 := hb1.size; (try simp at hz4); (try have hz5 := Nat.lt_of_succ_le hz4)))
              go_roundw
              case rel => exact ⟨k + 1, g, cap, by omega, by go_num, by rw [HK.out], HE.out.later (HBR.out.trans (hb1.mono (by omega))) HK.out⟩
              case measure => simp [intOf]; omega
            · cases o2 : onB c0 c1 d0 d1 px py
              · have HK := hide (show endsK (a0, a1) (b0, b1) (c0, c1) (d0, d1) (k + 1) = endsK (a0, a1) (b0, b1) (c0, c1) (d0, d1) k by rw [hK, push_bad hA.symm (by show (onB _ _ _ _ _ _ && onB _ _ _ _ _ _) = false; rw [o1, o2]; rfl)])
                clear hA hK
                go_wp2_with fail
                (with_reducible refine (l03On_any _ _ _ _ _ _ (by assumption) (by assumption) (by assumption) _).mono ?_)
                rintro e w1 ⟨rfl, hb1⟩
                obtain ⟨hc1, hf1⟩ := bcell hb1
                have hq1 := hb1.size
                have hbw1 : Below w.heap.size w w1 := hbw.trans (hb1.mono (by omega))
                have HBR1 := hide (HBR.out.trans (hb1.mono (by omega)))
                have hya : w.heap.size < w1.heap.size := by omega
                have hyb : w.heap.size + 1 < w1.heap.size := by omega
                have hyc : w.heap.size + 1 + 1 < w1.heap.size := by omega
                have hyd : w.heap.size + 1 + 1 + 1 < w1.heap.size := by omega
                have hye : wo.heap.size < w1.heap.size := by omega
                go_wp2_with fail
                (with_reducible refine (l03On_any _ _ _ _ _ _ (by assumption) (by assumption) (by assumption) _).mono ?_)
                rintro e w2 ⟨rfl, hb2⟩
                obtain ⟨hc2, hf2⟩ := bcell hb2
                have hq2 := hb2.size
                have hxe : wo.heap.size < w2.heap.size := by omega
                have HBR2 := hide (HBR1.out.trans (hb2.mono (by omega)))
                go_wp2
                go_roundw
                case rel => exact ⟨k + 1, g, cap, by omega, by go_num, by rw [HK.out], HE.out.later HBR2.out HK.out⟩
                case measure => simp [intOf]; omega
              · have HK := hide (show endsK (a0, a1) (b0, b1) (c0, c1) (d0, d1) (k + 1) = endsK (a0, a1) (b0, b1) (c0, c1) (d0, d1) k ++ [(px, py)] by rw [hK, push_new hA.symm (by show (onB _ _ _ _ _ _ && onB _ _ _ _ _ _) = true; rw [o1, o2]; rfl)])
                clear hA hK
                go_wp2_with fail
                (with_reducible refine (l03On_any _ _ _ _ _ _ (by assumption) (by assumption) (by assumption) _).mono ?_)
                rintro e w1 ⟨rfl, hb1⟩
                obtain ⟨hc1, hf1⟩ := bcell hb1
                have hq1 := hb1.size
                have hbw1 : Below w.heap.size w w1 := hbw.trans (hb1.mono (by omega))
                have HBR1 := hide (HBR.out.trans (hb1.mono (by omega)))
                have hya : w.heap.size < w1.heap.size := by omega
                have hyb : w.heap.size + 1 < w1.heap.size := by omega
                have hyc : w.heap.size + 1 + 1 < w1.heap.size := by omega
                have hyd : w.heap.size + 1 + 1 + 1 < w1.heap.size := by omega
                have hye : wo.heap.size < w1.heap.size := by omega
                go_wp2_with fail
                (with_reducible refine (l03On_any _ _ _ _ _ _ (by assumption) (by assumption) (by assumption) _).mono ?_)
                rintro e w2 ⟨rfl, hb2⟩
                obtain ⟨hc2, hf2⟩ := bcell hb2
                have hq2 := hb2.size
                have hxe : wo.heap.size < w2.heap.size := by omega
                have HBR2 := hide (HBR1.out.trans (hb2.mono (by omega)))
                have hl := endsK_len (a0, a1) (b0, b1) (c0, c1) (d0, d1) k (by omega)
                go_wp2_with (at_builtin; refine wpList_append_lies _ (by rfl) (.tmp 58) (.tmp 60) _ (by rfl) (w.heap.size + 4) 25 i0 _ 2 16 Try.underlying107 hi hzA hzB hzC rfl (by decide) _ _ _ (by rfl) (((HE.out.later HBR2.out rfl).own).alloc _) ⟨w2.heap.size, 0, none⟩ 1 1 [.int .i64 px, .int .i64 py] (by rfl) rfl (World.news_of_block (heap_alloc_new w2 _)) (by intro u hu; simp at hu; rcases hu with rfl | rfl <;> rfl) (by decide) (by simp only [maxLen]; omega) (by omega) (by simp; omega) (w2.heap.size + 1) (by simp) ?_; intro g' cap' w3 hown hgrow hat hlt3)
                have hE3 := EndsAt.grown (p := (px, py)) HE.out (HBR2.out.alloc (by omega) _) hown hgrow (hat.imp id (fun e => by omega)) HK.out
                go_roundw
                case rel => exact ⟨k + 1, g', cap', by omega, by go_num, by rw [HK.out]; simp, hE3⟩
                case measure => simp [intOf]; omega
          · have HK := hide (show endsK (a0, a1) (b0, b1) (c0, c1) (d0, d1) (k + 1) = endsK (a0, a1) (b0, b1) (c0, c1) (d0, d1) k by rw [hK, push_same hA.symm])
            clear hA hK
            go_wp2
            go_roundw
            case rel => exact ⟨k + 1, g, cap, by omega, by go_num, by rw [HK.out], HE.out.later HBR.out HK.out⟩
            case measure => simp [intOf]; omega
    · obtain rfl : k = 4 := by omega
      have hb := hE.below
      have hlt := hE.lt
      have hg := hE.gap
      have hl := fun j hj => flatP_at (ends (a0, a1) (b0, b1) (c0, c1) (d0, d1)) j hj
      have HC := hide (fun j (hj : j < (ends (a0, a1) (b0, b1) (c0, c1) (d0, d1)).length) => (⟨(hE.own.cellAt (j * 2) (by show _ < (ends _ _ _ _).length * 2; omega)).trans (hl j hj).1, (hE.own.cellAt (j * 2 + 1) (by show _ < (ends _ _ _ _).length * 2; omega)).trans (hl j hj).2⟩ : wr.cell? ⟨g, j * 2, none⟩ = _ ∧ wr.cell? ⟨g, j * 2 + 1, none⟩ = _))
      clear hl hE
      go_wp2
      go_ret
      exact ⟨g, cap, rfl, by omega, hlt, HC.out, hb⟩
end Go.Proofs.Ythellegojnndlaa
