/-
  CONTRACTS of ScaleLinear (packages impl and spec): an expression times a fraction. Conditions: what the slices hold.
-/
import Derived.Test.YthojgmhionekbaaScaA
import Derived.Test.YthojgmhionekbaaLinW
import Derived.Test.YthojgmhionekbaaFrLaw
import Derived.Test.YthojgmhionekbaaGrow
import Derived.Test.YthojgmhionekbaaTail
import Derived.Deep.RegionHeld3
import Derived.Deep.AppendLies
namespace Go.Proofs.Ythojgmhionekbaa
open Go.RowKit Go.Sort
set_option linter.unusedVariables false
attribute [local go_sem] cell_grow frozen_grow
/-- a term times a fraction; the first terms; the first error among them -/
def scT (n d : Int) (t : T3) : T3 := (t.1, mulN t.2.1 t.2.2 n d, mulD t.2.1 t.2.2 n d)
def scP (L : List T3) (n d : Int) : Nat → List T3
  | 0 => []
  | k + 1 => scP L n d k ++ [scT n d (L.getD k t3d)]
def scE (L : List T3) (n d : Int) : Nat → Int
  | 0 => 0
  | k + 1 => if scE L n d k = 0 then mulC (L.getD k t3d).2.1 (L.getD k t3d).2.2 n d else scE L n d k
theorem scE_stay (L : List T3) (n d : Int) {k : Nat} (h : scE L n d k ≠ 0) : ∀ m, scE L n d (k + m) = scE L n d k
  | 0 => rfl
  | m + 1 => by
    have ih := scE_stay L n d h m
    show (if scE L n d (k + m) = 0 then _ else scE L n d (k + m)) = _
    rw [ih, if_neg h]
theorem scE_to (L : List T3) (n d : Int) {k m : Nat} (h : scE L n d k ≠ 0) (hm : k ≤ m) : scE L n d m = scE L n d k := by
  obtain ⟨j, rfl⟩ : ∃ j, m = k + j := ⟨m - k, by omega⟩
  exact scE_stay L n d h j
theorem scP_len (L : List T3) (n d : Int) : ∀ k, (scP L n d k).length = k
  | 0 => rfl
  | k + 1 => by rw [scP, List.length_append, scP_len L n d k]; rfl
def slK (a b : Int) (L : List T3) (n d : Int) : Int := if linOk a b L && okFr n d then (if mulC a b n d = 0 then (if n = 0 then 0 else scE L n d L.length) else mulC a b n d) else 1
def slA (a b : Int) (L : List T3) (n d : Int) : Int := if slK a b L n d = 0 then mulN a b n d else 0
def slB (a b : Int) (L : List T3) (n d : Int) : Int := if slK a b L n d = 0 then mulD a b n d else 0
def slL (a b : Int) (L : List T3) (n d : Int) : List T3 := if slK a b L n d = 0 then (if n = 0 then [] else scP L n d L.length) else []
/-- what a call that makes an expression leaves -/
def LinPost (w : World) (a b c : Int) (L : List T3) (e : Ending) (w' : World) : Prop := ∃ v, e = .returned (.tuple #[.agg #[.int .i64 a, .int .i64 b, v], .int .i64 c]) ∧ TermsOwn w' v L ∧ (∀ g, v.ownBlock = some g → w.heap.size ≤ g ∧ g < w'.heap.size) ∧ Below w.heap.size w w'
theorem mul_zero_f {a b d : Int} (h1 : okFr a b = true) (h2 : okFr 0 d = true) : mulC a b 0 d = 0 ∧ mulN a b 0 d = 0 ∧ mulD a b 0 d = 1 :=
  mul_of h1 h2 ok_zero (by rw [qv_01, (qv_zero (okFr_d h2)).mpr rfl]; grind)
theorem linOk_f {a b : Int} {L : List T3} (h : linOk a b L = true) : okFr a b = true := by
  unfold linOk at h
  simp only [Bool.and_eq_true] at h
  exact h.1.1
theorem linOk_n {a b : Int} {L : List T3} (h : linOk a b L = true) : L.length ≤ 12 := by
  unfold linOk at h
  simp only [Bool.and_eq_true, decide_eq_true_eq] at h
  first | exact h.1.2 | omega
/-- rows of terms -/
def flat3 (l : List T3) : List Value := l.flatMap fun p => [.string p.1, .int .i64 p.2.1, .int .i64 p.2.2]
theorem flat3_len (l : List T3) : (flat3 l).length = l.length * 3 := by
  induction l with
  | nil => rfl
  | cons p l ih =>
    have : flat3 (p :: l) = .string p.1 :: .int .i64 p.2.1 :: .int .i64 p.2.2 :: flat3 l := rfl
    rw [this]; simp only [List.length_cons, ih]; omega
theorem flat3_at (l : List T3) : ∀ j, j < l.length → (flat3 l)[j * 3]? = some (.string (l.getD j t3d).1) ∧ (flat3 l)[j * 3 + 1]? = some (.int .i64 (l.getD j t3d).2.1) ∧ (flat3 l)[j * 3 + 2]? = some (.int .i64 (l.getD j t3d).2.2) := by
  induction l with
  | nil => intro j hj; simp at hj
  | cons p l ih =>
    intro j hj
    have e : flat3 (p :: l) = .string p.1 :: .int .i64 p.2.1 :: .int .i64 p.2.2 :: flat3 l := rfl
    rw [e]
    cases j with
    | zero => exact ⟨rfl, rfl, rfl⟩
    | succ j =>
      have := ih j (by simpa using hj)
      have e1 : (j + 1) * 3 = j * 3 + 1 + 1 + 1 := by omega
      rw [e1]
      exact this
theorem flat3_snoc (l : List T3) (p : T3) : flat3 (l ++ [p]) = flat3 l ++ [.string p.1, .int .i64 p.2.1, .int .i64 p.2.2] := by
  unfold flat3; simp
/-- a row that is owned holds the terms -/
theorem own_terms {w : World} {B n : Nat} {t : TypeId} {v : Value} {l : List T3} (h : w.ownsRow B t 3 v n (flat3 l)) (hn : l.length = n) : TermsOwn w v l := by
  have hv := h
  rcases h.2 with ⟨rfl, h0⟩ | ⟨g, cap, cur, rfl, hb, hgg, h1, h2, h3, h4⟩
  · have : l = [] := List.eq_nil_of_length_eq_zero (by omega)
    subst this
    exact ⟨none, 0, rfl, fun h => absurd h (by simp)⟩
  · refine ⟨_, cap, by rw [hn], fun _ => ⟨g, rfl, (hv.lt g rfl).2, fun j hj => ?_, fun q => ug_frozen hgg q⟩⟩
    obtain ⟨f1, f2, f3⟩ := flat3_at l j hj
    exact ⟨(hv.cellAt (j * 3) (by omega)).trans f1, (hv.cellAt (j * 3 + 1) (by omega)).trans f2, (hv.cellAt (j * 3 + 2) (by omega)).trans f3⟩
theorem own_val3 {w : World} {B n : Nat} {t : TypeId} {v : Value} {xs : List Value} {sz : Nat} (h : w.ownsRow B t sz v n xs) : ∃ A c, v = .slice A n c := by
  rcases h.2 with ⟨rfl, h0⟩ | ⟨g, cap, cur, rfl, _⟩
  · exact ⟨none, 0, by rw [h0]⟩
  · exact ⟨_, cap, rfl⟩
/-- a box at block P that holds a list that grows, made behind world w0 -/
structure Boxed (w0 : World) (P : Nat) (c0 c1 : Value) (t : TypeId) (size n : Nat) (xs : List Value) (v : Value) (wr : World) : Prop where
  own : wr.ownsRow (P + 1) t size v n xs
  lt : P < wr.heap.size
  cell0 : wr.cell? ⟨P, 0, none⟩ = some c0
  cell1 : wr.cell? ⟨P, 1, none⟩ = some c1
  cell2 : wr.cell? ⟨P, 2, none⟩ = some v
  free : ∀ q, wr.frozen? ⟨P, q, none⟩ = false
  below : Below w0.heap.size w0 wr
  base : w0.heap.size ≤ P
theorem Boxed.later {w0 : World} {P : Nat} {c0 c1 : Value} {t : TypeId} {size n : Nat} {xs : List Value} {v : Value} {wr wx : World} (h : Boxed w0 P c0 c1 t size n xs v wr) (hb : Below wr.heap.size wr wx) : Boxed w0 P c0 c1 t size n xs v wx := by
  have hg : wr.grownBy wx none := ⟨hb.os, hb.tape, hb.output, hb.size, fun j hj _ => hb.block j hj⟩
  exact ⟨h.own.kept hg (by cases v.ownBlock <;> simp), Nat.lt_of_lt_of_le h.lt hb.size, (hb.cell (p := ⟨P, 0, none⟩) h.lt).trans h.cell0, (hb.cell (p := ⟨P, 1, none⟩) h.lt).trans h.cell1, (hb.cell (p := ⟨P, 2, none⟩) h.lt).trans h.cell2, fun q => (hb.frozen (p := ⟨P, q, none⟩) h.lt).trans (h.free q), h.below.trans (hb.mono h.below.size), h.base⟩
/-- behind an append and the store of its slice into the box -/
theorem Boxed.put {w0 : World} {P : Nat} {c0 c1 : Value} {t : TypeId} {size n : Nat} {xs : List Value} {v : Value} {wr wy : World} {n' g' cap' : Nat} {xs' : List Value} (h : Boxed w0 P c0 c1 t size n xs v wr)
    (hown : wy.ownsRow (P + 1) t size (.slice (some ⟨g', 0, none⟩) n' cap') n' xs') (hgrow : wr.grownBy wy v.ownBlock) : Boxed w0 P c0 c1 t size n' xs' (.slice (some ⟨g', 0, none⟩) n' cap') (wy.setCell ⟨P, 2, none⟩ (.slice (some ⟨g', 0, none⟩) n' cap')) := by
  have hne : some P ≠ v.ownBlock := fun e => by have := h.own.lt P e.symm; omega
  have e1 : wy.heap[P]? = wr.heap[P]? := hgrow.block P h.lt hne
  have hc : ∀ q, wy.cell? ⟨P, q, none⟩ = wr.cell? ⟨P, q, none⟩ := fun q => World.cell?_of_block (a := ⟨P, q, none⟩) e1
  have hs := hgrow.size
  have ne : ∀ {x y : Nat}, x ≠ y → (⟨P, x, none⟩ : Addr) ≠ ⟨P, y, none⟩ := fun h e => h (by injection e)
  have hgP : P + 1 ≤ g' := (hown.lt g' rfl).1
  have hg2 : wy.grownBy (wy.setCell ⟨P, 2, none⟩ (.slice (some ⟨g', 0, none⟩) n' cap')) (some P) := only_set (only_refl _ _) _ _
  refine ⟨hown.kept hg2 (.inr (by simp [Value.ownBlock]; omega)), by have := h.lt; simp [World.setCell]; omega, ?_, ?_, ?_, ?_, ?_, h.base⟩
  · rw [World.cell?_setCell_other _ _ _ _ (ne (by omega))]; exact (hc 0).trans h.cell0
  · rw [World.cell?_setCell_other _ _ _ _ (ne (by omega))]; exact (hc 1).trans h.cell1
  · exact World.cell?_setCell_same _ _ _ ((hc 2).trans h.cell2)
  · intro q
    rw [World.frozen?_setCell]
    exact (World.frozen?_of_block (a := ⟨P, q, none⟩) e1).trans (h.free q)
  · exact (h.below.grown hgrow h.below.size (fun j e => by have := h.own.lt j e; have := h.base; omega)).setCell (p := ⟨P, 2, none⟩) h.base _
theorem Boxed.mid {w0 : World} {P : Nat} {c0 c1 : Value} {t : TypeId} {size n : Nat} {xs : List Value} {v : Value} {wr wy : World} (h : Boxed w0 P c0 c1 t size n xs v wr) (hgrow : wr.grownBy wy v.ownBlock) : wy.cell? ⟨P, 2, none⟩ = some v ∧ wy.frozen? ⟨P, 2, none⟩ = false := by
  have hne : some P ≠ v.ownBlock := fun e => by have := h.own.lt P e.symm; omega
  have e1 : wy.heap[P]? = wr.heap[P]? := hgrow.block P h.lt hne
  exact ⟨(World.cell?_of_block (a := ⟨P, 2, none⟩) e1).trans h.cell2, (World.frozen?_of_block (a := ⟨P, 2, none⟩) e1).trans (h.free 2)⟩
/-- what comes of it -/
theorem sl_err {a b : Int} {L : List T3} {n d : Int} (h1 : linOk a b L = true) (h2 : okFr n d = true) (h3 : mulC a b n d ≠ 0) : slK a b L n d = mulC a b n d ∧ slA a b L n d = 0 ∧ slB a b L n d = 0 ∧ slL a b L n d = [] := by
  have hK : slK a b L n d = mulC a b n d := by unfold slK; rw [h1, h2]; simp [h3]
  exact ⟨hK, by unfold slA; rw [hK, if_neg h3], by unfold slB; rw [hK, if_neg h3], by unfold slL; rw [hK, if_neg h3]⟩
theorem sl_zero {a b : Int} {L : List T3} {d : Int} (h1 : linOk a b L = true) (h2 : okFr 0 d = true) : slK a b L 0 d = 0 ∧ slA a b L 0 d = 0 ∧ slB a b L 0 d = 1 ∧ slL a b L 0 d = [] := by
  obtain ⟨m1, m2, m3⟩ := mul_zero_f (linOk_f h1) h2
  have hK : slK a b L 0 d = 0 := by unfold slK; rw [h1, h2]; simp [m1]
  exact ⟨hK, by unfold slA; rw [hK, if_pos rfl, m2], by unfold slB; rw [hK, if_pos rfl, m3], by unfold slL; rw [hK, if_pos rfl, if_pos rfl]⟩
theorem sl_bad {a b : Int} {L : List T3} {n d : Int} (h1 : linOk a b L = true) (h2 : okFr n d = true) (h3 : mulC a b n d = 0) (h4 : n ≠ 0) {k : Nat} (hk : k < L.length) (h5 : scE L n d k = 0) (h6 : mulC (L.getD k t3d).2.1 (L.getD k t3d).2.2 n d ≠ 0) :
    slK a b L n d = mulC (L.getD k t3d).2.1 (L.getD k t3d).2.2 n d ∧ slA a b L n d = 0 ∧ slB a b L n d = 0 ∧ slL a b L n d = [] := by
  have e : scE L n d (k + 1) = mulC (L.getD k t3d).2.1 (L.getD k t3d).2.2 n d := by rw [scE, if_pos h5]
  have e2 : scE L n d L.length = mulC (L.getD k t3d).2.1 (L.getD k t3d).2.2 n d := by rw [scE_to L n d (k := k + 1) (by rw [e]; exact h6) (by omega), e]
  have hK : slK a b L n d = mulC (L.getD k t3d).2.1 (L.getD k t3d).2.2 n d := by unfold slK; rw [h1, h2]; simp [h3, h4, e2]
  exact ⟨hK, by unfold slA; rw [hK, if_neg h6], by unfold slB; rw [hK, if_neg h6], by unfold slL; rw [hK, if_neg h6]⟩
theorem sl_good {a b : Int} {L : List T3} {n d : Int} (h1 : linOk a b L = true) (h2 : okFr n d = true) (h3 : mulC a b n d = 0) (h4 : n ≠ 0) (h5 : scE L n d L.length = 0) :
    slK a b L n d = 0 ∧ slA a b L n d = mulN a b n d ∧ slB a b L n d = mulD a b n d ∧ slL a b L n d = scP L n d L.length := by
  have hK : slK a b L n d = 0 := by unfold slK; rw [h1, h2]; simp [h3, h4, h5]
  exact ⟨hK, by unfold slA; rw [hK, if_pos rfl], by unfold slB; rw [hK, if_pos rfl], by unfold slL; rw [hK, if_pos rfl, if_neg h4]⟩
end Go.Proofs.Ythojgmhionekbaa
