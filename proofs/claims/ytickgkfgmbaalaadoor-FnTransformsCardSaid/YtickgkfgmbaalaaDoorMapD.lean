/-
  CONTRACTS of the program's working with fractions until one does not exist (impl.fracWork: two, dot), of the reference's l04Two, and of the determinant. What is turned: the block of the working's code alone. Conditions: integers of 64 bits; the fractions of dot are valid.
-/
import Derived.Test.YtickgkfgmbaalaaDoorMapV
import Derived.Test.YtickgkfgmbaalaaDoorChain
import Derived.Test.YtickgkfgmbaalaaDoorMapLaw
namespace Go.Proofs.YtickgkfgmbaalaaDoor
open Go.RowKit Go.Sort
set_option linter.unusedVariables false
attribute [local go_sem] cell_grow frozen_grow
attribute [local go_sem] Oper.quietAt Oper.quietUpon

/-- the working's block, at a code -/
def fwO (s : Int) : Obj := .cells #[.int .i64 s] 67 (0, 0)
theorem leaves_store {w w1 : World} {bw : Nat} {s k : Int} (hb : Below w.heap.size w w1) (hlt : bw < w.heap.size) (h : w.heap[bw]? = some (fwO s)) : Leaves bw (fwO k) w (w1.setCell ⟨bw, 0, none⟩ (.int .i64 k)) := by
  have h1 : w1.heap[bw]? = some (.cells #[.int .i64 s] 67 (0, 0)) := (hb.block bw hlt).trans h
  refine ⟨⟨hb.os, hb.tape, hb.output, by simpa [World.setCell] using hb.size, fun j hj hne => ?_⟩, ?_⟩
  · exact (Below.heap_setCell w1 ⟨bw, 0, none⟩ _ j (by rintro rfl; exact hne rfl)).trans (hb.block j hj)
  · exact heap_set h1 0 _
theorem Leaves.set {w w' : World} {bw : Nat} {o : Obj} (h : Leaves bw o w w') (hlt : bw < w.heap.size) {q : Addr} (hq : w.heap.size ≤ q.block) (u : Value) : Leaves bw o w (w'.setCell q u) := by
  refine ⟨⟨h.1.os, h.1.tape, h.1.output, by simpa [World.setCell] using h.1.size, fun j hj hne => ?_⟩, ?_⟩
  · exact (Below.heap_setCell w' q _ j (by intro e; omega)).trans (h.1.block j hj hne)
  · exact (Below.heap_setCell w' q _ bw (by intro e; omega)).trans h.2
theorem leaves_below {w w' : World} {bw : Nat} {o : Obj} (hb : Below w.heap.size w w') (hlt : bw < w.heap.size) (h : w.heap[bw]? = some o) : Leaves bw o w w' :=
  ⟨⟨hb.os, hb.tape, hb.output, hb.size, fun j hj _ => hb.block j hj⟩, (hb.block bw hlt).trans h⟩
theorem Leaves.drew {w w' : World} {bw : Nat} {o : Obj} (h : Leaves bw o w w') : Leaves bw o w w'.drew := ⟨⟨h.1.os, h.1.tape, h.1.output, h.1.size, h.1.block⟩, h.2⟩

set_option maxRecDepth 100000 in
set_option maxHeartbeats 4000000 in
theorem two_add0 (bw : Nat) (a b c d : Int) (ha : I64 a) (hc : I64 c) (w : World) (hlt : bw < w.heap.size) (hst : w.heap[bw]? = some (fwO 0)) :
    Calls Tryd.prog 31 #[.pointer (some ⟨bw, 0, none⟩), .func (.func 36) #[] #[], .agg #[.int .i64 a, .int .i64 b], .agg #[.int .i64 c, .int .i64 d]] w fun e w' => e = .returned (.agg #[.int .i64 (addN a b c d), .int .i64 (addD a b c d)]) ∧ Leaves bw (fwO (addC a b c d)) w w' := by
  obtain ⟨ha0, ha1⟩ := ha
  obtain ⟨hq0, hq1⟩ := hc
  have k0 : w.cell? ⟨bw, 0, none⟩ = some (.int .i64 0) := (cell_of_row w bw 0 _ _ _ hst).trans rfl
  have k1 : w.frozen? ⟨bw, 0, none⟩ = false := frozen_blk hst 0
  have l1 : bw < w.heap.size + 1 := by omega
  have l2 : bw < w.heap.size + 1 + 1 := by omega
  have l3 : bw < w.heap.size + 1 + 1 + 1 := by omega
  have HST := hide hst
  clear hst
  go_enter Tryd.func31, Tryd.ntmps31
  go_wp2_with fail
  (with_reducible refine (addFrac_i a b c d ha0 ha1 hq0 hq1 _).mono ?_)
  rintro e wC ⟨rfl, hbC⟩
  obtain ⟨hcC, hfC⟩ := bcell hbC
  have hwC : Below w.heap.size w wC := bl_call (by repeat (first | (with_reducible refine bl_set ?_ (by simp <;> omega) _) | (with_reducible refine bl_alloc ?_ (Nat.le_refl _) _) | (with_reducible refine Below.drew ?_) | (with_reducible assumption) | (with_reducible exact Below.refl _ _))) hbC
  have hz0 : w.heap.size + 1 + 1 + 1 ≤ wC.heap.size := by have hq := hbC.size; simp at hq; omega
  have n1 : ¬ bw = wC.heap.size := by omega
  have n2 : ¬ wC.heap.size = bw := by omega
  have n3 : bw < wC.heap.size := by omega
  have n4 : ¬ bw = w.heap.size + 1 + 1 := by omega
  have n5 : ¬ w.heap.size + 1 + 1 = bw := by omega
  have n6 : w.heap.size + 1 + 1 < wC.heap.size := by omega
  have n7 : w.heap.size + 1 < wC.heap.size := by omega
  have n8 : w.heap.size < wC.heap.size := by omega
  go_wp2
  refine bodyPost_ret (v := .agg #[.int .i64 (addN a b c d), .int .i64 (addD a b c d)]) ?_ rfl ⟨rfl, ?_⟩
  · simp (maxDischargeDepth := 9) [results, Tryd.results31, go_sem, *]
  · repeat (first | (with_reducible refine leaves_store ?_ hlt HST.out) | (with_reducible refine Leaves.alloc ?_ hlt _) | (with_reducible refine Leaves.set ?_ hlt (by simp <;> omega) _))
    exact (by repeat (first | (with_reducible refine bl_set ?_ (by simp <;> omega) _) | (with_reducible refine bl_alloc ?_ (Nat.le_refl _) _) | (with_reducible refine Below.drew ?_) | (with_reducible assumption) | (with_reducible exact Below.refl _ _)))
theorem two_adds (bw : Nat) (s : Int) (hs : ¬ s = 0) (a b c d : Int) (w : World) (hlt : bw < w.heap.size) (hst : w.heap[bw]? = some (fwO s)) :
    Calls Tryd.prog 31 #[.pointer (some ⟨bw, 0, none⟩), .func (.func 36) #[] #[], .agg #[.int .i64 a, .int .i64 b], .agg #[.int .i64 c, .int .i64 d]] w fun e w' => e = .returned (.agg #[.int .i64 0, .int .i64 0]) ∧ Leaves bw (fwO s) w w' := by
  have k0 : w.cell? ⟨bw, 0, none⟩ = some (.int .i64 s) := (cell_of_row w bw 0 _ _ _ hst).trans rfl
  have q1 : (s == 0) = false := by simpa using hs
  have q2 : (s != 0) = true := by simpa using hs
  have l1 : bw < w.heap.size + 1 := by omega
  have l2 : bw < w.heap.size + 1 + 1 := by omega
  have l3 : bw < w.heap.size + 1 + 1 + 1 := by omega
  have HST := hide hst
  have HLT := hlt
  clear hst hs
  go_enter Tryd.func31, Tryd.ntmps31
  go_wp2
  refine bodyPost_ret (v := .agg #[.int .i64 0, .int .i64 0]) ?_ rfl ⟨rfl, leaves_below (by repeat (first | (with_reducible refine bl_set ?_ (by simp <;> omega) _) | (with_reducible refine bl_alloc ?_ (Nat.le_refl _) _) | (with_reducible refine Below.drew ?_) | (with_reducible assumption) | (with_reducible exact Below.refl _ _))) hlt HST.out⟩
  simp [results, Tryd.results31, go_sem, *]
set_option maxRecDepth 100000 in
set_option maxHeartbeats 4000000 in
theorem two_mul0 (bw : Nat) (a b c d : Int) (ha : I64 a) (hc : I64 c) (w : World) (hlt : bw < w.heap.size) (hst : w.heap[bw]? = some (fwO 0)) :
    Calls Tryd.prog 31 #[.pointer (some ⟨bw, 0, none⟩), .func (.func 59) #[] #[], .agg #[.int .i64 a, .int .i64 b], .agg #[.int .i64 c, .int .i64 d]] w fun e w' => e = .returned (.agg #[.int .i64 (mulN a b c d), .int .i64 (mulD a b c d)]) ∧ Leaves bw (fwO (mulC a b c d)) w w' := by
  obtain ⟨ha0, ha1⟩ := ha
  obtain ⟨hq0, hq1⟩ := hc
  have k0 : w.cell? ⟨bw, 0, none⟩ = some (.int .i64 0) := (cell_of_row w bw 0 _ _ _ hst).trans rfl
  have k1 : w.frozen? ⟨bw, 0, none⟩ = false := frozen_blk hst 0
  have l1 : bw < w.heap.size + 1 := by omega
  have l2 : bw < w.heap.size + 1 + 1 := by omega
  have l3 : bw < w.heap.size + 1 + 1 + 1 := by omega
  have HST := hide hst
  clear hst
  go_enter Tryd.func31, Tryd.ntmps31
  go_wp2_with fail
  (with_reducible refine (mulFrac_i a b c d ha0 ha1 hq0 hq1 _).mono ?_)
  rintro e wC ⟨rfl, hbC⟩
  obtain ⟨hcC, hfC⟩ := bcell hbC
  have hwC : Below w.heap.size w wC := bl_call (by repeat (first | (with_reducible refine bl_set ?_ (by simp <;> omega) _) | (with_reducible refine bl_alloc ?_ (Nat.le_refl _) _) | (with_reducible refine Below.drew ?_) | (with_reducible assumption) | (with_reducible exact Below.refl _ _))) hbC
  have hz0 : w.heap.size + 1 + 1 + 1 ≤ wC.heap.size := by have hq := hbC.size; simp at hq; omega
  have n1 : ¬ bw = wC.heap.size := by omega
  have n2 : ¬ wC.heap.size = bw := by omega
  have n3 : bw < wC.heap.size := by omega
  have n4 : ¬ bw = w.heap.size + 1 + 1 := by omega
  have n5 : ¬ w.heap.size + 1 + 1 = bw := by omega
  have n6 : w.heap.size + 1 + 1 < wC.heap.size := by omega
  have n7 : w.heap.size + 1 < wC.heap.size := by omega
  have n8 : w.heap.size < wC.heap.size := by omega
  go_wp2
  refine bodyPost_ret (v := .agg #[.int .i64 (mulN a b c d), .int .i64 (mulD a b c d)]) ?_ rfl ⟨rfl, ?_⟩
  · simp (maxDischargeDepth := 9) [results, Tryd.results31, go_sem, *]
  · repeat (first | (with_reducible refine leaves_store ?_ hlt HST.out) | (with_reducible refine Leaves.alloc ?_ hlt _) | (with_reducible refine Leaves.set ?_ hlt (by simp <;> omega) _))
    exact (by repeat (first | (with_reducible refine bl_set ?_ (by simp <;> omega) _) | (with_reducible refine bl_alloc ?_ (Nat.le_refl _) _) | (with_reducible refine Below.drew ?_) | (with_reducible assumption) | (with_reducible exact Below.refl _ _)))
theorem two_muls (bw : Nat) (s : Int) (hs : ¬ s = 0) (a b c d : Int) (w : World) (hlt : bw < w.heap.size) (hst : w.heap[bw]? = some (fwO s)) :
    Calls Tryd.prog 31 #[.pointer (some ⟨bw, 0, none⟩), .func (.func 59) #[] #[], .agg #[.int .i64 a, .int .i64 b], .agg #[.int .i64 c, .int .i64 d]] w fun e w' => e = .returned (.agg #[.int .i64 0, .int .i64 0]) ∧ Leaves bw (fwO s) w w' := by
  have k0 : w.cell? ⟨bw, 0, none⟩ = some (.int .i64 s) := (cell_of_row w bw 0 _ _ _ hst).trans rfl
  have q1 : (s == 0) = false := by simpa using hs
  have q2 : (s != 0) = true := by simpa using hs
  have l1 : bw < w.heap.size + 1 := by omega
  have l2 : bw < w.heap.size + 1 + 1 := by omega
  have l3 : bw < w.heap.size + 1 + 1 + 1 := by omega
  have HST := hide hst
  have HLT := hlt
  clear hst hs
  go_enter Tryd.func31, Tryd.ntmps31
  go_wp2
  refine bodyPost_ret (v := .agg #[.int .i64 0, .int .i64 0]) ?_ rfl ⟨rfl, leaves_below (by repeat (first | (with_reducible refine bl_set ?_ (by simp <;> omega) _) | (with_reducible refine bl_alloc ?_ (Nat.le_refl _) _) | (with_reducible refine Below.drew ?_) | (with_reducible assumption) | (with_reducible exact Below.refl _ _))) hlt HST.out⟩
  simp [results, Tryd.results31, go_sem, *]
set_option maxRecDepth 100000 in
set_option maxHeartbeats 4000000 in
theorem two_div0 (bw : Nat) (a b c d : Int) (ha : I64 a) (hc : I64 c) (w : World) (hlt : bw < w.heap.size) (hst : w.heap[bw]? = some (fwO 0)) :
    Calls Tryd.prog 31 #[.pointer (some ⟨bw, 0, none⟩), .func (.func 32) #[] #[], .agg #[.int .i64 a, .int .i64 b], .agg #[.int .i64 c, .int .i64 d]] w fun e w' => e = .returned (.agg #[.int .i64 (divN a b c d), .int .i64 (divD a b c d)]) ∧ Leaves bw (fwO (divC a b c d)) w w' := by
  obtain ⟨ha0, ha1⟩ := ha
  obtain ⟨hq0, hq1⟩ := hc
  have k0 : w.cell? ⟨bw, 0, none⟩ = some (.int .i64 0) := (cell_of_row w bw 0 _ _ _ hst).trans rfl
  have k1 : w.frozen? ⟨bw, 0, none⟩ = false := frozen_blk hst 0
  have l1 : bw < w.heap.size + 1 := by omega
  have l2 : bw < w.heap.size + 1 + 1 := by omega
  have l3 : bw < w.heap.size + 1 + 1 + 1 := by omega
  have HST := hide hst
  clear hst
  go_enter Tryd.func31, Tryd.ntmps31
  go_wp2_with fail
  (with_reducible refine (divFrac_i a b c d ha0 ha1 hq0 hq1 _).mono ?_)
  rintro e wC ⟨rfl, hbC⟩
  obtain ⟨hcC, hfC⟩ := bcell hbC
  have hwC : Below w.heap.size w wC := bl_call (by repeat (first | (with_reducible refine bl_set ?_ (by simp <;> omega) _) | (with_reducible refine bl_alloc ?_ (Nat.le_refl _) _) | (with_reducible refine Below.drew ?_) | (with_reducible assumption) | (with_reducible exact Below.refl _ _))) hbC
  have hz0 : w.heap.size + 1 + 1 + 1 ≤ wC.heap.size := by have hq := hbC.size; simp at hq; omega
  have n1 : ¬ bw = wC.heap.size := by omega
  have n2 : ¬ wC.heap.size = bw := by omega
  have n3 : bw < wC.heap.size := by omega
  have n4 : ¬ bw = w.heap.size + 1 + 1 := by omega
  have n5 : ¬ w.heap.size + 1 + 1 = bw := by omega
  have n6 : w.heap.size + 1 + 1 < wC.heap.size := by omega
  have n7 : w.heap.size + 1 < wC.heap.size := by omega
  have n8 : w.heap.size < wC.heap.size := by omega
  go_wp2
  refine bodyPost_ret (v := .agg #[.int .i64 (divN a b c d), .int .i64 (divD a b c d)]) ?_ rfl ⟨rfl, ?_⟩
  · simp (maxDischargeDepth := 9) [results, Tryd.results31, go_sem, *]
  · repeat (first | (with_reducible refine leaves_store ?_ hlt HST.out) | (with_reducible refine Leaves.alloc ?_ hlt _) | (with_reducible refine Leaves.set ?_ hlt (by simp <;> omega) _))
    exact (by repeat (first | (with_reducible refine bl_set ?_ (by simp <;> omega) _) | (with_reducible refine bl_alloc ?_ (Nat.le_refl _) _) | (with_reducible refine Below.drew ?_) | (with_reducible assumption) | (with_reducible exact Below.refl _ _)))
theorem two_divs (bw : Nat) (s : Int) (hs : ¬ s = 0) (a b c d : Int) (w : World) (hlt : bw < w.heap.size) (hst : w.heap[bw]? = some (fwO s)) :
    Calls Tryd.prog 31 #[.pointer (some ⟨bw, 0, none⟩), .func (.func 32) #[] #[], .agg #[.int .i64 a, .int .i64 b], .agg #[.int .i64 c, .int .i64 d]] w fun e w' => e = .returned (.agg #[.int .i64 0, .int .i64 0]) ∧ Leaves bw (fwO s) w w' := by
  have k0 : w.cell? ⟨bw, 0, none⟩ = some (.int .i64 s) := (cell_of_row w bw 0 _ _ _ hst).trans rfl
  have q1 : (s == 0) = false := by simpa using hs
  have q2 : (s != 0) = true := by simpa using hs
  have l1 : bw < w.heap.size + 1 := by omega
  have l2 : bw < w.heap.size + 1 + 1 := by omega
  have l3 : bw < w.heap.size + 1 + 1 + 1 := by omega
  have HST := hide hst
  have HLT := hlt
  clear hst hs
  go_enter Tryd.func31, Tryd.ntmps31
  go_wp2
  refine bodyPost_ret (v := .agg #[.int .i64 0, .int .i64 0]) ?_ rfl ⟨rfl, leaves_below (by repeat (first | (with_reducible refine bl_set ?_ (by simp <;> omega) _) | (with_reducible refine bl_alloc ?_ (Nat.le_refl _) _) | (with_reducible refine Below.drew ?_) | (with_reducible assumption) | (with_reducible exact Below.refl _ _))) hlt HST.out⟩
  simp [results, Tryd.results31, go_sem, *]
/-- the code of a working that is alive or not -/
def bI (al : Bool) : Int := if al then 0 else 2
def cnd (al : Bool) (x : Int) : Int := if al then x else 0
abbrev fwB (al : Bool) : Obj := fwO (bI al)
theorem k02 {N D : Int} {ok : Bool} (hok : ok = true) (hD : D ≠ 0) : rC ok N D = bI (decide (rC ok N D = 0)) := by
  subst hok
  show mkC N D = bI (decide (mkC N D = 0))
  rcases mkC_02 (N := N) hD with h | h <;> rw [h] <;> rfl
theorem rN_cnd (N D : Int) (ok : Bool) : rN ok N D = cnd (decide (rC ok N D = 0)) (rN ok N D) ∧ rD ok N D = cnd (decide (rC ok N D = 0)) (rD ok N D) := by
  cases h : decide (rC ok N D = 0)
  · have h' : ¬ rC ok N D = 0 := of_decide_eq_false h
    cases ok
    · exact ⟨rfl, rfl⟩
    · obtain ⟨x, y⟩ := mk_bad (num := N) (den := D) h'
      exact ⟨x, y⟩
  · exact ⟨rfl, rfl⟩
theorem cnd_t (x : Int) : cnd true x = x := rfl
theorem cnd_f (x : Int) : cnd false x = 0 := rfl
theorem okF_I {p : F2} (h : okF p = true) : I64 p.1 := by
  obtain ⟨_, _, h1, h2, _⟩ := okFr_t h
  exact ⟨by omega, by omega⟩
theorem cnd_I {b : Bool} {x : Int} (h : I64 x) : I64 (cnd b x) := by
  cases b
  · rw [cnd_f]; exact ⟨by decide, by decide⟩
  · exact h
theorem two_add (bw : Nat) (al : Bool) (p q : F2) (hp : I64 p.1) (hq : I64 q.1) (hv : al = true → okF p = true ∧ okF q = true) (w : World) (hlt : bw < w.heap.size) (hst : w.heap[bw]? = some (fwB al)) :
    Calls Tryd.prog 31 #[.pointer (some ⟨bw, 0, none⟩), .func (.func 36) #[] #[], .agg #[.int .i64 p.1, .int .i64 p.2], .agg #[.int .i64 q.1, .int .i64 q.2]] w
      fun e w' => e = .returned (.agg #[.int .i64 (cnd (al && decide (addK p q = 0)) (addF p q).1), .int .i64 (cnd (al && decide (addK p q = 0)) (addF p q).2)]) ∧ Leaves bw (fwB (al && decide (addK p q = 0))) w w' := by
  cases al
  · exact two_adds bw 2 (by decide) p.1 p.2 q.1 q.2 w hlt hst
  · obtain ⟨v1, v2⟩ := hv rfl
    have h := two_add0 bw p.1 p.2 q.1 q.2 hp hq w hlt hst
    obtain ⟨e1, e2⟩ := rN_cnd (p.1 * q.2 + q.1 * p.2) (p.2 * q.2) (okFr p.1 p.2 && okFr q.1 q.2)
    have e3 := k02 (N := p.1 * q.2 + q.1 * p.2) (ok2 v1 v2) (ne2 (okFr_d v1) (okFr_d v2))
    have f1 : addN p.1 p.2 q.1 q.2 = cnd (decide (addK p q = 0)) (addF p q).1 := e1
    have f2 : addD p.1 p.2 q.1 q.2 = cnd (decide (addK p q = 0)) (addF p q).2 := e2
    have f3 : addC p.1 p.2 q.1 q.2 = bI (decide (addK p q = 0)) := e3
    rw [f1, f2, f3] at h
    exact h
theorem two_mul (bw : Nat) (al : Bool) (p q : F2) (hp : I64 p.1) (hq : I64 q.1) (hv : al = true → okF p = true ∧ okF q = true) (w : World) (hlt : bw < w.heap.size) (hst : w.heap[bw]? = some (fwB al)) :
    Calls Tryd.prog 31 #[.pointer (some ⟨bw, 0, none⟩), .func (.func 59) #[] #[], .agg #[.int .i64 p.1, .int .i64 p.2], .agg #[.int .i64 q.1, .int .i64 q.2]] w
      fun e w' => e = .returned (.agg #[.int .i64 (cnd (al && decide (mulK p q = 0)) (mulF p q).1), .int .i64 (cnd (al && decide (mulK p q = 0)) (mulF p q).2)]) ∧ Leaves bw (fwB (al && decide (mulK p q = 0))) w w' := by
  cases al
  · exact two_muls bw 2 (by decide) p.1 p.2 q.1 q.2 w hlt hst
  · obtain ⟨v1, v2⟩ := hv rfl
    have h := two_mul0 bw p.1 p.2 q.1 q.2 hp hq w hlt hst
    obtain ⟨e1, e2⟩ := rN_cnd (p.1 * q.1) (p.2 * q.2) (okFr p.1 p.2 && okFr q.1 q.2)
    have e3 := k02 (N := p.1 * q.1) (ok2 v1 v2) (ne2 (okFr_d v1) (okFr_d v2))
    have f1 : mulN p.1 p.2 q.1 q.2 = cnd (decide (mulK p q = 0)) (mulF p q).1 := e1
    have f2 : mulD p.1 p.2 q.1 q.2 = cnd (decide (mulK p q = 0)) (mulF p q).2 := e2
    have f3 : mulC p.1 p.2 q.1 q.2 = bI (decide (mulK p q = 0)) := e3
    rw [f1, f2, f3] at h
    exact h
theorem addF_I (p q : F2) (h : addK p q = 0) : I64 (addF p q).1 := rN_bd h
theorem cnd_IK {al : Bool} {k x : Int} (h : k = 0 → I64 x) : I64 (cnd (al && decide (k = 0)) x) := by
  have h0 : I64 0 := ⟨by decide, by decide⟩
  cases al
  · exact h0
  · cases hk : decide (k = 0)
    · exact h0
    · exact h (of_decide_eq_true hk)
theorem bI_t : bI true = 0 := rfl
theorem bI_f : bI false = 2 := rfl
/-- the sum of two results -/
theorem two_add3 (bw : Nat) (al : Bool) (k1 k2 : Int) (x y : F2) (hp : k1 = 0 → okF x = true) (hq : k2 = 0 → okF y = true) (w : World) (hlt : bw < w.heap.size) (hst : w.heap[bw]? = some (fwB ((al && decide (k1 = 0)) && decide (k2 = 0)))) :
    Calls Tryd.prog 31 #[.pointer (some ⟨bw, 0, none⟩), .func (.func 36) #[] #[], .agg #[.int .i64 (cnd (al && decide (k1 = 0)) x.1), .int .i64 (cnd (al && decide (k1 = 0)) x.2)], .agg #[.int .i64 (cnd ((al && decide (k1 = 0)) && decide (k2 = 0)) y.1), .int .i64 (cnd ((al && decide (k1 = 0)) && decide (k2 = 0)) y.2)]] w
      fun e w' => e = .returned (.agg #[.int .i64 (cnd (al && (decide (k1 = 0) && decide (k2 = 0) && decide (addK x y = 0))) (addF x y).1), .int .i64 (cnd (al && (decide (k1 = 0) && decide (k2 = 0) && decide (addK x y = 0))) (addF x y).2)]) ∧ Leaves bw (fwB (al && (decide (k1 = 0) && decide (k2 = 0) && decide (addK x y = 0)))) w w' := by
  by_cases h1 : k1 = 0
  · by_cases h2 : k2 = 0
    · simp only [decide_eq_true h1, decide_eq_true h2, Bool.and_true, Bool.true_and] at hst ⊢
      cases al
      · exact two_adds bw 2 (by decide) _ _ _ _ w hlt hst
      · exact two_add bw true x y (okF_I (hp h1)) (okF_I (hq h2)) (fun _ => ⟨hp h1, hq h2⟩) w hlt hst
    · simp only [decide_eq_false h2, Bool.and_false, Bool.false_and] at hst ⊢
      exact two_adds bw 2 (by decide) _ _ _ _ w hlt hst
  · simp only [decide_eq_false h1, Bool.and_false, Bool.false_and] at hst ⊢
    exact two_adds bw 2 (by decide) _ _ _ _ w hlt hst
theorem lcell {bw : Nat} {o : Obj} {W w1 : World} (h : Leaves bw o W w1) : (∀ b i, b < W.heap.size → ¬ b = bw → w1.cell? ⟨b, i, none⟩ = W.cell? ⟨b, i, none⟩) ∧ (∀ b i, b < W.heap.size → ¬ b = bw → w1.frozen? ⟨b, i, none⟩ = W.frozen? ⟨b, i, none⟩) :=
  ⟨fun b i h1 h2 => h.cell h1 h2, fun b i h1 h2 => h.frozen h1 h2⟩
attribute [local go_sem] wk_cell wk_frozen chAt chUpon
set_option maxRecDepth 100000 in
set_option maxHeartbeats 4000000 in
theorem dot_any (bw : Nat) (al : Bool) (a b c d : F2) (ha : okF a = true) (hb : okF b = true) (hc : okF c = true) (hd : okF d = true) (w : World) (hlt : bw < w.heap.size) (hst : w.heap[bw]? = some (fwB al)) :
    Calls Tryd.prog 34 #[.pointer (some ⟨bw, 0, none⟩), .agg #[.int .i64 a.1, .int .i64 a.2], .agg #[.int .i64 b.1, .int .i64 b.2], .agg #[.int .i64 c.1, .int .i64 c.2], .agg #[.int .i64 d.1, .int .i64 d.2]] w
      fun e w' => e = .returned (.agg #[.int .i64 (cnd (al && dotG a b c d) (dotF a b c d).1), .int .i64 (cnd (al && dotG a b c d) (dotF a b c d).2)]) ∧ Leaves bw (fwB (al && dotG a b c d)) w w' := by
  have n0 : ¬ w.heap.size = bw := by omega
  have n1 : ¬ w.heap.size + 1 = bw := by omega
  have n2 : ¬ w.heap.size + 1 + 1 = bw := by omega
  have n3 : ¬ w.heap.size + 1 + 1 + 1 = bw := by omega
  have n4 : ¬ w.heap.size + 1 + 1 + 1 + 1 = bw := by omega
  have l5 : bw < w.heap.size + 1 + 1 + 1 + 1 + 1 := by omega
  have HST := hide hst
  clear hst
  go_enter Tryd.func34, Tryd.ntmps34
  go_wp2
  refine wp_region_chain_tail 10 [4, 8, 9] bw fwO (bI al) (by kernel_rfl) (by kernel_rfl) (by kernel_rfl) (by simp; omega) ?_ ?_
  · exact (((((Below.refl _ _).alloc (Nat.le_refl _) _).alloc (by simp) _).alloc (by simp <;> omega) _).alloc (by simp <;> omega) _).alloc (by simp <;> omega) _ |>.block bw hlt |>.trans HST.out
  intro hW
  simp only [List.take_succ_cons, List.take_zero, List.drop_succ_cons, List.drop_zero]
  iterate 4 (refine wpCh_step rfl (fun K hK => ?_); go_simp; refine hK _ _ ?_; clear hK K)
  refine wpCh_call rfl rfl (fun K hK => ?_); go_simp; apply Exists.intro; apply Exists.intro; apply And.intro
  · intro p; go_at_call 31; with_reducible exact two_mul bw al a b (okF_I ha) (okF_I hb) (fun _ => ⟨ha, hb⟩) _ (Nat.lt_of_lt_of_le hW (wk_size _ _ _ _)) (wk_at hW)
  apply hK; clear hK K
  iterate 3 (refine wpCh_step rfl (fun K hK => ?_); go_simp; refine hK _ _ ?_; clear hK K)
  refine wpCh_call rfl rfl (fun K hK => ?_); go_simp; apply Exists.intro; apply Exists.intro; apply And.intro
  · intro p; go_at_call 31; with_reducible exact two_mul bw (al && decide (mulK a b = 0)) c d (okF_I hc) (okF_I hd) (fun _ => ⟨hc, hd⟩) _ (Nat.lt_of_lt_of_le hW (wk_size _ _ _ _)) (wk_at hW)
  apply hK; clear hK K
  refine wpCh_call rfl rfl (fun K hK => ?_); go_simp; apply Exists.intro; apply Exists.intro; apply And.intro
  · intro p; go_at_call 31; with_reducible exact two_add3 bw al (mulK a b) (mulK c d) (mulF a b) (mulF c d) (fun h => (mulF_v ha hb h).1) (fun h => (mulF_v hc hd h).1) _ (Nat.lt_of_lt_of_le hW (wk_size _ _ _ _)) (wk_at hW)
  apply hK; clear hK K
  refine wpCh_nil ?_
  intro wF hL
  have hsz := hL.1.size
  simp at hsz
  obtain ⟨hcF, hfF⟩ := lcell hL
  have m1 : w.heap.size + 1 + 1 + 1 + 1 < wF.heap.size := by omega
  have m2 : w.heap.size < wF.heap.size := by omega
  go_wp2
  refine bodyPost_ret (v := .agg #[.int .i64 (cnd (al && dotG a b c d) (dotF a b c d).1), .int .i64 (cnd (al && dotG a b c d) (dotF a b c d).2)]) ?_ rfl ⟨rfl, ?_⟩
  · simp (maxDischargeDepth := 9) [results, Tryd.results34, go_sem, dotG, dotF, *]
  · repeat (first | exact (leaves_below (by repeat (first | (with_reducible refine bl_set ?_ (by simp <;> omega) _) | (with_reducible refine bl_alloc ?_ (Nat.le_refl _) _) | (with_reducible refine Below.drew ?_) | (with_reducible assumption) | (with_reducible exact Below.refl _ _))) hlt HST.out).trans hL | (with_reducible refine Leaves.set ?_ hlt (by simp <;> omega) _) | (with_reducible refine Leaves.drew ?_) | (with_reducible refine Leaves.alloc ?_ hlt _))
end Go.Proofs.YtickgkfgmbaalaaDoor
