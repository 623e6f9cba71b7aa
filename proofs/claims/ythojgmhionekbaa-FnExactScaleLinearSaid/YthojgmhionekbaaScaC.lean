/-
  CONTRACTS of ScaleLinear of package spec. Conditions: what the slices hold.
-/
import Derived.Test.YthojgmhionekbaaScaI
import Derived.BigRegion
import Derived.Deep.RegionLaw
namespace Go.Proofs.Ythojgmhionekbaa
open Go.RowKit Go.Sort
set_option linter.unusedVariables false
attribute [local go_sem] cell_grow frozen_grow
attribute [local go_sem] Oper.quietAt Oper.quietUpon
/-- a box at block P that holds a list that grows in blocks from B on, made behind world w0 -/
structure Boxed2 (w0 : World) (P B : Nat) (c0 c1 : Value) (t : TypeId) (size n : Nat) (xs : List Value) (v : Value) (wr : World) : Prop where
  own : wr.ownsRow B t size v n xs
  ne : v.ownBlock ≠ some P
  lt : P < wr.heap.size
  cell0 : wr.cell? ⟨P, 0, none⟩ = some c0
  cell1 : wr.cell? ⟨P, 1, none⟩ = some c1
  cell2 : wr.cell? ⟨P, 2, none⟩ = some v
  free : ∀ q, wr.frozen? ⟨P, q, none⟩ = false
  below : Below w0.heap.size w0 wr
  base : w0.heap.size ≤ B ∧ B ≤ P
theorem Boxed2.later {w0 : World} {P B : Nat} {c0 c1 : Value} {t : TypeId} {size n : Nat} {xs : List Value} {v : Value} {wr wx : World} (h : Boxed2 w0 P B c0 c1 t size n xs v wr) (hb : Below wr.heap.size wr wx) : Boxed2 w0 P B c0 c1 t size n xs v wx := by
  have hg : wr.grownBy wx none := ⟨hb.os, hb.tape, hb.output, hb.size, fun j hj _ => hb.block j hj⟩
  exact ⟨h.own.kept hg (by cases v.ownBlock <;> simp), h.ne, Nat.lt_of_lt_of_le h.lt hb.size, (hb.cell (p := ⟨P, 0, none⟩) h.lt).trans h.cell0, (hb.cell (p := ⟨P, 1, none⟩) h.lt).trans h.cell1, (hb.cell (p := ⟨P, 2, none⟩) h.lt).trans h.cell2, fun q => (hb.frozen (p := ⟨P, q, none⟩) h.lt).trans (h.free q), h.below.trans (hb.mono h.below.size), h.base⟩
theorem Boxed2.put {w0 : World} {P B : Nat} {c0 c1 : Value} {t : TypeId} {size n : Nat} {xs : List Value} {v : Value} {wr wy : World} {n' g' cap' : Nat} {xs' : List Value} (h : Boxed2 w0 P B c0 c1 t size n xs v wr)
    (hown : wy.ownsRow B t size (.slice (some ⟨g', 0, none⟩) n' cap') n' xs') (hgrow : wr.grownBy wy v.ownBlock) (hat : v.ownBlock = some g' ∨ wr.heap.size ≤ g') : Boxed2 w0 P B c0 c1 t size n' xs' (.slice (some ⟨g', 0, none⟩) n' cap') (wy.setCell ⟨P, 2, none⟩ (.slice (some ⟨g', 0, none⟩) n' cap')) := by
  have e1 : wy.heap[P]? = wr.heap[P]? := hgrow.block P h.lt (fun e => h.ne e.symm)
  have hc : ∀ q, wy.cell? ⟨P, q, none⟩ = wr.cell? ⟨P, q, none⟩ := fun q => World.cell?_of_block (a := ⟨P, q, none⟩) e1
  have hs := hgrow.size
  have hlt := h.lt
  obtain ⟨b1, b2⟩ := h.base
  have ne : ∀ {x y : Nat}, x ≠ y → (⟨P, x, none⟩ : Addr) ≠ ⟨P, y, none⟩ := fun h e => h (by injection e)
  have hgP : g' ≠ P := by
    rcases hat with e | e
    · intro q; subst q; exact h.ne e
    · omega
  have hg2 : wy.grownBy (wy.setCell ⟨P, 2, none⟩ (.slice (some ⟨g', 0, none⟩) n' cap')) (some P) := only_set (only_refl _ _) _ _
  refine ⟨hown.kept hg2 (.inr (by simp [Value.ownBlock]; omega)), by simp [Value.ownBlock, hgP], by simp [World.setCell]; omega, ?_, ?_, ?_, ?_, ?_, h.base⟩
  · rw [World.cell?_setCell_other _ _ _ _ (ne (by omega))]; exact (hc 0).trans h.cell0
  · rw [World.cell?_setCell_other _ _ _ _ (ne (by omega))]; exact (hc 1).trans h.cell1
  · exact World.cell?_setCell_same _ _ _ ((hc 2).trans h.cell2)
  · intro q
    rw [World.frozen?_setCell]
    exact (World.frozen?_of_block (a := ⟨P, q, none⟩) e1).trans (h.free q)
  · exact (h.below.grown hgrow h.below.size (fun j e => by have := h.own.lt j e; omega)).setCell (p := ⟨P, 2, none⟩) (by show _ ≤ P; omega) _
theorem Boxed2.mid {w0 : World} {P B : Nat} {c0 c1 : Value} {t : TypeId} {size n : Nat} {xs : List Value} {v : Value} {wr wy : World} (h : Boxed2 w0 P B c0 c1 t size n xs v wr) (hgrow : wr.grownBy wy v.ownBlock) : wy.cell? ⟨P, 2, none⟩ = some v ∧ wy.frozen? ⟨P, 2, none⟩ = false := by
  have e1 : wy.heap[P]? = wr.heap[P]? := hgrow.block P h.lt (fun e => h.ne e.symm)
  exact ⟨(World.cell?_of_block (a := ⟨P, 2, none⟩) e1).trans h.cell2, (World.frozen?_of_block (a := ⟨P, 2, none⟩) e1).trans (h.free 2)⟩
set_option maxRecDepth 100000 in
set_option maxHeartbeats 16000000 in
theorem l05Scale_err (a b : Int) (ha : -9223372036854775808 ≤ a ∧ a ≤ 9223372036854775807) (x : Value) (n d : Int) (hnn : -9223372036854775808 ≤ n ∧ n ≤ 9223372036854775807) (h3 : mulC a b n d ≠ 0) (w : World) (P : Nat) (hP : P < w.heap.size) (hp0 : w.cell? ⟨P, 0, none⟩ = some (.int .i64 a)) (hp1 : w.cell? ⟨P, 1, none⟩ = some (.int .i64 b)) : Calls Try.prog 47 #[.pointer (some ⟨P, 0, none⟩), .agg #[.int .i64 n, .int .i64 d]] w (LinPost w 0 0 (mulC a b n d) []) := by
  have HM1 := mulFrac_s a b n d ha.1 ha.2 hnn.1 hnn.2
  have q1 : (mulC a b n d != 0) = true := by simpa using h3
  generalize mulC a b n d = C at *
  clear h3 ha hnn
  have hP1 : P < w.heap.size + 1 := by omega
  have hP2 : P < w.heap.size + 1 + 1 := by omega
  go_enter Try.func47, Try.ntmps47
  go_wp2
  refine wp_region_made 9 _ _ (.cells #[.int .i64 0, .int .i64 0] 29) (.cells #[.int .i64 (mulN a b n d), .int .i64 (mulD a b n d)] 29) (by kernel_rfl) (by kernel_rfl) rfl rfl (fun _ _ => by kernel_rfl) ?_
  simp only [List.take_succ_cons, List.take_zero, List.drop_succ_cons, List.drop_zero]
  repeat (refine wpSteady_step (fun K hK => ?_); go_simp; first | (refine hK _ ?_; clear hK K) | (apply Exists.intro; refine ⟨fun _ => ?_, hK _ ?_⟩; (first | (go_at_call 72; with_reducible exact keeps_of (HM1 _))); clear hK K))
  refine wpSteady_nil ?_
  refine ⟨?_, ?_⟩
  · intro gx w1 _ hx
    have hk := cell_blk hx
    have hf := frozen_blk hx
    exact ⟨(World.setCell (World.setCell w1 ⟨gx, 0, none⟩ (.int .i64 (mulN a b n d))) ⟨gx, 1, none⟩ (.int .i64 (mulD a b n d))), (by simp [go_sem, hk, hf]), (heap_set (heap_set hx 0 _) 1 _), (only_set ((only_set (only_refl w1 gx) 0 _)) 1 _)⟩
  intro gx w1 hgx hlx hb1 hx
  have hkx := cell_blk hx
  have hfx := frozen_blk hx
  clear hx
  try simp at hgx
  obtain ⟨hc1, hf1⟩ := bcell hb1
  have hw1 : Below w.heap.size w w1 := bl_call (by repeat (first | exact Below.refl _ _ | assumption | (refine bl_alloc ?_ (Nat.le_refl _) _) | (refine bl_set ?_ (by simp <;> omega) _))) hb1
  have hz1 : w.heap.size + 2 ≤ w1.heap.size := (by have hq := hb1.size; have hr := hw1.size; (try simp at hq); omega)
  have hza : w.heap.size < w1.heap.size := (by omega)
  have hzb : w.heap.size + 1 < w1.heap.size := (by omega)
  go_wp2
  refine bodyPost_ret (v := .tuple #[.agg #[.int .i64 0, .int .i64 0, .slice none 0 0], .int .i64 C]) ?_ rfl ⟨_, rfl, TermsOwn.none _, fun g hg => by simp [Value.ownBlock] at hg, (by repeat (first | (with_reducible refine bl_set ?_ (by simp <;> omega) _) | (with_reducible refine bl_alloc ?_ (Nat.le_refl _) _) | (with_reducible refine Below.drew ?_) | (with_reducible assumption) | (with_reducible exact Below.refl _ _)))⟩
  simp (maxDischargeDepth := 9) [results, Try.results47, go_sem, *]
set_option maxRecDepth 100000 in
set_option maxHeartbeats 16000000 in
theorem l05Scale_ok (a b : Int) (ha : -9223372036854775808 ≤ a ∧ a ≤ 9223372036854775807) (x : Value) (L : List T3) (hB : LinB L) (n d : Int) (hnn : -9223372036854775808 ≤ n ∧ n ≤ 9223372036854775807) (h1 : linOk a b L = true) (h2 : okFr n d = true) (h3 : mulC a b n d = 0) (w : World) (hx : TermsAt w x L) (P : Nat) (hP : P < w.heap.size) (hp0 : w.cell? ⟨P, 0, none⟩ = some (.int .i64 a)) (hp1 : w.cell? ⟨P, 1, none⟩ = some (.int .i64 b)) (hp2 : w.cell? ⟨P, 2, none⟩ = some x) : Calls Try.prog 47 #[.pointer (some ⟨P, 0, none⟩), .agg #[.int .i64 n, .int .i64 d]] w (LinPost w (slA a b L n d) (slB a b L n d) (slK a b L n d) (slL a b L n d)) := by
  obtain ⟨i0, hi, hzA, hzB, hzC⟩ := info_parts info_termS
  have HZERO := hide (show n = 0 → slK a b L n d = 0 ∧ slA a b L n d = mulN a b n d ∧ slB a b L n d = mulD a b n d ∧ slL a b L n d = [] by
    intro e; subst e
    obtain ⟨m1, m2, m3⟩ := mul_zero_f (linOk_f h1) h2
    obtain ⟨k1, k2, k3, k4⟩ := sl_zero h1 h2
    exact ⟨k1, by rw [k2, m2], by rw [k3, m3], k4⟩)
  have HX := hide (fun (h : n ≠ 0) (k : Nat) (hk : k < L.length) h5 h6 => sl_bad h1 h2 h3 h (k := k) hk h5 h6)
  have HG := hide (fun h => @sl_good a b L n d h1 h2 h3 h)
  have HM := fun x y h1 h2 w => mulFrac_s x y n d h1 h2 hnn.1 hnn.2 w
  have HM1 := HM a b ha.1 ha.2
  rw [h3] at HM1
  obtain ⟨A, ca, rfl, hA⟩ := hx
  obtain ⟨_, hE⟩ := hB
  have hn0 := linOk_n h1
  have HH := hide HM
  have HAA := hide hA
  have HEE := hide hE
  clear h1 h2 h3 HM hA hE hnn ha
  generalize hlen : L.length = m at *
  have hP1 : P < w.heap.size + 1 := by omega
  have hP2 : P < w.heap.size + 1 + 1 := by omega
  go_enter Try.func47, Try.ntmps47
  go_wp2
  refine wp_region_made 9 _ _ (.cells #[.int .i64 0, .int .i64 0] 29) (.cells #[.int .i64 (mulN a b n d), .int .i64 (mulD a b n d)] 29) (by kernel_rfl) (by kernel_rfl) rfl rfl (fun _ _ => by kernel_rfl) ?_
  simp only [List.take_succ_cons, List.take_zero, List.drop_succ_cons, List.drop_zero]
  repeat (refine wpSteady_step (fun K hK => ?_); go_simp; first | (refine hK _ ?_; clear hK K) | (apply Exists.intro; refine ⟨fun _ => ?_, hK _ ?_⟩; (first | (go_at_call 72; with_reducible exact keeps_of (HM1 _))); clear hK K))
  refine wpSteady_nil ?_
  refine ⟨?_, ?_⟩
  · intro gx w1 _ hx
    have hk := cell_blk hx
    have hf := frozen_blk hx
    exact ⟨(World.setCell (World.setCell w1 ⟨gx, 0, none⟩ (.int .i64 (mulN a b n d))) ⟨gx, 1, none⟩ (.int .i64 (mulD a b n d))), (by simp [go_sem, hk, hf]), (heap_set (heap_set hx 0 _) 1 _), (only_set ((only_set (only_refl w1 gx) 0 _)) 1 _)⟩
  intro gx w1 hgx hlx hb1 hx
  have hkx := cell_blk hx
  have hfx := frozen_blk hx
  clear hx
  try simp at hgx
  obtain ⟨hc1, hf1⟩ := bcell hb1
  have hw1 : Below w.heap.size w w1 := bl_call (by repeat (first | exact Below.refl _ _ | assumption | (refine bl_alloc ?_ (Nat.le_refl _) _) | (refine bl_set ?_ (by simp <;> omega) _))) hb1
  have hz1 : w.heap.size + 2 ≤ w1.heap.size := (by have hq := hb1.size; have hr := hw1.size; (try simp at hq); omega)
  have hza : w.heap.size < w1.heap.size := (by omega)
  have hzb : w.heap.size + 1 < w1.heap.size := (by omega)
  have oA1 : w1.heap[w.heap.size]? = some (.cells #[.int .i64 n, .int .i64 d] 29 (0, 0)) := (hb1.block _ (by simp; omega)).trans ((ug_old _ _ (by simp)).trans (ug_new _ _ rfl))
  have oA2 : w1.heap[w.heap.size + 1]? = some (.cells #[.int .i64 0, .int .i64 0, .slice none 0 0] 32 (0, 0)) := (hb1.block _ (by simp)).trans (ug_new _ _ (by simp))
  obtain ⟨wA, rfl⟩ : ∃ wA, wA = w1 := ⟨_, rfl⟩
  clear hb1 hc1 hf1
  go_wp2_with fail
  (with_reducible refine (l05Const_any _ _ _).mono ?_)
  rintro e w4 ⟨⟨rfl, hblk⟩, hb4⟩
  have z4 := hb4.size
  have g4 : wA.heap.size + 2 < w4.heap.size := (Array.getElem?_eq_some_iff.1 hblk).1
  have HB4 := hide hb4
  have HBLK := hide hblk
  clear hb4 hblk hkx hfx
  go_wp2
  go_loopw [9] (fun iv wr => ∃ (k : Nat) (v : Value), k ≤ m ∧ iv = .int .i64 k ∧ Hid (scE L n d k = 0 ∧ (n = 0 → k = 0)) ∧ Boxed2 wA w4.heap.size wA.heap.size (.int .i64 (mulN a b n d)) (.int .i64 (mulD a b n d)) 61 3 k (flat3 (scP L n d k)) v wr) (fun iv _ => m - (intOf iv).toNat)
  case atStart => exact ⟨0, .slice (some ⟨wA.heap.size + 2, 0, none⟩) 0 0, by omega, rfl, ⟨rfl, fun _ => rfl⟩, ⟨⟨rfl, .inr ⟨_, 0, #[], rfl, by omega, (ug_old _ _ g4).trans HBLK.out, Nat.le_refl _, by decide, rfl, rfl⟩⟩, by simp [Value.ownBlock]; omega, by simp, by simp [go_sem], by simp [go_sem], by simp [go_sem], fun q => by simp [go_sem], HB4.out.alloc z4 _, Nat.le_refl _, z4⟩⟩
  case round =>
    obtain ⟨k, v, hk, rfl, hsc, hBx⟩ := hrel
    obtain ⟨Av, cv, rfl⟩ := own_val3 hBx.own
    have HBx := hide hBx
    have bw := hBx.below
    have zr := bw.size
    have zl := hBx.lt
    have x0 := hBx.cell0
    have x1 := hBx.cell1
    have x2 := hBx.cell2
    have xf := hBx.free
    have u1 : ∀ i, wr.cell? ⟨w.heap.size, i, none⟩ = #[Value.int .i64 n, .int .i64 d][i]? := fun i => (bw.cell (p := ⟨w.heap.size, i, none⟩) (by show w.heap.size < _; omega)).trans (ug_cell oA1 i)
    have u3 : ∀ i, wr.cell? ⟨w.heap.size + 1, i, none⟩ = #[Value.int .i64 0, .int .i64 0, .slice none 0 0][i]? := fun i => (bw.cell (p := ⟨w.heap.size + 1, i, none⟩) (by show w.heap.size + 1 < _; omega)).trans (ug_cell oA2 i)
    have uf : ∀ i, wr.frozen? ⟨w.heap.size + 1, i, none⟩ = false := fun i => (bw.frozen (p := ⟨w.heap.size + 1, i, none⟩) (by show w.heap.size + 1 < _; omega)).trans (ug_frozen oA2 i)
    have bww : Below w.heap.size w wr := hw1.trans (bw.mono (by omega))
    have p2 := (bww.cell (p := ⟨P, 2, none⟩) hP).trans hp2
    have t0 : P < wr.heap.size := by omega
    have t1 : w.heap.size < wr.heap.size := by omega
    have t3 : w.heap.size + 1 < wr.heap.size := by omega
    clear hBx hw1 oA1 oA2 hp0 hp1 hp2
    by_cases hkm : k < m
    · have hdk : decide ((k : Int) < (m : Int)) = true := by simp; omega
      by_cases hn0z : n = 0
      · have q0 : (n != 0) = false := by simp [hn0z]
        obtain rfl : k = 0 := hsc.out.2 hn0z
        have HR := hide (HZERO.out hn0z)
        clear hsc hn0z
        go_wp2
        refine bodyPost_ret (v := .tuple #[.agg #[.int .i64 (mulN a b n d), .int .i64 (mulD a b n d), .slice Av 0 cv], .int .i64 0]) ?_ rfl ?_
        · simp (maxDischargeDepth := 9) [results, Try.results47, go_sem, *]
        · obtain ⟨e1, e2, e3, e4⟩ := HR.out
          rw [e2, e3, e4, e1]
          refine ⟨_, rfl, (own_terms HBx.out.own rfl).kept (by simp [World.setCell]) (fun g hg hlt => ?_), fun g hg => ?_, (by repeat (first | (with_reducible refine bl_set ?_ (by simp <;> omega) _) | (with_reducible refine bl_alloc ?_ (Nat.le_refl _) _) | (with_reducible refine Below.drew ?_) | (with_reducible assumption) | (with_reducible exact Below.refl _ _)))⟩
          · have := HBx.out.own.lt g hg
            have ne : g ≠ w.heap.size + 1 := by omega
            exact (Below.heap_setCell _ _ _ _ ne).trans ((Below.heap_setCell _ _ _ _ ne).trans (Below.heap_setCell _ _ _ _ ne))
          · have := HBx.out.own.lt g hg
            simp [World.setCell]
            omega
      · have q0 : (n != 0) = true := by simpa using hn0z
        obtain ⟨g, o, rfl, hg, hcg⟩ := HAA.out (by omega)
        obtain ⟨a1, a2, a3⟩ := hcg k hkm
        obtain ⟨_, e1, e2, _, _⟩ := HEE.out k hkm
        have c1 := (bww.cell (p := ⟨g, o + k * 3, none⟩) hg).trans a1
        have c2 := (bww.cell (p := ⟨g, o + k * 3 + 1, none⟩) hg).trans a2
        have c3 := (bww.cell (p := ⟨g, o + k * 3 + 2, none⟩) hg).trans a3
        have HMq := HH.out (L.getD k t3d).2.1 (L.getD k t3d).2.2 e1 e2
        have hgr : g < wr.heap.size := by omega
        have e3 := hide (show scP L n d (k + 1) = scP L n d k ++ [((L.getD k t3d).1, mulN (L.getD k t3d).2.1 (L.getD k t3d).2.2 n d, mulD (L.getD k t3d).2.1 (L.getD k t3d).2.2 n d)] from rfl)
        have e4 := hide (show mulC (L.getD k t3d).2.1 (L.getD k t3d).2.2 n d = 0 → scE L n d (k + 1) = 0 by intro h; rw [scE, if_pos hsc.out.1, h])
        have e5 := hide (fun h => HX.out hn0z k (by omega) hsc.out.1 h)
        clear hcg a1 a2 a3 e1 e2
        generalize L.getD k t3d = q at *
        obtain ⟨s, n1, d1⟩ := q
        simp only at c1 c2 c3 HMq
        go_wp2
        refine wp_region_made 13 _ _ (.cells #[.int .i64 0, .int .i64 0] 29) (.cells #[.int .i64 (mulN n1 d1 n d), .int .i64 (mulD n1 d1 n d)] 29) (by kernel_rfl) (by kernel_rfl) rfl rfl (fun _ _ => by kernel_rfl) ?_
        simp only [List.take_succ_cons, List.take_zero, List.drop_succ_cons, List.drop_zero]
        repeat (refine wpSteady_step (fun K hK => ?_); go_simp; first | (refine hK _ ?_; clear hK K) | (apply Exists.intro; refine ⟨fun _ => ?_, hK _ ?_⟩; (first | (go_at_call 72; with_reducible exact keeps_of (HMq _))); clear hK K))
        refine wpSteady_nil ?_
        refine ⟨?_, ?_⟩
        · intro gy w1 _ hx
          have hk := cell_blk hx
          have hf := frozen_blk hx
          exact ⟨(World.setCell (World.setCell w1 ⟨gy, 0, none⟩ (.int .i64 (mulN n1 d1 n d))) ⟨gy, 1, none⟩ (.int .i64 (mulD n1 d1 n d))), (by simp [go_sem, hk, hf]), (heap_set (heap_set hx 0 _) 1 _), (only_set ((only_set (only_refl w1 gy) 0 _)) 1 _)⟩
        intro gy w1 hgy hly hb1 hx
        have hky := cell_blk hx
        have hfy := frozen_blk hx
        clear hx
        try simp at hgy
        obtain ⟨hc1, hf1⟩ := bcell hb1
        have hw1 : Below w.heap.size w w1 := bl_call (by repeat (first | exact Below.refl _ _ | assumption | (refine bl_alloc ?_ (Nat.le_refl _) _) | (refine bl_set ?_ (by simp <;> omega) _))) hb1
        have hz1 : w.heap.size + 2 ≤ w1.heap.size := (by have hq := hb1.size; have hr := hw1.size; (try simp at hq); omega)
        have hza : w.heap.size < w1.heap.size := (by omega)
        have hzb : w.heap.size + 1 < w1.heap.size := (by omega)
        obtain ⟨wQ, rfl⟩ : ∃ wQ, wQ = w1 := ⟨_, rfl⟩
        have HB4 := hide (HBx.out.later hb1)
        have y2 := HB4.out.cell2
        have yl := HB4.out.lt
        have c1' := (hb1.cell (p := ⟨g, o + k * 3, none⟩) hgr).trans c1
        have p2' := (hb1.cell (p := ⟨P, 2, none⟩) t0).trans p2
        have yu : ∀ i, wQ.cell? ⟨w.heap.size + 1, i, none⟩ = #[Value.int .i64 0, .int .i64 0, .slice none 0 0][i]? := fun i => (hb1.cell (p := ⟨w.heap.size + 1, i, none⟩) t3).trans (u3 i)
        have yf : ∀ i, wQ.frozen? ⟨w.heap.size + 1, i, none⟩ = false := fun i => (hb1.frozen (p := ⟨w.heap.size + 1, i, none⟩) t3).trans (uf i)
        have zq := hb1.size
        have hgq : g < wQ.heap.size := by omega
        have tq0 : P < wQ.heap.size := by omega
        have bwq : Below w.heap.size w wQ := bww.trans (hb1.mono (by omega))
        clear hb1 hc1 hf1 x0 x1 x2 xf u1 u3 uf p2 c1 c2 c3
        cases hq : (mulC n1 d1 n d != 0)
        · have hq0 : mulC n1 d1 n d = 0 := by simpa using hq
          have e6 := hide (show scE L n d (k + 1) = 0 ∧ (n = 0 → k + 1 = 0) from ⟨e4.out hq0, fun h => absurd h hn0z⟩)
          clear e4 e5 hq0
          go_wp2
          go_region_law (refine step_append_lies _ (by rfl) (.tmp 59) (.tmp 70) _ (by rfl) wA.heap.size 61 i0 _ 3 32 Try.underlying30 hi hzA hzB hzC rfl (by decide) _ k _ (by rfl) (HB4.out.own.alloc _) ⟨wQ.heap.size, 0, none⟩ 1 1 [.string s, .int .i64 (mulN n1 d1 n d), .int .i64 (mulD n1 d1 n d)] (by rfl) rfl (World.news_of_block (ug_new _ _ (by simp))) (by intro u hu; simp at hu; rcases hu with rfl | rfl | rfl <;> rfl) (by decide) (by simp only [maxLen]; omega) (by omega) (by simp; omega) (wQ.heap.size + 1) (by simp) ?_; intro g' cap' w5 hown hgrow hat hlt5; have bA : Below wQ.heap.size wQ (wQ.drew.alloc (.cells #[.string s, .int .i64 (mulN n1 d1 n d), .int .i64 (mulD n1 d1 n d)] 61)) := (by repeat (first | (with_reducible refine bl_set ?_ (by simp <;> omega) _) | (with_reducible refine bl_alloc ?_ (Nat.le_refl _) _) | (with_reducible refine Below.drew ?_) | (with_reducible assumption) | (with_reducible exact Below.refl _ _))); have HB5 := hide (HB4.out.later bA); obtain ⟨j1, j2⟩ := HB5.out.mid hgrow)
          all_goals (go_wp2; go_roundw)
          all_goals (first | (exact ⟨k + 1, _, by omega, by go_num, e6, by rw [e3.out, flat3_snoc]; exact HB5.out.put hown hgrow (hat.imp id (fun e => by simp; omega))⟩) | (simp [intOf]; omega))
        · have hq0 : mulC n1 d1 n d ≠ 0 := by simpa using hq
          have HR := hide (e5.out hq0)
          clear e4 e5 e3 hq0 HB4 y2
          go_wp2
          refine bodyPost_ret (v := .tuple #[.agg #[.int .i64 0, .int .i64 0, .slice none 0 0], .int .i64 (mulC n1 d1 n d)]) ?_ rfl ?_
          · simp (maxDischargeDepth := 9) [results, Try.results47, go_sem, *]
          · obtain ⟨e1, e2, e3, e4⟩ := HR.out
            rw [e2, e3, e4, e1]
            exact ⟨_, rfl, TermsOwn.none _, fun g hg => by simp [Value.ownBlock] at hg, (by repeat (first | (with_reducible refine bl_set ?_ (by simp <;> omega) _) | (with_reducible refine bl_alloc ?_ (Nat.le_refl _) _) | (with_reducible refine Below.drew ?_) | (with_reducible assumption) | (with_reducible exact Below.refl _ _)))⟩
    · obtain rfl : k = m := by omega
      have hdk : decide ((k : Int) < (k : Int)) = false := by simp
      have HR := hide (show slK a b L n d = 0 ∧ slA a b L n d = mulN a b n d ∧ slB a b L n d = mulD a b n d ∧ slL a b L n d = scP L n d k from by
        by_cases hz : n = 0
        · obtain ⟨e1, e2, e3, e4⟩ := HZERO.out hz
          have hk0 := hsc.out.2 hz
          exact ⟨e1, e2, e3, by rw [e4, hk0]; rfl⟩
        · exact HG.out hz hsc.out.1)
      clear hsc
      go_wp2
      refine bodyPost_ret (v := .tuple #[.agg #[.int .i64 (mulN a b n d), .int .i64 (mulD a b n d), .slice Av k cv], .int .i64 0]) ?_ rfl ?_
      · simp (maxDischargeDepth := 9) [results, Try.results47, go_sem, *]
      · obtain ⟨e1, e2, e3, e4⟩ := HR.out
        rw [e2, e3, e4, e1]
        refine ⟨_, rfl, (own_terms HBx.out.own (scP_len L n d k)).kept (by simp [World.setCell]) (fun g hg hlt => ?_), fun g hg => ?_, (by repeat (first | (with_reducible refine bl_set ?_ (by simp <;> omega) _) | (with_reducible refine bl_alloc ?_ (Nat.le_refl _) _) | (with_reducible refine Below.drew ?_) | (with_reducible assumption) | (with_reducible exact Below.refl _ _)))⟩
        · have := HBx.out.own.lt g hg
          have ne : g ≠ w.heap.size + 1 := by omega
          exact (Below.heap_setCell _ _ _ _ ne).trans ((Below.heap_setCell _ _ _ _ ne).trans (Below.heap_setCell _ _ _ _ ne))
        · have := HBx.out.own.lt g hg
          simp [World.setCell]
          omega
end Go.Proofs.Ythojgmhionekbaa
