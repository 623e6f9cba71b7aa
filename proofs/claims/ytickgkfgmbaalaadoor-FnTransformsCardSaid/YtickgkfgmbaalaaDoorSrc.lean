/-
  CONTRACTS of the sources of draws (l00From, next, pick, one, among). Conditions: what the slices hold.
-/
import Derived.Test.YtickgkfgmbaalaaDoorTail
import Derived.Test.YtickgkfgmbaalaaDoorGrow
import Derived.Test.YtickgkfgmbaalaaDoorCode
namespace Go.Proofs.YtickgkfgmbaalaaDoor
open Go.RowKit Go.Sort
set_option linter.unusedVariables false
attribute [local go_sem] cell_grow frozen_grow
/-- a source in block g: it reads the bytes of slice A, n bytes long, and stands at place k -/
def SrcAt (w : World) (g : Nat) (A : Option Addr) (n c : Nat) (k : Nat) : Prop := ∃ s : Int, 0 ≤ s ∧ w.heap[g]? = some (.cells #[.slice A n c, .int .i64 k, .int .u64 s] 90 (0, 0)) ∧ CodeAt w g A n
theorem SrcAt.lt {w : World} {g : Nat} {A : Option Addr} {n c k : Nat} (h : SrcAt w g A n c k) : g < w.heap.size := by
  obtain ⟨s, _, h1, _⟩ := h
  exact (Array.getElem?_eq_some_iff.1 h1).1
theorem SrcAt.later {w w' : World} {g : Nat} {A : Option Addr} {n c k : Nat} (h : SrcAt w g A n c k) (hb : Below w.heap.size w w') : SrcAt w' g A n c k := by
  have hl := h.lt
  obtain ⟨s, h0, h1, h2⟩ := h
  exact ⟨s, h0, (hb.block g hl).trans h1, h2.kept (fun j hj => hb.block j (by omega))⟩
/-- what a draw leaves: the source a few places on, all else as it was -/
def SrcPost (w : World) (g : Nat) (A : Option Addr) (n c : Nat) (k d : Nat) (w' : World) : Prop := (∃ k', k ≤ k' ∧ k' ≤ k + d ∧ SrcAt w' g A n c k') ∧ w.grownBy w' (some g)
theorem SrcPost.trans {w w1 w2 : World} {g : Nat} {A : Option Addr} {n c k d k1 d1 m : Nat} (h1 : w.grownBy w1 (some g)) (hk : k ≤ k1 ∧ k1 ≤ k + d) (h2 : SrcPost w1 g A n c k1 d1 w2) (hm : d + d1 ≤ m) : SrcPost w g A n c k m w2 := by
  obtain ⟨⟨k', a1, a2, a3⟩, b⟩ := h2
  refine ⟨⟨k', by omega, by omega, a3⟩, ⟨b.os.trans h1.os, b.tape.trans h1.tape, b.output.trans h1.output, Nat.le_trans h1.size b.size, fun j hj hne => (b.block j (Nat.lt_of_lt_of_le hj h1.size) hne).trans (h1.block j hj hne)⟩⟩
theorem u64_nn (n : Int) : 0 ≤ IntKind.u64.wrap n := by
  have : (0 : Int) ≤ n % 18446744073709551616 := Int.emod_nonneg _ (by decide)
  simpa [IntKind.wrap, IntKind.signed, IntKind.bits] using this
theorem and255 (m : Int) : 0 ≤ wrap64 (bits BinOp.and IntKind.u64 m 255) ∧ wrap64 (bits BinOp.and IntKind.u64 m 255) ≤ 255 := by
  have h : (BitVec.ofInt 64 m &&& BitVec.ofInt 64 255).toNat ≤ 255 := by
    rw [BitVec.toNat_and]
    exact Nat.le_trans Nat.and_le_right (by decide)
  have e : bits BinOp.and IntKind.u64 m 255 = ((BitVec.ofInt 64 m &&& BitVec.ofInt 64 255).toNat : Int) := by
    show IntKind.u64.wrap ((BitVec.ofInt 64 m &&& BitVec.ofInt 64 255).toNat : Int) = _
    generalize (BitVec.ofInt 64 m &&& BitVec.ofInt 64 255).toNat = z at h ⊢
    simp only [IntKind.wrap, IntKind.signed, IntKind.bits]
    simp
    omega
  rw [e]
  unfold wrap64
  omega
set_option maxRecDepth 100000 in
set_option maxHeartbeats 4000000 in
theorem next_any (g : Nat) (A : Option Addr) (n c k : Nat) (hk : k < 4611686018427387904) (w : World) (hS : SrcAt w g A n c k) : Calls Tryd.prog 81 #[.pointer (some ⟨g, 0, none⟩)] w fun e w' => ∃ x : Int, e = .returned (.int .i64 x) ∧ (0 ≤ x ∧ x ≤ 255) ∧ SrcAt w' g A n c (k + 1) ∧ w.grownBy w' (some g) := by
  have hl := hS.lt
  obtain ⟨s, h0, hb, hC⟩ := hS
  have HCD := hide hC
  obtain ⟨hn, hA⟩ := hC
  have k0 := ug_cell hb
  have f0 := ug_frozen hb
  simp only [maxLen] at hn
  by_cases hkn : k < n
  · obtain ⟨f, o, rfl, hf, hc⟩ := hA (by omega)
    obtain ⟨x, x0, x1, hx⟩ := hc k hkn
    clear hA hc
    have d1 : decide ((k : Int) < (n : Int)) = true := by simp; omega
    have d2 : decide ((k : Int) + 1 ≤ (n : Int)) = true := by simp; omega
    have hfg : f < w.heap.size := by omega
    go_enter Tryd.func81, Tryd.ntmps81
    go_wp2
    refine wp_region_quiet_below (by kernel_rfl) (by kernel_rfl) ?_
    repeat (first | go_big_quiet_step (fail) | quiet_step (fail))
    refine wpQuiet_nil ?_
    intro w1 hw1
    obtain ⟨pq, hpq⟩ := hw1
    have hb1 := below_of hpq
    clear hpq pq
    have hl1 : g < w1.heap.size := Nat.lt_of_lt_of_le hl hb1.size
    have o1 := (hb1.block g hl).trans hb
    have k1 := ug_cell o1
    have c1 := (hb1.cell (p := ⟨f, o + k, none⟩) hfg).trans hx
    have hf1 : f < w1.heap.size := Nat.lt_of_lt_of_le hfg hb1.size
    have HB1 := hide hb1
    obtain ⟨wA, rfl⟩ : ∃ wA, wA = w1 := ⟨_, rfl⟩
    clear hb1 k0 f0 hx
    go_wp2
    refine wp_region_quiet_below (by kernel_rfl) (by kernel_rfl) ?_
    repeat (first | go_big_quiet_step (fail) | quiet_step (fail))
    refine wpQuiet_nil ?_
    intro w1 hw1
    obtain ⟨pq, hpq⟩ := hw1
    have hb1 := below_of hpq
    clear hpq pq
    have hl2 : g < w1.heap.size := Nat.lt_of_lt_of_le hl1 hb1.size
    have o2 := (hb1.block g hl1).trans o1
    have k2 := ug_cell o2
    have f2 := ug_frozen o2
    have HB2 := hide (HB1.out.trans (hb1.mono HB1.out.size))
    obtain ⟨wB, rfl⟩ : ∃ wB, wB = w1 := ⟨_, rfl⟩
    clear hb1 k1 c1 hf1 HB1 o1
    go_wp2
    obtain ⟨s2, hs2⟩ : ∃ s2, s2 = IntKind.u64.wrap (IntKind.u64.wrap (IntKind.u64.wrap (s * 6364136223846793005) + x) + 1442695040888963407) := ⟨_, rfl⟩
    have s20 : 0 ≤ s2 := by rw [hs2]; exact u64_nn _
    rw [← hs2]
    clear hs2
    have o3 : ((wB.setCell ⟨g, 1, none⟩ (.int .i64 (↑k + 1))).setCell ⟨g, 2, none⟩ (.int .u64 s2)).heap[g]? = some (.cells #[.slice (some ⟨f, o, none⟩) n c, .int .i64 (↑k + 1), .int .u64 s2] 90 (0, 0)) := ug_set (ug_set o2 1 _) 2 _
    have k3 := ug_cell o3
    clear k2 f2
    refine wp_region_quiet_below (by kernel_rfl) (by kernel_rfl) ?_
    repeat (first | go_big_quiet_step (fail) | quiet_step (fail))
    refine wpQuiet_nil ?_
    intro w1 hw1
    obtain ⟨pq, hpq⟩ := hw1
    have hb1 := below_of hpq
    clear hpq pq
    have hl3 : g < w1.heap.size := Nat.lt_of_lt_of_le (by simpa [World.setCell] using hl2) hb1.size
    have o4 := (hb1.block g (by simpa [World.setCell] using hl2)).trans o3
    have k4 := ug_cell o4
    have G : w.grownBy w1 (some g) := by
      have b := HB2.out
      have z := b.size
      exact ⟨hb1.os.trans b.os, hb1.tape.trans b.tape, hb1.output.trans b.output, Nat.le_trans z (by simpa [World.setCell] using hb1.size), fun j hj hne => (hb1.block j (by simp [World.setCell]; omega)).trans ((Below.heap_setCell _ ⟨g, 2, none⟩ _ j (by rintro rfl; exact hne rfl)).trans ((Below.heap_setCell _ ⟨g, 1, none⟩ _ j (by rintro rfl; exact hne rfl)).trans (b.block j hj)))⟩
    have GG := hide G
    have C4 := hide (HCD.out.kept (w' := w1) (fun j hj => G.block j (by omega) (by simp; omega)))
    clear G hb1 k3 o2 o3
    go_wp2
    go_ret
    exact ⟨x, rfl, ⟨x0, x1⟩, ⟨s2, s20, by rw [show ((k + 1 : Nat) : Int) = (k : Int) + 1 by omega]; exact o4, C4.out⟩, GG.out⟩
  · clear hA
    have d1 : decide ((k : Int) < (n : Int)) = false := by simp; omega
    have d2 : decide ((k : Int) + 1 ≤ (n : Int)) = false := by simp; omega
    go_enter Tryd.func81, Tryd.ntmps81
    go_wp2
    refine wp_region_quiet_below (by kernel_rfl) (by kernel_rfl) ?_
    repeat (first | go_big_quiet_step (fail) | quiet_step (fail))
    refine wpQuiet_nil ?_
    intro w1 hw1
    obtain ⟨pq, hpq⟩ := hw1
    have hb1 := below_of hpq
    clear hpq pq
    have hl2 : g < w1.heap.size := Nat.lt_of_lt_of_le hl hb1.size
    have o2 := (hb1.block g hl).trans hb
    have k2 := ug_cell o2
    have f2 := ug_frozen o2
    have HB2 := hide hb1
    obtain ⟨wB, rfl⟩ : ∃ wB, wB = w1 := ⟨_, rfl⟩
    clear hb1 k0 f0
    go_wp2
    obtain ⟨s2, hs2⟩ : ∃ s2, s2 = IntKind.u64.wrap (IntKind.u64.wrap (IntKind.u64.wrap (s * 6364136223846793005)) + 1442695040888963407) := ⟨_, rfl⟩
    have s20 : 0 ≤ s2 := by rw [hs2]; exact u64_nn _
    rw [← hs2]
    clear hs2
    have o3 : ((wB.setCell ⟨g, 1, none⟩ (.int .i64 (↑k + 1))).setCell ⟨g, 2, none⟩ (.int .u64 s2)).heap[g]? = some (.cells #[.slice A n c, .int .i64 (↑k + 1), .int .u64 s2] 90 (0, 0)) := ug_set (ug_set o2 1 _) 2 _
    have k3 := ug_cell o3
    clear k2 f2
    refine wp_region_quiet_below (by kernel_rfl) (by kernel_rfl) ?_
    repeat (first | go_big_quiet_step (fail) | quiet_step (fail))
    refine wpQuiet_nil ?_
    intro w1 hw1
    obtain ⟨pq, hpq⟩ := hw1
    have hb1 := below_of hpq
    clear hpq pq
    have hl3 : g < w1.heap.size := Nat.lt_of_lt_of_le (by simpa [World.setCell] using hl2) hb1.size
    have o4 := (hb1.block g (by simpa [World.setCell] using hl2)).trans o3
    have k4 := ug_cell o4
    have G : w.grownBy w1 (some g) := by
      have b := HB2.out
      have z := b.size
      exact ⟨hb1.os.trans b.os, hb1.tape.trans b.tape, hb1.output.trans b.output, Nat.le_trans z (by simpa [World.setCell] using hb1.size), fun j hj hne => (hb1.block j (by simp [World.setCell]; omega)).trans ((Below.heap_setCell _ ⟨g, 2, none⟩ _ j (by rintro rfl; exact hne rfl)).trans ((Below.heap_setCell _ ⟨g, 1, none⟩ _ j (by rintro rfl; exact hne rfl)).trans (b.block j hj)))⟩
    have GG := hide G
    have C4 := hide (HCD.out.kept (w' := w1) (fun j hj => G.block j (by omega) (by simp; omega)))
    clear G hb1 k3 o2 o3
    go_wp2
    go_ret
    exact ⟨_, rfl, and255 _, ⟨s2, s20, by rw [show ((k + 1 : Nat) : Int) = (k : Int) + 1 by omega]; exact o4, C4.out⟩, GG.out⟩
/-- what a draw of a number leaves -/
def DrawPost (w : World) (g : Nat) (A : Option Addr) (n c k : Nat) (ok : Int → Prop) (e : Ending) (w' : World) : Prop := ∃ x : Int, e = .returned (.int .i64 x) ∧ ok x ∧ SrcAt w' g A n c (k + 1) ∧ w.grownBy w' (some g)
set_option maxRecDepth 100000 in
set_option maxHeartbeats 4000000 in
theorem pick_any (m : Int) (h2 : 2 ≤ m) (h200 : m ≤ 200) (g : Nat) (A : Option Addr) (n c k : Nat) (hk : k < 4611686018427387904) (w : World) (hS : SrcAt w g A n c k) : Calls Tryd.prog 64 #[.pointer (some ⟨g, 0, none⟩), .int .i64 m] w (DrawPost w g A n c k (fun x => 0 ≤ x ∧ x < m)) := by
  have HN := next_any g A n c k hk w hS
  have hm0 : (m == 0) = false := by simp; omega
  have hm1 : ¬ m = 0 := by omega
  clear hS
  go_enter Tryd.func64, Tryd.ntmps64
  go_wp2_with fail
  (with_reducible refine HN.mono ?_)
  rintro e w1 ⟨x, rfl, ⟨x0, x1⟩, hS1, hG⟩
  have HS := hide hS1
  have HG := hide hG
  clear hS1 hG HN
  go_wp2
  go_ret
  refine ⟨_, rfl, ?_, HS.out, HG.out⟩
  exact ⟨Int.emod_nonneg _ (by omega), Int.emod_lt_of_pos _ (by omega)⟩
set_option maxRecDepth 100000 in
set_option maxHeartbeats 4000000 in
theorem one_any (m : Int) (h2 : 2 ≤ m) (h200 : m ≤ 200) (g : Nat) (A : Option Addr) (n c k : Nat) (hk : k < 4611686018427387904) (w : World) (hS : SrcAt w g A n c k) : Calls Tryd.prog 54 #[.pointer (some ⟨g, 0, none⟩), .int .i64 m] w fun e w' => ∃ b : Bool, e = .returned (.bool b) ∧ SrcAt w' g A n c (k + 1) ∧ w.grownBy w' (some g) := by
  have HN := pick_any m h2 h200 g A n c k hk w hS
  clear hS
  go_enter Tryd.func54, Tryd.ntmps54
  go_wp2_with fail
  (with_reducible refine HN.mono ?_)
  rintro e w1 ⟨x, rfl, ⟨x0, x1⟩, hS1, hG⟩
  have HS := hide hS1
  have HG := hide hG
  clear hS1 hG HN
  go_wp2
  go_ret
  exact ⟨_, rfl, HS.out, HG.out⟩
set_option maxRecDepth 100000 in
set_option maxHeartbeats 4000000 in
theorem among_any (xs : List Int) (m : Nat) (hm : xs.length = m) (h2 : 2 ≤ m) (h200 : m ≤ 200) (q : Nat) (g : Nat) (A : Option Addr) (n c k : Nat) (hk : k < 4611686018427387904) (w : World) (hS : SrcAt w g A n c k) (hq : q < w.heap.size) (hqg : q ≠ g) (hc : ∀ j, j < m → w.cell? ⟨q, j, none⟩ = some (.int .i64 (xs.getD j 0))) : Calls Tryd.prog 42 #[.pointer (some ⟨g, 0, none⟩), .slice (some ⟨q, 0, none⟩) m m] w (DrawPost w g A n c k (fun x => x ∈ xs)) := by
  have HN := pick_any m (by omega) (by omega) g A n c k hk w hS
  have HC := hide hc
  clear hS hc
  go_enter Tryd.func42, Tryd.ntmps42
  go_wp2_with fail
  (with_reducible refine HN.mono ?_)
  rintro e w1 ⟨x, rfl, ⟨x0, x1⟩, hS1, hG⟩
  obtain ⟨j, rfl⟩ : ∃ j : Nat, x = j := ⟨x.toNat, by omega⟩
  have hj : j < m := by omega
  have hcell : w1.cell? ⟨q, j, none⟩ = some (.int .i64 (xs.getD j 0)) := (World.cell?_of_block (a := ⟨q, j, none⟩) (hG.block q hq (by simp; omega))).trans (HC.out j hj)
  have hqq : q < w1.heap.size := Nat.lt_of_lt_of_le hq hG.size
  have HIN := hide (show xs.getD j 0 ∈ xs by rw [List.getD_eq_getElem?_getD, List.getElem?_eq_getElem (by omega)]; exact List.getElem_mem _)
  have HS := hide hS1
  have HG := hide hG
  clear hS1 hG HN
  generalize xs.getD j 0 = y at *
  go_wp2
  go_ret
  exact ⟨_, rfl, HIN.out, HS.out, HG.out⟩
theorem l00From_any (A : Option Addr) (n c : Nat) (w : World) (h : CodeAt w w.heap.size A n) : Calls Tryd.prog 27 #[.slice A n c] w fun e w' => e = .returned (.pointer (some ⟨w.heap.size, 0, none⟩)) ∧ SrcAt w' w.heap.size A n c 0 ∧ Below w.heap.size w w' := by
  have H := hide h
  clear h
  go_enter Tryd.func27, Tryd.ntmps27
  go_wp2
  go_ret
  exact ⟨rfl, ⟨0, by decide, ug_new _ _ rfl, H.out.kept (fun g hg => ug_old _ _ hg)⟩, (by repeat (first | exact Below.refl _ _ | assumption | (refine bl_alloc ?_ (Nat.le_refl _) _) | (refine bl_set ?_ (by simp <;> omega) _)))⟩
/-- of what was there save block g nothing has turned: steps -/
theorem GB.refl (w : World) (g : Nat) : w.grownBy w (some g) := ⟨rfl, rfl, rfl, Nat.le_refl _, fun _ _ _ => rfl⟩
theorem GB.trans {w w1 w2 : World} {g : Nat} (h1 : w.grownBy w1 (some g)) (h2 : w1.grownBy w2 (some g)) : w.grownBy w2 (some g) :=
  ⟨h2.os.trans h1.os, h2.tape.trans h1.tape, h2.output.trans h1.output, Nat.le_trans h1.size h2.size, fun j hj hne => (h2.block j (Nat.lt_of_lt_of_le hj h1.size) hne).trans (h1.block j hj hne)⟩
theorem GB.below {w w1 w2 : World} {g : Nat} (h1 : w.grownBy w1 (some g)) (h2 : Below w1.heap.size w1 w2) : w.grownBy w2 (some g) :=
  ⟨h2.os.trans h1.os, h2.tape.trans h1.tape, h2.output.trans h1.output, Nat.le_trans h1.size h2.size, fun j hj hne => (h2.block j (Nat.lt_of_lt_of_le hj h1.size)).trans (h1.block j hj hne)⟩
theorem GB.alloc {w w1 : World} {g : Nat} (h1 : w.grownBy w1 (some g)) (o : Obj) : w.grownBy (w1.alloc o) (some g) := GB.below h1 ((Below.refl _ _).alloc (Nat.le_refl _) o)
theorem GB.set {w w1 : World} {g : Nat} (h1 : w.grownBy w1 (some g)) {p : Addr} (hp : w.heap.size ≤ p.block) (v : Value) : w.grownBy (w1.setCell p v) (some g) :=
  ⟨h1.os, h1.tape, h1.output, by simpa [World.setCell] using h1.size, fun j hj hne => (Below.heap_setCell _ p v j (by omega)).trans (h1.block j hj hne)⟩
/-- .. and Below, where block g came later -/
theorem GB.under {w w1 w2 : World} {g : Nat} (h1 : Below w.heap.size w w1) (h2 : w1.grownBy w2 (some g)) (hg : w.heap.size ≤ g) : Below w.heap.size w w2 := h1.grown h2 h1.size (fun j e => by injection e; omega)
theorem SrcAt.set {w : World} {g : Nat} {A : Option Addr} {n c k : Nat} (h : SrcAt w g A n c k) {p : Addr} (hp : g < p.block) (v : Value) : SrcAt (w.setCell p v) g A n c k := by
  obtain ⟨s, h0, h1, h2⟩ := h
  exact ⟨s, h0, (Below.heap_setCell _ p v g (by omega)).trans h1, h2.kept (fun j hj => Below.heap_setCell _ p v j (by omega))⟩
theorem SrcAt.alloc {w : World} {g : Nat} {A : Option Addr} {n c k : Nat} (h : SrcAt w g A n c k) (o : Obj) : SrcAt (w.alloc o) g A n c k := h.later ((Below.refl _ _).alloc (Nat.le_refl _) o)
end Go.Proofs.YtickgkfgmbaalaaDoor
