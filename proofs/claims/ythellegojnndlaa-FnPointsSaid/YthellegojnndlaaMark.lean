/-
  CONTRACTS of the law's helpers on texts in slices (markText, eqStringS, markStringS, heldStringS). Conditions: what the slices hold.
-/
import Derived.Test.YthellegojnndlaaGrow
import Derived.Test.YthellegojnndlaaRead
namespace Go.Proofs.Ythellegojnndlaa
open Go.RowKit Go.Sort
set_option linter.unusedVariables false
attribute [local go_sem] cell_grow frozen_grow

/-- the mark of a number -/
def mtB (k : Nat) : ByteArray := ⟨(109 :: digs0 k).toArray⟩
set_option maxRecDepth 100000 in
set_option maxHeartbeats 4000000 in
theorem markText_any (K : Nat) (h0 : 1 ≤ K) (h1 : K ≤ 1000000000) (w : World) : Calls Try.prog 73 #[.int .i64 K] w fun e w' => e = .returned (.string (mtB K)) ∧ Below w.heap.size w w' := by
  have HB := hide (Below.refl w.heap.size w)
  go_enter Try.func73, Try.ntmps73
  go_wp2
  go_loopw [0, 3] (fun kv ov wr => ∃ (k : Nat) (l : List UInt8), k ≤ K ∧ kv = .int .i64 k ∧ ov = .string ⟨l.toArray⟩ ∧ Hid (digs0 K = digs0 k ++ l) ∧ Hid (l.length + (digs0 k).length ≤ 10) ∧ Below w.heap.size w wr) (fun kv _ _ => (intOf kv).toNat)
  case atStart => exact ⟨K, [], by omega, rfl, rfl, by unfold Hid; simp, by unfold Hid; have := digs0_len 10 K (by omega); simpa using this, Below.refl _ _⟩
  case round =>
    obtain ⟨k, l, hk, rfl, rfl, hd, hl, hb⟩ := hrel
    by_cases hkn : 0 < k
    · have hown := own_new wr w.heap.size 5 (.int .u8 (48 + (k : Int) % 10)) hb.size
      rw [dg_val k] at hown
      have hcv := own_text (P := Try.prog) (dst := 9) (src := 54) (l := [dg (k % 10)]) hown rfl Try.underlying54 Try.underlying5 Try.underlying9
      rw [← dg_val k] at hcv
      have HD := hide (show digs0 K = digs0 (k / 10) ++ (dg (k % 10) :: l) by rw [hd.out, digs0_pos (by omega)]; simp)
      have HL := hide (show (dg (k % 10) :: l).length + (digs0 (k / 10)).length ≤ 10 by have := hl.out; rw [digs0_pos (n := k) (by omega)] at this; simp at this ⊢; omega)
      have hz : l.length ≤ 10 := by have := hl.out; omega
      clear hown hd hl
      go_wp2
      go_roundw
      case rel => exact ⟨k / 10, dg (k % 10) :: l, by omega, by go_num, by congr 1, HD, HL, hb.alloc hb.size _⟩
      case measure => simp [intOf]; omega
    · obtain rfl : k = 0 := by omega
      have HD := hide (show mtB K = ⟨#[109]⟩ ++ ⟨l.toArray⟩ by unfold mtB; rw [hd.out, digs0_zero]; apply ByteArray.ext; simp)
      have hz : l.length ≤ 10 := by have := hl.out; omega
      clear hd hl
      go_wp2
      go_ret
      exact ⟨by rw [HD.out]; rfl, hb⟩

/-- the texts of a slice -/
def StrsAt (w : World) (v : Value) (L : List ByteArray) : Prop := ∃ A cap, v = .slice A L.length cap ∧ (0 < L.length → ∃ g, A = some ⟨g, 0, none⟩ ∧ g < w.heap.size ∧ (∀ j, j < L.length → w.cell? ⟨g, j, none⟩ = some (.string (L.getD j ⟨#[]⟩))) ∧ ∀ j, w.frozen? ⟨g, j, none⟩ = false)
theorem StrsAt.later {w w' : World} {v : Value} {L : List ByteArray} (h : StrsAt w v L) (hb : Below w.heap.size w w') : StrsAt w' v L := by
  obtain ⟨A, cap, rfl, h2⟩ := h
  refine ⟨A, cap, rfl, fun k => ?_⟩
  obtain ⟨g, e, hg, hc, hf⟩ := h2 k
  exact ⟨g, e, Nat.lt_of_lt_of_le hg hb.size, fun j hj => (hb.cell (p := ⟨g, j, none⟩) hg).trans (hc j hj), fun j => (hb.frozen (p := ⟨g, j, none⟩) hg).trans (hf j)⟩
theorem StrsAt.kept {w w' : World} {v : Value} {L : List ByteArray} {row : Option Nat} (h : StrsAt w v L) (hb : w.grownBy w' row) (hne : v.ownBlock = none ∨ v.ownBlock ≠ row) : StrsAt w' v L := by
  obtain ⟨A, cap, rfl, h2⟩ := h
  refine ⟨A, cap, rfl, fun k => ?_⟩
  obtain ⟨g, rfl, hg, hc, hf⟩ := h2 k
  have e : w'.heap[g]? = w.heap[g]? := hb.block g hg (by simpa [Value.ownBlock] using hne)
  exact ⟨g, rfl, Nat.lt_of_lt_of_le hg hb.size, fun j hj => (World.cell?_of_block (a := ⟨g, j, none⟩) e).trans (hc j hj), fun j => (World.frozen?_of_block (a := ⟨g, j, none⟩) e).trans (hf j)⟩
set_option maxRecDepth 100000 in
set_option maxHeartbeats 4000000 in
theorem eqStringS_any (x y : Value) (L : List ByteArray) (w : World) (hx : StrsAt w x L) (hy : StrsAt w y L) (hl : L.length ≤ 2097152) : Calls Try.prog 25 #[x, y] w fun e w' => e = .returned (.bool true) ∧ Below w.heap.size w w' := by
  obtain ⟨A, ca, rfl, ha⟩ := hx
  obtain ⟨B, cb, rfl, hb⟩ := hy
  generalize hn : L.length = n at *
  have hne : ((n : Int) != (n : Int)) = false := by simp
  go_enter Try.func25, Try.ntmps25
  go_wp2
  go_loopw [5] (fun iv wr => ∃ k : Nat, k ≤ n ∧ iv = .int .i64 k ∧ Below w.heap.size w wr) (fun iv _ => n - (intOf iv).toNat)
  case atStart => exact ⟨0, by omega, rfl, Below.refl _ _⟩
  case round =>
    obtain ⟨k, hk, rfl, hbw⟩ := hrel
    by_cases hkn : k < n
    · obtain ⟨g, rfl, hg, hcg, _⟩ := ha (by omega)
      obtain ⟨f, rfl, hf, hcf, _⟩ := hb (by omega)
      have h1 := (hbw.cell (p := ⟨g, k, none⟩) hg).trans (hcg k hkn)
      have h2 := (hbw.cell (p := ⟨f, k, none⟩) hf).trans (hcf k hkn)
      have h3 : ((L.getD k ⟨#[]⟩).toList != (L.getD k ⟨#[]⟩).toList) = false := ba_bne rfl
      generalize L.getD k ⟨#[]⟩ = q at *
      have hgr : g < wr.heap.size := Nat.lt_of_lt_of_le hg hbw.size
      have hfr : f < wr.heap.size := Nat.lt_of_lt_of_le hf hbw.size
      clear ha hb hcg hcf
      go_wp2
      refine wp_region_quiet_below (by kernel_rfl) (by kernel_rfl) ?_
      repeat (first | go_big_quiet_step ((fail)) | quiet_step ((fail)))
      refine wpQuiet_nil ?_
      intro w1 hw1
      obtain ⟨pq, hpq⟩ := hw1
      have hb1 := below_of hpq
      clear hpq pq
      have hz4 := hb1.size
      (try simp at hz4)
      obtain ⟨hc1, hf1⟩ := bcell hb1
      have hw1 : Below w.heap.size w w1 := bl_call (by repeat (first | exact Below.refl _ _ | assumption | (refine bl_alloc ?_ (Nat.le_refl _) _) | (refine bl_set ?_ (by simp <;> omega) _))) hb1
      have hz1 : w.heap.size + 0 ≤ w1.heap.size := (by have hq := hb1.size; have hr := hw1.size; (try simp at hq); omega)
      go_wp2
      go_roundw
      case rel => exact ⟨k + 1, by omega, by go_num, hw1⟩
      case measure => simp [intOf]; omega
    · obtain rfl : k = n := by omega
      go_wp2
      go_ret
      exact ⟨rfl, hbw⟩
/-- marks, one after the other -/
def marks (K n : Nat) : List ByteArray := (List.range n).map fun j => mtB (K + j)
theorem marks_len (K n : Nat) : (marks K n).length = n := by simp [marks]
theorem marks_at {K n j : Nat} (h : j < n) : (marks K n).getD j ⟨#[]⟩ = mtB (K + j) := by
  simp [marks, List.getD_eq_getElem?_getD, h]
set_option maxRecDepth 100000 in
set_option maxHeartbeats 4000000 in
theorem markStringS_any (x : Value) (L : List ByteArray) (K : Nat) (h0 : 1 ≤ K) (h1 : K ≤ 1000) (w : World) (hx : StrsAt w x L) (hl : L.length ≤ 2097152) : Calls Try.prog 26 #[x, .int .i64 K] w fun e w' => e = .returned (.int .i64 ((K + L.length : Nat) : Int)) ∧ StrsAt w' x (marks K L.length) ∧ w.grownBy w' x.ownBlock := by
  obtain ⟨A, ca, rfl, ha⟩ := hx
  by_cases hz : L.length = 0
  · rw [hz]
    go_enter Try.func26, Try.ntmps26
    go_wp2
    go_loopw [1, 5] (fun kv iv wr => kv = .int .i64 K ∧ iv = .int .i64 0 ∧ wr = w) (fun _ _ _ => 0)
    case atStart => exact ⟨rfl, rfl, rfl⟩
    case round =>
      obtain ⟨rfl, rfl, rfl⟩ := hrel
      go_wp2
      go_ret
      exact ⟨rfl, ⟨A, ca, rfl, fun h => absurd h (by simp [marks])⟩, ⟨rfl, rfl, rfl, Nat.le_refl _, fun _ _ _ => rfl⟩⟩
  · obtain ⟨g, rfl, hg, hcg, hfg⟩ := ha (by omega)
    generalize hn : L.length = n at *
    clear ha
    go_enter Try.func26, Try.ntmps26
    go_wp2
    go_loopw [1, 5] (fun kv iv wr => ∃ j : Nat, j ≤ n ∧ kv = .int .i64 ((K : Int) + (j : Int)) ∧ iv = .int .i64 j ∧ w.grownBy wr (some g) ∧ (∀ m, m < n → wr.cell? ⟨g, m, none⟩ = some (.string (if m < j then mtB (K + m) else L.getD m ⟨#[]⟩))) ∧ ∀ m, wr.frozen? ⟨g, m, none⟩ = false) (fun _ iv _ => n - (intOf iv).toNat)
    case atStart => exact ⟨0, by omega, by simp, rfl, ⟨rfl, rfl, rfl, Nat.le_refl _, fun _ _ _ => rfl⟩, fun m hm => by rw [if_neg (by omega)]; exact hcg m hm, hfg⟩
    case round =>
      obtain ⟨j, hj, rfl, rfl, hgw, hcw, hfw⟩ := hrel
      by_cases hjn : j < n
      · have hgs := hgw.size
        have hgr : g < wr.heap.size := by omega
        have h4 := hcw j hjn
        rw [if_neg (by omega)] at h4
        have h5 := hfw j
        have HM := markText_any (K + j) (by omega) (by omega)
        simp only [Int.natCast_add] at HM
        have HC := hide hcw
        have HF := hide hfw
        clear hcw hfw hcg hfg
        go_wp2_with fail
        (with_reducible refine (HM _).mono ?_)
        rintro e w1 ⟨rfl, hb1⟩
        have h6 := (hb1.cell (p := ⟨g, j, none⟩) hgr).trans h4
        have h7 := (hb1.frozen (p := ⟨g, j, none⟩) hgr).trans h5
        have hb1s := hb1.size
        go_wp2
        go_roundw
        case rel =>
          refine ⟨j + 1, by omega, by go_num, by go_num, ?_, ?_, ?_⟩
          · refine ⟨hb1.os.trans hgw.os, hb1.tape.trans hgw.tape, hb1.output.trans hgw.output, by simp [World.setCell]; omega, fun k hk hne => ?_⟩
            have e1 : ¬ k = g := by intro e; exact hne (by rw [e])
            exact (Below.heap_setCell _ _ _ _ e1).trans ((hb1.block k (by omega)).trans (hgw.block k hk hne))
          · intro m hm
            have h8 := (hb1.cell (p := ⟨g, m, none⟩) hgr).trans (HC.out m hm)
            by_cases e : m = j
            · subst e
              rw [if_pos (by omega)]
              exact World.cell?_setCell_same _ _ _ (by rw [h6])
            · rw [World.cell?_setCell_other _ _ _ _ (by intro h; injection h; omega), h8]
              by_cases e2 : m < j
              · rw [if_pos e2, if_pos (by omega)]
              · rw [if_neg e2, if_neg (by omega)]
          · intro m
            rw [World.frozen?_setCell]
            exact (hb1.frozen (p := ⟨g, m, none⟩) hgr).trans (HF.out m)
        case measure => simp [intOf]; omega
      · obtain rfl : j = n := by omega
        go_wp2
        go_ret
        refine ⟨rfl, ⟨_, ca, by rw [marks_len], fun _ => ⟨g, rfl, by have := hgw.size; omega, fun m hm => ?_, hfw⟩⟩, hgw⟩
        rw [marks_len] at hm
        rw [marks_at hm, hcw m hm, if_pos hm]
set_option maxRecDepth 100000 in
set_option maxHeartbeats 4000000 in
theorem heldStringS_any (x : Value) (n K : Nat) (h0 : 1 ≤ K) (h1 : K ≤ 1000) (w : World) (hx : StrsAt w x (marks K n)) (hl : n ≤ 2097152) : Calls Try.prog 27 #[x, .int .i64 K] w fun e w' => e = .returned (.int .i64 ((K + n : Nat) : Int)) ∧ Below w.heap.size w w' := by
  obtain ⟨A, ca, rfl, ha⟩ := hx
  rw [marks_len] at *
  go_enter Try.func27, Try.ntmps27
  go_wp2
  go_loopw [1, 5] (fun kv iv wr => ∃ j : Nat, j ≤ n ∧ kv = .int .i64 ((K : Int) + (j : Int)) ∧ iv = .int .i64 j ∧ Below w.heap.size w wr) (fun _ iv _ => n - (intOf iv).toNat)
  case atStart => exact ⟨0, by omega, by simp, rfl, Below.refl _ _⟩
  case round =>
    obtain ⟨j, hj, rfl, rfl, hbw⟩ := hrel
    by_cases hjn : j < n
    · obtain ⟨g, rfl, hg, hcg, _⟩ := ha (by omega)
      have h4 := (hbw.cell (p := ⟨g, j, none⟩) hg).trans (hcg j hjn)
      rw [marks_at hjn] at h4
      have hgs := hbw.size
      have hgr : g < wr.heap.size := by omega
      have h3 : ((mtB (K + j)).toList != (mtB (K + j)).toList) = false := ba_bne rfl
      have HM := markText_any (K + j) (by omega) (by omega)
      simp only [Int.natCast_add] at HM
      clear ha hcg
      go_wp2
      refine wp_region_quiet_below (by kernel_rfl) (by kernel_rfl) ?_
      repeat (first | go_big_quiet_step (((go_at_call 73; with_reducible exact Calls.regrown_of (HM _)))) | quiet_step (((go_at_call 73; with_reducible exact Calls.regrown_of (HM _)))))
      refine wpQuiet_nil ?_
      intro w1 hw1
      obtain ⟨pq, hpq⟩ := hw1
      have hb1 := below_of hpq
      clear hpq pq
      have hz4 := hb1.size
      (try simp at hz4)
      obtain ⟨hc1, hf1⟩ := bcell hb1
      have hw1 : Below w.heap.size w w1 := bl_call (by repeat (first | exact Below.refl _ _ | assumption | (refine bl_alloc ?_ (Nat.le_refl _) _) | (refine bl_set ?_ (by simp <;> omega) _))) hb1
      have hz1 : w.heap.size + 0 ≤ w1.heap.size := (by have hq := hb1.size; have hr := hw1.size; (try simp at hq); omega)
      go_wp2
      go_roundw
      case rel => exact ⟨j + 1, by omega, by go_num, by go_num, hw1⟩
      case measure => simp [intOf]; omega
    · obtain rfl : j = n := by omega
      go_wp2
      go_ret
      exact ⟨rfl, hbw⟩
end Go.Proofs.Ythellegojnndlaa
