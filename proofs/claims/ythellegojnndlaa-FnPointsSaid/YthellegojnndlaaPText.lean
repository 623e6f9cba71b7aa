/-
  CONTRACTS of PtText (packages impl and spec): the text of a point; no cell that was there is written. And the walk of its law. Conditions: the points of the helpers are valid.
-/
import Derived.Test.YthellegojnndlaaPt
import Derived.Test.YthellegojnndlaaDec
namespace Go.Proofs.Ythellegojnndlaa
open Go.RowKit Go.Sort
set_option linter.unusedVariables false
attribute [local go_sem] cell_grow frozen_grow

/-- the text of a valid point -/
def ptB (n d : Int) : ByteArray := decB n ++ ⟨#[44]⟩ ++ decB d
def ptText (n d : Int) : ByteArray := if okPt n d then ptB n d else ⟨#[]⟩
theorem size_app2 (a b : ByteArray) : (a ++ b).size = a.size + b.size := by
  show (a.append b).size = _
  simp [ByteArray.size_append]

set_option maxHeartbeats 1000000 in
theorem ptText_i (n d : Int) (w : World) : Calls Try.prog 56 #[.agg #[.int .i64 n, .int .i64 d]] w fun e w' => e = .returned (.string (ptText n d)) ∧ Below w.heap.size w w' := by
  cases hk : okPt n d
  · have HT := hide (show ptText n d = ⟨#[]⟩ by unfold ptText; rw [hk]; rfl)
    go_enter Try.func56, Try.ntmps56
    go_wp2_with (go_at_call 75; (with_reducible refine (validPt_i n d _).mono ?_); rintro e w1 ⟨rfl, hb1⟩; obtain ⟨hc1, hf1⟩ := bcell hb1; have hw1 : Below w.heap.size w w1 := bl_call (by repeat (first | exact Below.refl _ _ | assumption | (refine bl_alloc ?_ (Nat.le_refl _) _) | (refine bl_set ?_ (by simp <;> omega) _))) hb1; have hz1 : w.heap.size + 1 ≤ w1.heap.size := (by have hq := hb1.size; have hr := hw1.size; (try simp at hq); omega); have hza : w.heap.size < w1.heap.size := (by omega); have hz4 := hb1.size; (try simp at hz4); (try have hz5 := Nat.lt_of_succ_le hz4))
    go_ret
    exact ⟨by rw [HT.out]; rfl, (by repeat (first | exact Below.refl _ _ | assumption | (refine bl_alloc ?_ (Nat.le_refl _) _) | (refine bl_set ?_ (by simp <;> omega) _)))⟩
  · obtain ⟨p1, p2, p3, p4⟩ := okPt_t hk
    have HT := hide (show ptText n d = decB n ++ ⟨#[44]⟩ ++ decB d by unfold ptText ptB; rw [hk]; rfl)
    have z1 := decB_size (n := n) (by omega) (by omega)
    have z2 := decB_size (n := d) (by omega) (by omega)
    have hc1 := fun W => run_string_add_sum (P := Try.prog) W (decB n) ⟨#[44]⟩ (by show _ + 1 ≤ _; omega)
    have hc2 := fun W => run_string_add_sum (P := Try.prog) W (decB n ++ ⟨#[44]⟩) (decB d) (by rw [size_app2]; show _ + 1 + _ ≤ _; omega)
    go_enter Try.func56, Try.ntmps56
    go_wp2_with (go_at_call 75; (with_reducible refine (validPt_i n d _).mono ?_); rintro e w1 ⟨rfl, hb1⟩; obtain ⟨hc1, hf1⟩ := bcell hb1; have hw1 : Below w.heap.size w w1 := bl_call (by repeat (first | exact Below.refl _ _ | assumption | (refine bl_alloc ?_ (Nat.le_refl _) _) | (refine bl_set ?_ (by simp <;> omega) _))) hb1; have hz1 : w.heap.size + 1 ≤ w1.heap.size := (by have hq := hb1.size; have hr := hw1.size; (try simp at hq); omega); have hza : w.heap.size < w1.heap.size := (by omega); have hz4 := hb1.size; (try simp at hz4); (try have hz5 := Nat.lt_of_succ_le hz4))
    refine wp_region_quiet_below (by kernel_rfl) (by kernel_rfl) ?_
    repeat (first | go_big_quiet_step ((first | (go_at_call 67; with_reducible exact Calls.regrown_of (decimal_i n (by omega) (by omega) _)) | (go_at_call 67; with_reducible exact Calls.regrown_of (decimal_i d (by omega) (by omega) _)))) | quiet_step ((first | (go_at_call 67; with_reducible exact Calls.regrown_of (decimal_i n (by omega) (by omega) _)) | (go_at_call 67; with_reducible exact Calls.regrown_of (decimal_i d (by omega) (by omega) _)))))
    refine wpQuiet_nil ?_
    intro w1 hw1
    obtain ⟨pq, hpq⟩ := hw1
    have hb1 := below_of hpq
    clear hpq pq
    have hz4 := hb1.size
    (try simp at hz4)
    obtain ⟨hc1, hf1⟩ := bcell hb1
    have hw1 : Below w.heap.size w w1 := bl_call (by repeat (first | exact Below.refl _ _ | assumption | (refine bl_alloc ?_ (Nat.le_refl _) _) | (refine bl_set ?_ (by simp <;> omega) _))) hb1
    have hz1 : w.heap.size + 1 ≤ w1.heap.size := (by have hq := hb1.size; have hr := hw1.size; (try simp at hq); omega)
    have hza : w.heap.size < w1.heap.size := (by omega)
    go_wp2
    go_ret
    exact ⟨by rw [HT.out]; rfl, (by repeat (first | exact Below.refl _ _ | assumption | (refine bl_alloc ?_ (Nat.le_refl _) _) | (refine bl_set ?_ (by simp <;> omega) _)))⟩
end Go.Proofs.Ythellegojnndlaa
