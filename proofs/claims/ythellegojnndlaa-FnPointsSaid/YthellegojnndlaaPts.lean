/-
  CONTRACT of impl.validPts, at every number of points up to four, and at two, three and four points: true if all are valid; no cell that was there is written. Conditions: the points lie in a block that is there.
-/
import Derived.Test.YthellegojnndlaaPt
namespace Go.Proofs.Ythellegojnndlaa
open Go.RowKit
set_option linter.unusedVariables false

def allOk (xs ys : Nat → Int) : Nat → Bool
  | 0 => true
  | n + 1 => allOk xs ys n && okPt (xs n) (ys n)
theorem allOk_f {xs ys : Nat → Int} {k : Nat} (h : okPt (xs k) (ys k) = false) : ∀ n, k < n → allOk xs ys n = false
  | 0, hk => by omega
  | n + 1, hk => by
    by_cases e : k = n
    · subst e; simp [allOk, h]
    · simp [allOk, allOk_f h n (by omega)]
set_option maxHeartbeats 400000 in
theorem validPts_any (b n c : Nat) (xs ys : Nat → Int) (w : World) (hn : n ≤ 4) (hlt : b < w.heap.size)
    (hx : ∀ k, k < n → w.cell? ⟨b, k * 2, none⟩ = some (.int .i64 (xs k))) (hy : ∀ k, k < n → w.cell? ⟨b, k * 2 + 1, none⟩ = some (.int .i64 (ys k))) :
    Calls Try.prog 62 #[.slice (some ⟨b, 0, none⟩) n c] w fun e w' => e = .returned (.bool (allOk xs ys n)) ∧ Below w.heap.size w w' := by
  have Hx := hide hx
  have Hy := hide hy
  clear hx hy
  go_enter Try.func62, Try.ntmps62
  go_wp2
  go_loopw [7] (fun i wr => ∃ k : Nat, k ≤ n ∧ i = .int .i64 k ∧ Below w.heap.size w wr ∧ Hid (allOk xs ys k = true)) (fun i _ => n - (intOf i).toNat)
  case atStart => exact ⟨0, Nat.zero_le _, rfl, Below.refl _ _, rfl⟩
  case round =>
    obtain ⟨k, hk, rfl, hb, ho⟩ := hrel
    by_cases hkn : k < n
    · have hbx := (hb.cell (p := ⟨b, k * 2, none⟩) hlt).trans (Hx.out k hkn)
      have hby := (hb.cell (p := ⟨b, k * 2 + 1, none⟩) hlt).trans (Hy.out k hkn)
      by_cases ho2 : okPt (xs k) (ys k) = true
      · go_wp2_with (go_at_call 75; (with_reducible refine (validPt_i _ _ _).mono ?_); rintro e w1 ⟨rfl, hb1⟩)
        go_roundw
        case rel => exact ⟨k + 1, by omega, by go_num, (hb.alloc hb.size _).trans (hb1.mono (by simp; have := hb.size; omega)), by unfold Hid; rw [allOk, ho.out, ho2]; rfl⟩
        case measure => simp [intOf]; omega
      · have ho3 : okPt (xs k) (ys k) = false := by simpa using ho2
        clear ho2
        have hE := hide (allOk_f ho3 n hkn)
        go_wp2_with (go_at_call 75; (with_reducible refine (validPt_i _ _ _).mono ?_); rintro e w1 ⟨rfl, hb1⟩)
        go_ret
        exact ⟨ret_bool hE.out.symm, (hb.alloc hb.size _).trans (hb1.mono (by simp; have := hb.size; omega))⟩
    · obtain rfl : n = k := by omega
      go_wp2
      go_ret
      exact ⟨ret_bool ho.out.symm, hb⟩
set_option maxHeartbeats 400000 in
theorem validPts2 (b c : Nat) (x0 y0 x1 y1 : Int) (w : World) (hlt : b < w.heap.size) (h0 : w.cell? ⟨b, 0, none⟩ = some (.int .i64 x0)) (g0 : w.cell? ⟨b, 1, none⟩ = some (.int .i64 y0)) (h1 : w.cell? ⟨b, 2, none⟩ = some (.int .i64 x1)) (g1 : w.cell? ⟨b, 3, none⟩ = some (.int .i64 y1)) :
    Calls Try.prog 62 #[.slice (some ⟨b, 0, none⟩) 2 c] w fun e w' => e = .returned (.bool (okPt x0 y0 && okPt x1 y1)) ∧ Below w.heap.size w w' :=
  (validPts_any b 2 c (fun k => match k with | 0 => x0 | 1 => x1 | _ => 0) (fun k => match k with | 0 => y0 | 1 => y1 | _ => 0) w (by omega) hlt
    (fun k hk => by
      have : k = 0 ∨ k = 1 := by omega
      rcases this with rfl | rfl <;> assumption)
    (fun k hk => by
      have : k = 0 ∨ k = 1 := by omega
      rcases this with rfl | rfl <;> assumption)).mono fun e w' ⟨h, hb⟩ => ⟨h.trans (ret_bool (by simp [allOk])), hb⟩
set_option maxHeartbeats 400000 in
theorem validPts3 (b c : Nat) (x0 y0 x1 y1 x2 y2 : Int) (w : World) (hlt : b < w.heap.size) (h0 : w.cell? ⟨b, 0, none⟩ = some (.int .i64 x0)) (g0 : w.cell? ⟨b, 1, none⟩ = some (.int .i64 y0)) (h1 : w.cell? ⟨b, 2, none⟩ = some (.int .i64 x1)) (g1 : w.cell? ⟨b, 3, none⟩ = some (.int .i64 y1)) (h2 : w.cell? ⟨b, 4, none⟩ = some (.int .i64 x2)) (g2 : w.cell? ⟨b, 5, none⟩ = some (.int .i64 y2)) :
    Calls Try.prog 62 #[.slice (some ⟨b, 0, none⟩) 3 c] w fun e w' => e = .returned (.bool (okPt x0 y0 && okPt x1 y1 && okPt x2 y2)) ∧ Below w.heap.size w w' :=
  (validPts_any b 3 c (fun k => match k with | 0 => x0 | 1 => x1 | 2 => x2 | _ => 0) (fun k => match k with | 0 => y0 | 1 => y1 | 2 => y2 | _ => 0) w (by omega) hlt
    (fun k hk => by
      have : k = 0 ∨ k = 1 ∨ k = 2 := by omega
      rcases this with rfl | rfl | rfl <;> assumption)
    (fun k hk => by
      have : k = 0 ∨ k = 1 ∨ k = 2 := by omega
      rcases this with rfl | rfl | rfl <;> assumption)).mono fun e w' ⟨h, hb⟩ => ⟨h.trans (ret_bool (by simp [allOk])), hb⟩
set_option maxHeartbeats 400000 in
theorem validPts4 (b c : Nat) (x0 y0 x1 y1 x2 y2 x3 y3 : Int) (w : World) (hlt : b < w.heap.size) (h0 : w.cell? ⟨b, 0, none⟩ = some (.int .i64 x0)) (g0 : w.cell? ⟨b, 1, none⟩ = some (.int .i64 y0)) (h1 : w.cell? ⟨b, 2, none⟩ = some (.int .i64 x1)) (g1 : w.cell? ⟨b, 3, none⟩ = some (.int .i64 y1)) (h2 : w.cell? ⟨b, 4, none⟩ = some (.int .i64 x2)) (g2 : w.cell? ⟨b, 5, none⟩ = some (.int .i64 y2)) (h3 : w.cell? ⟨b, 6, none⟩ = some (.int .i64 x3)) (g3 : w.cell? ⟨b, 7, none⟩ = some (.int .i64 y3)) :
    Calls Try.prog 62 #[.slice (some ⟨b, 0, none⟩) 4 c] w fun e w' => e = .returned (.bool (okPt x0 y0 && okPt x1 y1 && okPt x2 y2 && okPt x3 y3)) ∧ Below w.heap.size w w' :=
  (validPts_any b 4 c (fun k => match k with | 0 => x0 | 1 => x1 | 2 => x2 | 3 => x3 | _ => 0) (fun k => match k with | 0 => y0 | 1 => y1 | 2 => y2 | 3 => y3 | _ => 0) w (by omega) hlt
    (fun k hk => by
      have : k = 0 ∨ k = 1 ∨ k = 2 ∨ k = 3 := by omega
      rcases this with rfl | rfl | rfl | rfl <;> assumption)
    (fun k hk => by
      have : k = 0 ∨ k = 1 ∨ k = 2 ∨ k = 3 := by omega
      rcases this with rfl | rfl | rfl | rfl <;> assumption)).mono fun e w' ⟨h, hb⟩ => ⟨h.trans (ret_bool (by simp [allOk])), hb⟩
end Go.Proofs.Ythellegojnndlaa
