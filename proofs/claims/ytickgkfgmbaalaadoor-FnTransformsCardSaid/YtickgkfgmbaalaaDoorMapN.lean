/-
  CONTRACTS of the negative of a fraction (impl.negFrac, spec.l04Neg) and of the reference's l04Two. Conditions: integers of 64 bits; the fractions of l04Two are valid.
-/
import Derived.Test.YtickgkfgmbaalaaDoorMapD
namespace Go.Proofs.YtickgkfgmbaalaaDoor
open Go.RowKit Go.Sort
set_option linter.unusedVariables false
attribute [local go_sem] cell_grow frozen_grow
attribute [local go_sem] Oper.quietAt Oper.quietUpon
theorem neg_wrap {a : Int} (h0 : -9223372036854775808 < a) (h1 : a ≤ 9223372036854775807) : (-a + 9223372036854775808) % 18446744073709551616 - 9223372036854775808 = -a := by omega
theorem okF_neg {p : F2} (h : okF p = true) : okF (negF p) = true := by
  obtain ⟨a, b⟩ := p
  exact okFr_neg h
theorem negFrac_any (p : F2) (h : okF p = true) (w : World) : Calls Tryd.prog 33 #[.agg #[.int .i64 p.1, .int .i64 p.2]] w fun e w' => e = .returned (.agg #[.int .i64 (-p.1), .int .i64 p.2]) ∧ Below w.heap.size w w' := by
  obtain ⟨_, _, p3, p4, _⟩ := okFr_t h
  have hn := neg_wrap (a := p.1) (by omega) (by omega)
  go_enter Tryd.func33, Tryd.ntmps33
  go_wp2
  exact bodyPost_ret (v := .agg #[.int .i64 (-p.1), .int .i64 p.2]) (by simp [results, Tryd.results33, go_sem, *]) rfl ⟨rfl, (by repeat (first | (with_reducible refine bl_set ?_ (by simp <;> omega) _) | (with_reducible refine bl_alloc ?_ (Nat.le_refl _) _) | (with_reducible refine Below.drew ?_) | (with_reducible assumption) | (with_reducible exact Below.refl _ _)))⟩
end Go.Proofs.YtickgkfgmbaalaaDoor
