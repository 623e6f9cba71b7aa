/-
  CONTRACTS of MixFrac (packages impl and spec): what it returns at every three fractions; no cell that was there is written. And the walk of its law. Conditions: the numbers are of 64 bits.
-/
import Derived.Test.YtickgkfgmbaalaaDoorOps
namespace Go.Proofs.YtickgkfgmbaalaaDoor
open Go.RowKit Go.Sort
set_option linter.unusedVariables false
attribute [local go_sem] cell_grow frozen_grow
attribute [local go_sem] Oper.quietAt Oper.quietUpon

/-- the difference, the product, and what is made of them, one behind the other -/
def mixP (a b c d e f : Int) (sC mC : Int) (good : Int) (bad1 bad2 bad3 : Int) : Int := if okFr a b && okFr c d && okFr e f then (if sC = 0 then (if mC = 0 then good else bad3) else bad2) else bad1
def mS (x : Int → Int → Int → Int → Int) (a b c d : Int) : Int := x c d a b
def m2N (a b c d e f : Int) : Int := mulN e f (subN c d a b) (subD c d a b)
def m2D (a b c d e f : Int) : Int := mulD e f (subN c d a b) (subD c d a b)
def m2C (a b c d e f : Int) : Int := mulC e f (subN c d a b) (subD c d a b)
def mixN (a b c d e f : Int) : Int := mixP a b c d e f (subC c d a b) (m2C a b c d e f) (addN a b (m2N a b c d e f) (m2D a b c d e f)) 0 0 0
def mixD (a b c d e f : Int) : Int := mixP a b c d e f (subC c d a b) (m2C a b c d e f) (addD a b (m2N a b c d e f) (m2D a b c d e f)) 0 0 0
def mixC (a b c d e f : Int) : Int := mixP a b c d e f (subC c d a b) (m2C a b c d e f) (addC a b (m2N a b c d e f) (m2D a b c d e f)) 1 (subC c d a b) (m2C a b c d e f)
theorem rN_bd {ok : Bool} {n d : Int} (h : rC ok n d = 0) : -9223372036854775808 ≤ rN ok n d ∧ rN ok n d ≤ 9223372036854775807 := by
  unfold rC at h; unfold rN
  cases ok
  · simp at h
  · simp only [if_true] at h ⊢
    obtain ⟨_, _, h3, h4, _⟩ := okFr_t (mk_ok h)
    omega
theorem rC_ok {ok : Bool} {n d : Int} (h : rC ok n d = 0) : okFr (rN ok n d) (rD ok n d) = true := by
  unfold rC at h; unfold rN rD
  cases ok
  · simp at h
  · simp only [if_true] at h ⊢
    exact mk_ok h


end Go.Proofs.YtickgkfgmbaalaaDoor

