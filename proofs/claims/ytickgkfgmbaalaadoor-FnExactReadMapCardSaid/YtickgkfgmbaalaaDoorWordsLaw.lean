/-
  The walk of the law FnExactSplitWords. Conditions: none.
-/
import Derived.Test.YtickgkfgmbaalaaDoorWords
namespace Go.Proofs.YtickgkfgmbaalaaDoor
open Go.RowKit Go.Sort
set_option linter.unusedVariables false
attribute [local go_sem] cell_grow frozen_grow
end Go.Proofs.YtickgkfgmbaalaaDoor
