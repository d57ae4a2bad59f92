/- The statement HeapScopes, from its walk. -/
import Derived.Test.YtmimnaaofpkndaaDoorHqScW
import Derived.Test.YtmimnaaofpkndaaDoorHpLg
set_option linter.unusedVariables false
set_option linter.unusedSimpArgs false
namespace Go.Proofs.YtmimnaaofpkndaaDoor
open Go.RowKit
theorem scopes_said (n : Int) (w : World) (wn : (Lit.int .i64 n).wf = true) (hL : laidMetH Tryd.prog Rows.heapScopesRow.laid w) :
    Calls Tryd.prog 5 #[.int .i64 n] w fun e w' => e = .returned (.bool true) ∧ Below w.heap.size w w' := by
  rw [Go.MakeChecks.laidMetH_plain _ _ _ (by kernel_rfl)] at hL
  exact Hp.scopes_walk n w (Hp.lg_of w (Lib.laidMet.reads hL (.head _)))
end Go.Proofs.YtmimnaaofpkndaaDoor
