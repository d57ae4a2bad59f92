/- The statement HeapLengths, from its walk. -/
import Derived.Test.YtmimnaaofpkndaaDoorHpLnW
import Derived.Test.YtmimnaaofpkndaaDoorHpLg
set_option linter.unusedVariables false
set_option linter.unusedSimpArgs false
namespace Go.Proofs.YtmimnaaofpkndaaDoor
open Go.RowKit
theorem lengths_said (a : Option Addr) (m cap : Nat) (zs : List Int) (w : World) (hr : IsRow .i64 w a m cap zs) (hL : laidMetH Tryd.prog Rows.heapLengthsRow.laid w) :
    Calls Tryd.prog 4 #[.slice a m cap] w fun e w' => e = .returned (.bool true) ∧ Below w.heap.size w w' := by
  rw [Go.MakeChecks.laidMetH_plain _ _ _ (by kernel_rfl)] at hL
  exact Hp.lengths_walk a m cap _ w (argR_of hr) (Hp.lg_of w (Lib.laidMet.reads hL (.head _)))
end Go.Proofs.YtmimnaaofpkndaaDoor
