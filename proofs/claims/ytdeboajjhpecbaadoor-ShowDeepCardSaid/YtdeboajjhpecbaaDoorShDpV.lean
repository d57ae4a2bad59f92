/- The statement ShowDeep, from its walk. -/
import Derived.Test.YtdeboajjhpecbaaDoorShDpW
import Derived.Test.YtdeboajjhpecbaaDoorShV
set_option linter.unusedVariables false
set_option linter.unusedSimpArgs false
namespace Go.Proofs.YtdeboajjhpecbaaDoor
open Go.RowKit
theorem deep_said (n : Int) (w : World) (wn : (Lit.int .i64 n).wf = true) (hL : laidMetH Tryd.prog Rows.showDeepRow.laid w) :
    Calls Tryd.prog 3 #[.int .i64 n] w fun e w' => e = .returned (.bool true) ∧ Below w.heap.size w w' := by
  rw [Go.MakeChecks.laidMetH_plain _ _ _ (by kernel_rfl)] at hL
  exact Hp.deep_walk n w (tb_of w (Lib.laidMet.reads hL (.tail _ (.tail _ (.head _)))))
end Go.Proofs.YtdeboajjhpecbaaDoor
