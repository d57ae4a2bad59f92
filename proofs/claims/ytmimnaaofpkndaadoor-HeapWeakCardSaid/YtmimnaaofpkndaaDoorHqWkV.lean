/- The statement HeapWeak, from its walk. -/
import Derived.Test.YtmimnaaofpkndaaDoorHqWkA
import Derived.Test.YtmimnaaofpkndaaDoorHpLg
set_option linter.unusedVariables false
set_option linter.unusedSimpArgs false
namespace Go.Proofs.YtmimnaaofpkndaaDoor
open Go.RowKit
theorem weak_said (n : Int) (a : Option Addr) (m cap : Nat) (B : Nat → Bool) (w : World) (wn : (Lit.int .i64 n).wf = true) (hr : IsBools w a m B) (hL : laidMetH Tryd.prog Rows.heapWeakRow.laid w) :
    Calls Tryd.prog 6 #[.int .i64 n, .slice a m cap] w fun e w' => e = .returned (.bool true) ∧ Below w.heap.size w w' := by
  rw [Go.MakeChecks.laidMetH_plain _ _ _ (by kernel_rfl)] at hL
  exact Hp.weak_walk n a m cap _ w (boolR_of hr) (Hp.lg_of w (Lib.laidMet.reads hL (.head _)))
end Go.Proofs.YtmimnaaofpkndaaDoor
