/- The statement HeapChains, from its walk. -/
import Derived.Test.YtmimnaaofpkndaaDoorHpChW
import Derived.Test.YtmimnaaofpkndaaDoorHpLg
set_option linter.unusedVariables false
set_option linter.unusedSimpArgs false
namespace Go.Proofs.YtmimnaaofpkndaaDoor
open Go.RowKit
theorem chains_said (n : Int) (a : Option Addr) (m cap : Nat) (zs : List Int) (ask : Int) (w : World) (wn : (Lit.int .i64 n).wf = true) (hr : IsRow .i64 w a m cap zs) (wask : (Lit.int .i64 ask).wf = true) (hL : laidMetH Tryd.prog Rows.heapChainsRow.laid w) :
    Calls Tryd.prog 3 #[.int .i64 n, .slice a m cap, .int .i64 ask] w fun e w' => e = .returned (.bool true) ∧ Below w.heap.size w w' := by
  rw [Go.MakeChecks.laidMetH_plain _ _ _ (by kernel_rfl)] at hL
  exact Hp.chains_walk n a m cap _ ask w (argR_of hr) (Hp.lg_of w (Lib.laidMet.reads hL (.head _))) (bounds_i64 wask)
end Go.Proofs.YtmimnaaofpkndaaDoor
