/- The statement ArenaNone, from its walk. -/
import Derived.Test.YthcdhiknjpfmhaaArNoneW
import Derived.Test.YthcdhiknjpfmhaaRows
import Derived.OpenShut
set_option linter.unusedVariables false
namespace Go.Proofs.Ythcdhiknjpfmhaa
open Go.RowKit Go.ChangeShapes
theorem none_said (r : Int) (w : World) (wr : (Lit.int .i64 r).wf = true) :
    Calls Try.prog 7 #[.int .i64 r] w fun e w' => e = .returned (.bool true) ∧ Below w.heap.size w w' := by
  exact none_walk r w (bounds_i64 wr)
end Go.Proofs.Ythcdhiknjpfmhaa
