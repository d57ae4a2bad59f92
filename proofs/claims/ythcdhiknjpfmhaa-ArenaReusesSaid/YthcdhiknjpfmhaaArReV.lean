/- The statement ArenaReuses, from its walk. -/
import Derived.Test.YthcdhiknjpfmhaaArReW
import Derived.Test.YthcdhiknjpfmhaaRows
import Derived.OpenShut
set_option linter.unusedVariables false
namespace Go.Proofs.Ythcdhiknjpfmhaa
open Go.RowKit Go.ChangeShapes
theorem reuses_said (ka : Option Addr) (kn kcap : Nat) (B : Nat → Bool) (more : Int) (w : World) (wk : IsBools w ka kn B) (wm : (Lit.int .i64 more).wf = true) :
    Calls Try.prog 4 #[.slice ka kn kcap, .int .i64 more] w fun e w' => e = .returned (.bool true) ∧ Below w.heap.size w w' :=
  reuses_walk ka kn kcap _ more w (boolR_of wk)
end Go.Proofs.Ythcdhiknjpfmhaa
