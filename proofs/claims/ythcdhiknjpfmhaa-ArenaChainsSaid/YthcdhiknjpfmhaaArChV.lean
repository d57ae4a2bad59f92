/- The statement ArenaChains, from its walk. -/
import Derived.Test.YthcdhiknjpfmhaaArChW
import Derived.Test.YthcdhiknjpfmhaaRows
import Derived.OpenShut
set_option linter.unusedVariables false
namespace Go.Proofs.Ythcdhiknjpfmhaa
open Go.RowKit Go.ChangeShapes
theorem chains_said (n : Int) (oa : Option Addr) (on ocap : Nat) (zs : List Int) (held : Bool) (w : World) (wn : (Lit.int .i64 n).wf = true) (wo : IsRow .i64 w oa on ocap zs) :
    Calls Try.prog 3 #[.int .i64 n, .slice oa on ocap, .bool held] w fun e w' => e = .returned (.bool true) ∧ Below w.heap.size w w' := by
  have := bounds_i64 wn
  exact chains_walk n oa on ocap (zs.take on) held w (argR_of wo) this.1 this.2
end Go.Proofs.Ythcdhiknjpfmhaa
