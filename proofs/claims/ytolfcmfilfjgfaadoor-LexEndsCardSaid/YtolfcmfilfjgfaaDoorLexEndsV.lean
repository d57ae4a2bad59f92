/- The statement LexEnds, from its walk. -/
import Derived.Test.YtolfcmfilfjgfaaDoorLexEndsW
import Derived.Test.YtolfcmfilfjgfaaDoorLexV
set_option linter.unusedVariables false
set_option linter.unusedSimpArgs false
namespace Go.Proofs.YtolfcmfilfjgfaaDoor
open Go.RowKit
theorem ends_said (n c : Int) (w : World) (wn : (Lit.int .i64 n).wf = true) (wc : (Lit.int .i64 c).wf = true) (hL : laidMetH Tryd.prog Rows.lexEndsRow.laid w) (hsh : w.ShapedOpen Tryd.prog) :
    Calls Tryd.prog 5 #[.int .i64 n, .int .i64 c] w fun e w' => e = .returned (.bool true) ∧ Below w.heap.size w w' := by
  rw [Go.MakeChecks.laidMetH_plain _ _ _ (by kernel_rfl)] at hL
  obtain ⟨m, hm⟩ := maxLen_of hsh
  refine ends_walk n c m w hm (tab_of ?_)
  rw [show Lib.tabData .u8 Lib.asciiSpaceTab = Rows.laid_strings_asciiSpace by kernel_rfl]
  exact Lib.laidMet.reads hL (.tail _ (.head _))
end Go.Proofs.YtolfcmfilfjgfaaDoor
