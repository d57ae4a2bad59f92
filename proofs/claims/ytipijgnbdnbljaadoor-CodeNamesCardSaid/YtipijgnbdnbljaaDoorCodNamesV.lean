/- The statement CodeNames, from its walk: strings.Fields' table out of what is laid. -/
import Derived.Test.YtipijgnbdnbljaaDoorCodNamesW
import Derived.Test.YtipijgnbdnbljaaDoorRows
import Derived.Lib.LaidU8
import Derived.MakeChecks
set_option linter.unusedVariables false
set_option linter.unusedSimpArgs false
namespace Go.Proofs.YtipijgnbdnbljaaDoor
open Go.RowKit

theorem tab_names (w : World) (hL : laidMetH Tryd.prog Rows.codeNamesRow.laid w) : Tb w := by
  rw [Go.MakeChecks.laidMetH_plain _ _ _ (by kernel_rfl)] at hL
  have h3 : Lib.VarReads Tryd.prog w "strings.asciiSpace" (Lib.tabData .u8 Lib.asciiSpaceTab) := by
    rw [show Lib.tabData .u8 Lib.asciiSpaceTab = Rows.laid_strings_asciiSpace by kernel_rfl]
    exact Lib.laidMet.reads hL (.tail _ (.tail _ (.tail _ (.tail _ (.head _)))))
  obtain ⟨g', t', cs, fuel, p, hg', hty', hvar, hd⟩ := h3
  obtain rfl := Option.some.inj ((show Tryd.prog.globalNamed "strings.asciiSpace" = some 0 by kernel_rfl).symm.trans hg')
  obtain rfl := Option.some.inj ((show (Tryd.prog.globals[0]?).map (·.type) = some 54 by kernel_rfl).symm.trans hty')
  unfold Tb Lib.TabIs
  rw [hvar, ← Lib.cells_of_tab Tryd.underlying54 Tryd.underlying5 (by kernel_rfl) (by kernel_rfl) hd]
theorem names_said (a b : Int) (w : World) (wa : (Lit.int .i64 a).wf = true) (wb : (Lit.int .i64 b).wf = true) (hL : laidMetH Tryd.prog Rows.codeNamesRow.laid w) :
    Calls Tryd.prog 6 #[.int .i64 a, .int .i64 b] w fun e w' => e = .returned (.bool true) ∧ Below w.heap.size w w' :=
  names_walk a b w (tab_names w hL) trivial
end Go.Proofs.YtipijgnbdnbljaaDoor
