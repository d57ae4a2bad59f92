/- The statement CodeOperators, from its walk: strings.Fields' table out of what is laid. -/
import Derived.Test.YtipijgnbdnbljaaDoorCodOperatorsW
import Derived.Test.YtipijgnbdnbljaaDoorRows
import Derived.Lib.LaidU8
import Derived.MakeChecks
set_option linter.unusedVariables false
set_option linter.unusedSimpArgs false
namespace Go.Proofs.YtipijgnbdnbljaaDoor
open Go.RowKit

theorem tab_operators (w : World) (hL : laidMetH Tryd.prog Rows.codeOperatorsRow.laid w) : Tb w := by
  rw [Go.MakeChecks.laidMetH_plain _ _ _ (by kernel_rfl)] at hL
  have h3 : Lib.VarReads Tryd.prog w "strings.asciiSpace" (Lib.tabData .u8 Lib.asciiSpaceTab) := by
    rw [show Lib.tabData .u8 Lib.asciiSpaceTab = Rows.laid_strings_asciiSpace by kernel_rfl]
    exact Lib.laidMet.reads hL (.tail _ (.head _))
  obtain ⟨g', t', cs, fuel, p, hg', hty', hvar, hd⟩ := h3
  obtain rfl := Option.some.inj ((show Tryd.prog.globalNamed "strings.asciiSpace" = some 0 by kernel_rfl).symm.trans hg')
  obtain rfl := Option.some.inj ((show (Tryd.prog.globals[0]?).map (·.type) = some 54 by kernel_rfl).symm.trans hty')
  unfold Tb Lib.TabIs
  rw [hvar, ← Lib.cells_of_tab Tryd.underlying54 Tryd.underlying5 (by kernel_rfl) (by kernel_rfl) hd]
theorem operators_said (n : Int) (s : ByteArray) (w : World) (wn : (Lit.int .i64 n).wf = true) (ws : s.size ≤ maxLen) (hL : laidMetH Tryd.prog Rows.codeOperatorsRow.laid w) :
    Calls Tryd.prog 3 #[.int .i64 n, .string s] w fun e w' => e = .returned (.bool true) ∧ Below w.heap.size w w' :=
  operators_walk n s w (tab_operators w hL)
end Go.Proofs.YtipijgnbdnbljaaDoor
