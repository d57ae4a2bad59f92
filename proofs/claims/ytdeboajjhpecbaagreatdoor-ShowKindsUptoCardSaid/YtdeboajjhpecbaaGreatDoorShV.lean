/- Show: package strconv's table out of what is laid. -/
import Derived.Test.YtdeboajjhpecbaaGreatDoorValB
import Derived.Test.YtdeboajjhpecbaaGreatDoorRows
import Derived.Lib.LaidU8
import Derived.Lib.LaidTab
import Derived.MakeChecks
set_option linter.unusedVariables false
set_option linter.unusedSimpArgs false
namespace Go.Proofs.YtdeboajjhpecbaaGreatDoor
open Go.RowKit
theorem tb_of (w : World) (h3 : Lib.VarReads Tryz.prog w "internal/strconv.uint64pow10" Rows.laid_internal_strconv_uint64pow10) : Vx.Tb w := by
  rw [show Rows.laid_internal_strconv_uint64pow10 = Lib.tabData .u64 Lib.pow10Tab by kernel_rfl] at h3
  obtain ⟨g', t', cs, fuel, p, hg', hty', hvar, hd⟩ := h3
  obtain rfl := Option.some.inj ((show Tryz.prog.globalNamed "internal/strconv.uint64pow10" = some 3 by kernel_rfl).symm.trans hg')
  obtain rfl := Option.some.inj ((show (Tryz.prog.globals[3]?).map (·.type) = some 204 by kernel_rfl).symm.trans hty')
  unfold Vx.Tb Lib.TabIs
  rw [hvar, ← Lib.cells_of_tab Tryz.underlying204 Tryz.underlying195 (by kernel_rfl) (by kernel_rfl) hd]
end Go.Proofs.YtdeboajjhpecbaaGreatDoor
