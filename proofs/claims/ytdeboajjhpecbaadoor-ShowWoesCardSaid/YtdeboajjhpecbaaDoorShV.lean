/- Show: package strconv's table out of what is laid. -/
import Derived.Test.YtdeboajjhpecbaaDoorValB
import Derived.Test.YtdeboajjhpecbaaDoorRows
import Derived.Lib.LaidU8
import Derived.Lib.LaidTab
import Derived.MakeChecks
set_option linter.unusedVariables false
set_option linter.unusedSimpArgs false
namespace Go.Proofs.YtdeboajjhpecbaaDoor
open Go.RowKit
theorem tb_of (w : World) (h3 : Lib.VarReads Tryd.prog w "internal/strconv.uint64pow10" Rows.laid_internal_strconv_uint64pow10) : Vx.Tb w := by
  rw [show Rows.laid_internal_strconv_uint64pow10 = Lib.tabData .u64 Lib.pow10Tab by kernel_rfl] at h3
  obtain ⟨g', t', cs, fuel, p, hg', hty', hvar, hd⟩ := h3
  obtain rfl := Option.some.inj ((show Tryd.prog.globalNamed "internal/strconv.uint64pow10" = some 3 by kernel_rfl).symm.trans hg')
  obtain rfl := Option.some.inj ((show (Tryd.prog.globals[3]?).map (·.type) = some 176 by kernel_rfl).symm.trans hty')
  unfold Vx.Tb Lib.TabIs
  rw [hvar, ← Lib.cells_of_tab Tryd.underlying176 Tryd.underlying150 (by kernel_rfl) (by kernel_rfl) hd]
end Go.Proofs.YtdeboajjhpecbaaDoor
