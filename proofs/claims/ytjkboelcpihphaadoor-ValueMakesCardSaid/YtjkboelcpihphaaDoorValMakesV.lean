/- The statement ValueMakes, from its walk: package strconv's table out of what is laid. -/
import Derived.Test.YtjkboelcpihphaaDoorValMakesW
import Derived.Test.YtjkboelcpihphaaDoorRows
import Derived.Lib.LaidU8
import Derived.Lib.LaidTab
import Derived.MakeChecks
set_option linter.unusedVariables false
set_option linter.unusedSimpArgs false
namespace Go.Proofs.YtjkboelcpihphaaDoor
open Go.RowKit

theorem tab_makes (w : World) (hL : laidMetH Tryd.prog Rows.valueMakesRow.laid w) : Tb w := by
  rw [Go.MakeChecks.laidMetH_plain _ _ _ (by kernel_rfl)] at hL
  have h3 : Lib.VarReads Tryd.prog w "internal/strconv.uint64pow10" (Lib.tabData .u64 Lib.pow10Tab) := by
    rw [show Lib.tabData .u64 Lib.pow10Tab = Rows.laid_internal_strconv_uint64pow10 by kernel_rfl]
    exact Lib.laidMet.reads hL (.tail _ (.tail _ (.head _)))
  obtain ⟨g', t', cs, fuel, p, hg', hty', hvar, hd⟩ := h3
  obtain rfl := Option.some.inj ((show Tryd.prog.globalNamed "internal/strconv.uint64pow10" = some 3 by kernel_rfl).symm.trans hg')
  obtain rfl := Option.some.inj ((show (Tryd.prog.globals[3]?).map (·.type) = some 108 by kernel_rfl).symm.trans hty')
  unfold Tb Lib.TabIs
  rw [hvar, ← Lib.cells_of_tab Tryd.underlying108 Tryd.underlying60 (by kernel_rfl) (by kernel_rfl) hd]
theorem makes_said (r : Int) (x : Bool) (w : World) (wr : (Lit.int .i64 r).wf = true) (hL : laidMetH Tryd.prog Rows.valueMakesRow.laid w) :
    Calls Tryd.prog 5 #[.int .i64 r, .bool x] w fun e w' => e = .returned (.bool true) ∧ Below w.heap.size w w' :=
  makes_walk r x w (tab_makes w hL)
end Go.Proofs.YtjkboelcpihphaaDoor
