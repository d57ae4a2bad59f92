/- Show: the library's tables out of what is laid; what ShowValues says where the plan is not too great. -/
import Derived.Test.YtdeboajjhpecbaaGreatDoorShVaW
import Derived.Test.YtdeboajjhpecbaaGreatDoorShV
import Derived.Test.YtdeboajjhpecbaaGreatDoorRows
import Derived.Lib.LaidU8
import Derived.Lib.LaidU8T
import Derived.Lib.LaidTab
import Derived.MakeChecks
import Derived.PinnedBridge
set_option linter.unusedVariables false
set_option linter.unusedSimpArgs false
namespace Go.Proofs.YtdeboajjhpecbaaGreatDoor
open Go.RowKit
theorem ut_of (w : World) (h3 : Lib.VarReads Tryz.prog w "unicode/utf8.first" Rows.laid_unicode_utf8_first) (h4 : Lib.VarReads Tryz.prog w "unicode/utf8.acceptRanges" Rows.laid_unicode_utf8_acceptRanges) : Vx.Ut w := by
  have h3 : Lib.VarReads Tryz.prog w "unicode/utf8.first" Lib.firstData := by
    rw [← Pinned.utf8First_eq]
    exact h3
  rw [show Rows.laid_unicode_utf8_acceptRanges = Lib.acceptData by kernel_rfl] at h4
  have hT : Lib.Utf8Tabs 4 5 w := utf8Tabs_of_readsT (U8Types.of260 Tryz.lays260) ⟨by kernel_rfl, by kernel_rfl, by kernel_rfl, by kernel_rfl, by kernel_rfl, by kernel_rfl, by kernel_rfl⟩ h3 h4
  exact ⟨hT, World.block_lt_of_cell? w ⟨5, _, none⟩ (hT.2 0 (by decide)).1⟩
theorem fb_of (w : World) (h3 : Lib.VarReads Tryz.prog w "strings.asciiSpace" Rows.laid_strings_asciiSpace) : Hp.Fb w := by
  rw [show Rows.laid_strings_asciiSpace = Lib.tabData .u8 Lib.asciiSpaceTab by kernel_rfl] at h3
  obtain ⟨g', t', cs, fuel, p, hg', hty', hvar, hd⟩ := h3
  obtain rfl := Option.some.inj ((show Tryz.prog.globalNamed "strings.asciiSpace" = some 1 by kernel_rfl).symm.trans hg')
  obtain rfl := Option.some.inj ((show (Tryz.prog.globals[1]?).map (·.type) = some 157 by kernel_rfl).symm.trans hty')
  unfold Hp.Fb Lib.TabIs
  rw [hvar, ← Lib.cells_of_tab Tryz.underlying157 Tryz.underlying5 (by kernel_rfl) (by kernel_rfl) hd]
theorem values_said {P : List Hp.PartV} {pn pc : Nat} {pa : Option Addr} {w : World} (hP : Hp.PlanR w pa pn P) (hlen : ∀ p ∈ P, p.len ≤ 4194304) (hpn : pn ≤ 4194304) (hL : laidMetH Tryz.prog Rows.showValuesUptoRow.laid w) :
    Calls Tryz.prog 3 #[.agg #[.slice pa pn pc]] w fun e w' => e = .returned (.bool true) ∧ Below w.heap.size w w' := by
  rw [Go.MakeChecks.laidMetH_plain _ _ _ (by kernel_rfl)] at hL
  exact Hp.values_walk hP hlen hpn ⟨tb_of w (Lib.laidMet.reads hL (.tail _ (.tail _ (.head _)))), ut_of w (Lib.laidMet.reads hL (.tail _ (.tail _ (.tail _ (.tail _ (.tail _ (.tail _ (.tail _ (.head _))))))))) (Lib.laidMet.reads hL (.tail _ (.tail _ (.tail _ (.head _)))))⟩ (fb_of w (Lib.laidMet.reads hL (.tail _ (.tail _ (.tail _ (.tail _ (.tail _ (.head _))))))))
end Go.Proofs.YtdeboajjhpecbaaGreatDoor
