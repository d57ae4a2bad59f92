/- The statement CodeRight, from its walk: long inputs, and strings.Fields' table out of what is laid. -/
import Derived.Test.YtipijgnbdnbljaaDoorCodRightW
import Derived.Test.YtipijgnbdnbljaaDoorRows
import Derived.Lib.LaidU8
import Derived.MakeChecks
set_option linter.unusedVariables false
set_option linter.unusedSimpArgs false
namespace Go.Proofs.YtipijgnbdnbljaaDoor
open Go.RowKit

theorem tab_right (w : World) (hL : laidMetH Tryd.prog Rows.codeRightRow.laid w) : Tb w := by
  rw [Go.MakeChecks.laidMetH_plain _ _ _ (by kernel_rfl)] at hL
  have h3 : Lib.VarReads Tryd.prog w "strings.asciiSpace" (Lib.tabData .u8 Lib.asciiSpaceTab) := by
    rw [show Lib.tabData .u8 Lib.asciiSpaceTab = Rows.laid_strings_asciiSpace by kernel_rfl]
    exact Lib.laidMet.reads hL (.tail _ (.head _))
  obtain ⟨g', t', cs, fuel, p, hg', hty', hvar, hd⟩ := h3
  obtain rfl := Option.some.inj ((show Tryd.prog.globalNamed "strings.asciiSpace" = some 0 by kernel_rfl).symm.trans hg')
  obtain rfl := Option.some.inj ((show (Tryd.prog.globals[0]?).map (·.type) = some 54 by kernel_rfl).symm.trans hty')
  unfold Tb Lib.TabIs
  rw [hvar, ← Lib.cells_of_tab Tryd.underlying54 Tryd.underlying5 (by kernel_rfl) (by kernel_rfl) hd]

set_option maxHeartbeats 1000000 in
set_option maxRecDepth 100000 in
theorem right_long (a : Option Addr) (len cap : Nat) (c f : Int) (w : World) (h : Tb w) (hlen : 200 < len) (hm : len ≤ 9223372036854775807) :
    Calls Tryd.prog 4 #[.slice a len cap, .int .i64 c, .int .i64 f] w fun e w' => e = .returned (.bool true) ∧ Below w.heap.size w w' := by
  have HT := Lib.hid h
  clear h
  have t200 : decide ((200 : Int) < (len : Int)) = true := by simp; omega
  go_enter Tryd.func4, Tryd.ntmps4
  go_wp2_with fail
  refine (fit_any _ HT.out).mono ?_
  rintro e w1 ⟨rfl, b1⟩
  go_wp2
  go_ret
  exact ⟨rfl, b1⟩

theorem right_said (a : Option Addr) (len cap : Nat) (zs : List Int) (c f : Int) (w : World) (h : IsRows .i64 w a len cap 3 zs) (wc : (Lit.int .i64 c).wf = true) (wf : (Lit.int .i64 f).wf = true) (hL : laidMetH Tryd.prog Rows.codeRightRow.laid w) :
    Calls Tryd.prog 4 #[.slice a len cap, .int .i64 c, .int .i64 f] w fun e w' => e = .returned (.bool true) ∧ Below w.heap.size w w' := by
  obtain ⟨hm, L, hl⟩ := tripR_in h
  unfold maxLen at hm
  by_cases hlen : len ≤ 200
  · exact right_walk a len cap L c f w (tab_right w hL) hl hlen
  · exact right_long a len cap c f w (tab_right w hL) (by omega) (by omega)
end Go.Proofs.YtipijgnbdnbljaaDoor
