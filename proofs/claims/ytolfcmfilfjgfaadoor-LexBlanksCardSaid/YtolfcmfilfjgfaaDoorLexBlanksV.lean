/- The statement LexBlanks, from its walk. -/
import Derived.Test.YtolfcmfilfjgfaaDoorLexBlanksW
import Derived.Test.YtolfcmfilfjgfaaDoorLexV
set_option linter.unusedVariables false
set_option linter.unusedSimpArgs false
namespace Go.Proofs.YtolfcmfilfjgfaaDoor
open Go.RowKit
theorem blanks_said (s : ByteArray) (a : Option Addr) (len cap : Nat) (zs : List Int) (w : World) (ws : s.size ≤ maxLen) (wr : IsRow .i64 w a len cap zs) (hL : laidMetH Tryd.prog Rows.lexBlanksRow.laid w) (hsh : w.ShapedOpen Tryd.prog) :
    Calls Tryd.prog 3 #[.string s, .slice a len cap] w fun e w' => e = .returned (.bool true) ∧ Below w.heap.size w w' := by
  rw [Go.MakeChecks.laidMetH_plain _ _ _ (by kernel_rfl)] at hL
  obtain ⟨m, hm⟩ := maxLen_of hsh
  have hm2 : maxLen ≤ 9223372036854775807 := by unfold maxLen; omega
  refine blanks_walk s a len cap (zs.take len) m w (by omega) (sliceR_in wr).1 hm (tab_of ?_)
  rw [show Lib.tabData .u8 Lib.asciiSpaceTab = Rows.laid_strings_asciiSpace by kernel_rfl]
  exact Lib.laidMet.reads hL (.tail _ (.head _))
end Go.Proofs.YtolfcmfilfjgfaaDoor
