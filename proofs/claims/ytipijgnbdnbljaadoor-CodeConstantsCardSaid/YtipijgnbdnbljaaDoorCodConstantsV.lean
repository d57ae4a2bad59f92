/- The statement CodeConstants, from its walk: long inputs, and strings.Fields' table out of what is laid. -/
import Derived.Test.YtipijgnbdnbljaaDoorCodConstantsW
import Derived.Test.YtipijgnbdnbljaaDoorRows
import Derived.Lib.LaidU8
import Derived.MakeChecks
set_option linter.unusedVariables false
set_option linter.unusedSimpArgs false
namespace Go.Proofs.YtipijgnbdnbljaaDoor
open Go.RowKit

theorem tab_constants (w : World) (hL : laidMetH Tryd.prog Rows.codeConstantsRow.laid w) : Tb w := by
  rw [Go.MakeChecks.laidMetH_plain _ _ _ (by kernel_rfl)] at hL
  have h3 : Lib.VarReads Tryd.prog w "strings.asciiSpace" (Lib.tabData .u8 Lib.asciiSpaceTab) := by
    rw [show Lib.tabData .u8 Lib.asciiSpaceTab = Rows.laid_strings_asciiSpace by kernel_rfl]
    exact Lib.laidMet.reads hL (.tail _ (.head _))
  obtain ⟨g', t', cs, fuel, p, hg', hty', hvar, hd⟩ := h3
  obtain rfl := Option.some.inj ((show Tryd.prog.globalNamed "strings.asciiSpace" = some 0 by kernel_rfl).symm.trans hg')
  obtain rfl := Option.some.inj ((show (Tryd.prog.globals[0]?).map (·.type) = some 54 by kernel_rfl).symm.trans hty')
  unfold Tb Lib.TabIs
  rw [hvar, ← Lib.cells_of_tab Tryd.underlying54 Tryd.underlying5 (by kernel_rfl) (by kernel_rfl) hd]
set_option maxHeartbeats 1000000 in
set_option maxRecDepth 100000 in
theorem constants_long (a b : Option Addr) (na ca nb cb : Nat) (w : World) (h : Tb w) (hlen : 200 < na ∨ 200 < nb) (hm : na ≤ 9223372036854775807) (hm2 : nb ≤ 9223372036854775807) :
    Calls Tryd.prog 5 #[.slice a na ca, .slice b nb cb] w fun e w' => e = .returned (.bool true) ∧ Below w.heap.size w w' := by
  have HT := Lib.hid h
  clear h
  by_cases h1 : 200 < na
  · have t1 : decide ((200 : Int) < (na : Int)) = true := by simp; omega
    clear hlen
    go_enter Tryd.func5, Tryd.ntmps5
    go_wp2_with fail
    refine (fit_any _ HT.out).mono ?_
    rintro e w1 ⟨rfl, b1⟩
    go_wp2
    go_ret
    exact ⟨rfl, b1⟩
  · have t1 : decide ((200 : Int) < (na : Int)) = false := by simp; omega
    have t2 : decide ((200 : Int) < (nb : Int)) = true := by simp; omega
    have h2 : 200 < nb := by omega
    clear hlen
    go_enter Tryd.func5, Tryd.ntmps5
    go_wp2_with fail
    refine (fit_any _ HT.out).mono ?_
    rintro e w1 ⟨rfl, b1⟩
    go_wp2
    go_ret
    exact ⟨rfl, b1⟩

theorem constants_said (a : Option Addr) (na ca : Nat) (zs : List Int) (b : Option Addr) (nb cb : Nat) (ys : List Int) (w : World) (ha : IsRow .i64 w a na ca zs) (hb : IsRows .i64 w b nb cb 3 ys) (hL : laidMetH Tryd.prog Rows.codeConstantsRow.laid w) :
    Calls Tryd.prog 5 #[.slice a na ca, .slice b nb cb] w fun e w' => e = .returned (.bool true) ∧ Below w.heap.size w w' := by
  obtain ⟨hz, _⟩ := sliceR_in ha
  obtain ⟨hm, L, hl⟩ := tripR_in hb
  have h1 := hz.2.1
  have h2 := hz.2.2.1
  unfold maxLen at hm h2
  by_cases hlen : na ≤ 200 ∧ nb ≤ 200
  · exact constants_walk a b na ca nb cb (zs.take na) L w (tab_constants w hL) hz hl hlen.1 hlen.2
  · exact constants_long a b na ca nb cb w (tab_constants w hL) (by omega) (by omega) (by omega)
end Go.Proofs.YtipijgnbdnbljaaDoor
