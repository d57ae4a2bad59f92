/- The statement TextOf, from its walk and the tables of package utf8. -/
import Derived.Test.YtnkddcebhffidaaDoorTxtOfW
import Derived.Test.YtnkddcebhffidaaDoorRows
import Derived.Lib.LaidU8
import Derived.Lib.LaidU8T
import Derived.PinnedBridge
import Derived.MakeChecks
set_option linter.unusedVariables false
namespace Go.Proofs.YtnkddcebhffidaaDoor
open Go.RowKit

theorem tabs_of_laid (w : World) (hL : laidMetH Tryd.prog Rows.textOfRow.laid w) : Lib.Utf8Tabs 0 1 w := by
  rw [Go.MakeChecks.laidMetH_plain _ _ _ (by kernel_rfl)] at hL
  have h3 : Lib.VarReads Tryd.prog w "unicode/utf8.first" Lib.firstData := by
    rw [← Pinned.utf8First_eq]
    exact Lib.laidMet.reads hL (.tail _ (.head _))
  have h4 : Lib.VarReads Tryd.prog w "unicode/utf8.acceptRanges" Lib.acceptData := by
    rw [show Lib.acceptData = Rows.laid_unicode_utf8_acceptRanges by kernel_rfl]
    exact Lib.laidMet.reads hL (.head _)
  exact utf8Tabs_of_readsT (U8Types.of260 Tryd.lays260) ⟨by kernel_rfl, by kernel_rfl, by kernel_rfl, by kernel_rfl, by kernel_rfl, by kernel_rfl, by kernel_rfl⟩ h3 h4

set_option maxHeartbeats 1000000 in
theorem textof_long (s : ByteArray) (w : World) (hs : s.size ≤ 9223372036854775807) (h : 5000 < s.size) :
    Calls Tryd.prog 3 #[.string s] w fun e w' => e = .returned (.bool true) ∧ Below w.heap.size w w' := by
  have t1 : decide ((5000 : Int) < (s.size : Int)) = true := by simp; omega
  go_enter Tryd.func3, Tryd.ntmps3
  go_wp2_with fail
  refine (fit_any _).mono ?_
  rintro e w1 ⟨rfl, b1⟩
  go_wp2
  go_ret
  exact ⟨rfl, b1⟩

theorem textof_walk (s : ByteArray) (w : World) (hs : s.size ≤ 9223372036854775807) (hL : laidMetH Tryd.prog Rows.textOfRow.laid w) :
    Calls Tryd.prog 3 #[.string s] w fun e w' => e = .returned (.bool true) ∧ Below w.heap.size w w' := by
  by_cases h : 5000 < s.size
  · exact textof_long s w hs h
  have hT := tabs_of_laid w hL
  have hb1 : 1 < w.heap.size := World.block_lt_of_cell? w ⟨1, _, none⟩ (hT.2 0 (by decide)).1
  have hfit : Fits (unitsOf s) := decUnits_fits _ _ _
  have hlen := decUnits_length s s.size 0
  have hl2 : (unitsOf s).length ≤ 10000 := by unfold unitsOf; omega
  refine textof_core s (uS (unitsOf s)) (unitsOf s).length (unitsOf s) w (by omega) (by omega) rfl (uS_size _) hfit rfl ?_ ?_ ?_ ?_ ?_
  · exact fun W => of_any s W (by omega)
  · intro W hW
    refine (units_any s W (by omega) (tabs_below hT hW (by omega) hb1) (by have := hW.size; omega)).mono ?_
    rintro e w' ⟨v, rfl, hown, hb⟩
    have hlI : (ints (unitsOf s)).length = (unitsOf s).length := ints_length _
    rw [← hlI] at hown
    obtain ⟨a, cap, rfl, hR, _⟩ := sliceR_own hown
    rw [hlI] at hR
    exact ⟨a, cap, by rw [hlI], hR, hb⟩
  · exact fun W => val_any s W (by omega)
  · exact fun a cap W hR => str_any a _ cap (unitsOf s) W hR hfit (by omega)
  · exact fun W => len_n (uS (unitsOf s)) _ W (by rw [uS_size]; omega) (by show _ = _; rw [uS_size]; omega)

end Go.Proofs.YtnkddcebhffidaaDoor
