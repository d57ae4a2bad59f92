/- The statement LexStrings, from its walk. -/
import Derived.Test.YtolfcmfilfjgfaaDoorLexStringsW
import Derived.Test.YtolfcmfilfjgfaaDoorLexV
set_option linter.unusedVariables false
set_option linter.unusedSimpArgs false
namespace Go.Proofs.YtolfcmfilfjgfaaDoor
open Go.RowKit
/-- A slice of units that came in. -/
theorem units_in {w : World} {a : Option Addr} {n cap : Nat} {zs : List Int} (h : IsRow .u16 w a n cap zs) : ∃ l : List Nat, SliceR .u16 w a n cap (ints l) ∧ Fits l ∧ l.length = n := by
  obtain ⟨h1, h2⟩ := sliceR_in h
  have hl : ints ((zs.take n).map Int.toNat) = zs.take n := by
    unfold ints
    rw [List.map_map]
    conv => rhs; rw [← List.map_id (zs.take n)]
    refine List.map_congr_left fun z hz => ?_
    have := bounds_u16 (h2 z hz)
    show Int.ofNat z.toNat = z
    simp; omega
  refine ⟨(zs.take n).map Int.toNat, by rw [hl]; exact h1, ?_, by have := h1.1; rw [List.length_map]; exact this⟩
  intro u hu
  obtain ⟨z, hz, rfl⟩ := List.mem_map.1 hu
  have := bounds_u16 (h2 z hz)
  omega
theorem strings_said (a : Option Addr) (len cap : Nat) (zs : List Int) (sg : Bool) (w : World) (wr : IsRow .u16 w a len cap zs) (hL : laidMetH Tryd.prog Rows.lexStringsRow.laid w) (hsh : w.ShapedOpen Tryd.prog) :
    Calls Tryd.prog 4 #[.slice a len cap, .bool sg] w fun e w' => e = .returned (.bool true) ∧ Below w.heap.size w w' := by
  rw [Go.MakeChecks.laidMetH_plain _ _ _ (by kernel_rfl)] at hL
  obtain ⟨m, hm⟩ := maxLen_of hsh
  obtain ⟨l, h1, h2, _⟩ := units_in wr
  refine strings_walk a len cap l sg m w h1 h2 hm (tab_of ?_)
  rw [show Lib.tabData .u8 Lib.asciiSpaceTab = Rows.laid_strings_asciiSpace by kernel_rfl]
  exact Lib.laidMet.reads hL (.tail _ (.head _))
end Go.Proofs.YtolfcmfilfjgfaaDoor
