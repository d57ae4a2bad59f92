/- The heap: the example (fit). -/
import Derived.Test.YtdeboajjhpecbaaDoorHpK
import Derived.LaidEqlPtr
import Derived.Lib.QuietBelow
set_option linter.unusedVariables false
set_option linter.unusedSimpArgs false
namespace Go.Proofs.YtdeboajjhpecbaaDoor.Hp
open Go.RowKit Go.Proofs.YtdeboajjhpecbaaDoor Go.Shelf Go.Sort

theorem keyL_len : keyL [108, 101, 110, 103, 116, 104] = lenK := by
  unfold keyL lenK
  rw [Tx.ofB_ascii _ (by decide)]
  rfl
theorem keyD_1 : keyD 1 = keyL [49] := by
  unfold keyD
  rw [dig_small 1 (by decide)]
  rfl
theorem infoObj : ∃ i, Tryd.prog.info? 36 = some i := Option.isSome_iff_exists.1 (by kernel_rfl)
theorem obj_same (b : Nat) (w : World) : (binOp .eql tObj (.pointer (some ⟨b, 0, none⟩)) (.pointer (some ⟨b, 0, none⟩))).run Tryd.prog w = .ok (.bool true) w := by
  obtain ⟨i, hi⟩ := infoObj
  exact run_eql_ptr_same w ⟨b, 0, none⟩ Tryd.underlying37 hi
theorem objP_in {cs : List Cell} {i b : Nat} (h : cs[i]? = some (some (tObj, b), false)) : objP cs ((i : Int) + 1) = .pointer (some ⟨b, 0, none⟩) := by
  obtain ⟨hl, he⟩ := List.getElem?_eq_some_iff.1 h
  unfold objP
  rw [if_pos ⟨by omega, by omega⟩, show ((i : Int) + 1 - 1).toNat = i by omega, List.getD_eq_getElem?_getD, h]
  rfl
theorem objP_out {cs : List Cell} {r : Int} (h : r < 1 ∨ (cs.length : Int) < r) : objP cs r = .pointer none := by
  unfold objP
  rw [if_neg (by omega)]
end Go.Proofs.YtdeboajjhpecbaaDoor.Hp
