/- What a row of bytes reads as when it is turned into a string. -/
import Derived.Test.YtolfcmfilfjgfaaDoorTxtO
import Derived.Test.YtolfcmfilfjgfaaDoorTxtQ
import Derived.Laws.BytesArg
set_option linter.unusedVariables false
namespace Go.Proofs.YtolfcmfilfjgfaaDoor
open Go.RowKit

theorem strOfNums_bytes (l : List UInt8) : strOfNums (l.map fun c => (c.toNat : Int)) = ⟨l.toArray⟩ := by
  simp only [strOfNums, List.map_map]
  congr 2
  conv => rhs; rw [← List.map_id l]
  refine List.map_congr_left fun c _ => ?_
  show UInt8.ofNat ((c.toNat : Int).toNat) = c
  rw [Int.toNat_natCast, UInt8.ofNat_toNat]

/-- 'string(b)' of an owned row of bytes. -/
theorem conv_row (w : World) (B g cap : Nat) (l : List UInt8) (h : w.ownsRow B 5 1 (.slice (some ⟨g, 0, none⟩) l.length cap) l.length (Lib.byteCells l)) :
    (convert 37 9 (.slice (some ⟨g, 0, none⟩) l.length cap)).run Tryd.prog w = .ok (.string ⟨l.toArray⟩) w := by
  rw [run_convert_bytes_arg w 37 5 Tryd.underlying37 Tryd.underlying5 g 0 l.length cap (l.map fun c => (c.toNat : Int)) (by simp) (fun i hi => ?_) 9 Tryd.underlying9, strOfNums_bytes]
  have := h.cellAt i (by omega)
  rw [Nat.zero_add, this]
  simp [Lib.byteCells, List.getD_eq_getElem?_getD, List.getElem?_eq_getElem hi]

/-- .. whatever owns them, a nil slice too. -/
theorem conv_own (w : World) (B n : Nat) (v : Value) (l : List UInt8) (h : w.ownsRow B 5 1 v n (Lib.byteCells l)) :
    (convert 37 9 v).run Tryd.prog w = .ok (.string ⟨l.toArray⟩) w := by
  have hl : l.length = n := by have := h.1; rw [Lib.byteCells_length] at this; omega
  subst hl
  rcases h.2 with ⟨rfl, h0⟩ | ⟨g, cap, cur, rfl, _⟩
  · rw [run_convert_bytes_nil w 37 5 Tryd.underlying37 Tryd.underlying5 0 0 9 Tryd.underlying9, List.length_eq_zero_iff.1 h0]
    rfl
  · exact conv_row w B g cap l h

/-- 'make([]byte, n)' holds n bytes 0. -/
def zeros (n : Nat) : List UInt8 := List.replicate n 0
theorem zeros_length (n : Nat) : (zeros n).length = n := List.length_replicate
theorem madeCells_bytes (n : Nat) : (madeCells #[Value.int .u8 0] n).toList = Lib.byteCells (zeros n) := by
  rw [toList_madeCells_one]
  simp [Lib.byteCells, zeros]

theorem size_bytes (l : List UInt8) : (⟨l.toArray⟩ : ByteArray).size = l.length := by show l.toArray.size = _; simp

end Go.Proofs.YtolfcmfilfjgfaaDoor
