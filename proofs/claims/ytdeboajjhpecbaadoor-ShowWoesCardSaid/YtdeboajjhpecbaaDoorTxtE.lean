/- Contracts of the reference's hex and Go. -/
import Derived.Test.YtdeboajjhpecbaaDoorTxtT
import Derived.Test.YtdeboajjhpecbaaDoorTxtM
import Derived.Test.YtdeboajjhpecbaaDoorTxt
import Derived.Test.YtdeboajjhpecbaaDoorShelf
import Derived.BigRegion
import Derived.ChangeAlike
set_option linter.unusedVariables false
set_option linter.unusedSimpArgs false
namespace Go.Proofs.YtdeboajjhpecbaaDoor.Tx
open Go.RowKit

theorem conv_four (w : World) (a b c d : UInt8) : (convert 82 9 (.slice (some ⟨w.heap.size, 0, none⟩) 4 4)).run Tryd.prog (w.alloc (.cells #[.int .u8 (a.toNat : Int), .int .u8 (b.toNat : Int), .int .u8 (c.toNat : Int), .int .u8 (d.toNat : Int)] 5)).drew = .ok (.string ⟨#[a, b, c, d]⟩) (w.alloc (.cells #[.int .u8 (a.toNat : Int), .int .u8 (b.toNat : Int), .int .u8 (c.toNat : Int), .int .u8 (d.toNat : Int)] 5)).drew := by
  have hh := heap_alloc_new w (.cells #[.int .u8 (a.toNat : Int), .int .u8 (b.toNat : Int), .int .u8 (c.toNat : Int), .int .u8 (d.toNat : Int)] 5)
  have hc : ∀ i, i < 4 → (w.alloc (.cells #[.int .u8 (a.toNat : Int), .int .u8 (b.toNat : Int), .int .u8 (c.toNat : Int), .int .u8 (d.toNat : Int)] 5)).drew.cell? ⟨w.heap.size, 0 + i, none⟩ = some (.int .u8 ([(a.toNat : Int), b.toNat, c.toNat, d.toNat].getD i 0)) := by
    intro i hi
    have h2 : (w.alloc (.cells #[.int .u8 (a.toNat : Int), .int .u8 (b.toNat : Int), .int .u8 (c.toNat : Int), .int .u8 (d.toNat : Int)] 5)).drew.heap[w.heap.size]? = _ := hh
    rw [Lib.cell_of_heap h2]
    match i, hi with
    | 0, _ => rfl
    | 1, _ => rfl
    | 2, _ => rfl
    | 3, _ => rfl
  rw [run_convert_bytes_arg _ 82 5 Tryd.underlying82 Tryd.underlying5 w.heap.size 0 4 4 [(a.toNat : Int), b.toNat, c.toNat, d.toNat] rfl hc 9 Tryd.underlying9]
  have he : ∀ x : UInt8, UInt8.ofNat ((x.toNat : Int)).toNat = x := fun x => by simp
  simp [strOfNums, he]

theorem conv_four' (w : World) (a b c d : UInt8) : (convert 82 9 (.slice (some ⟨w.heap.size, 0, none⟩) 4 4)).run Tryd.prog (w.alloc (.cells #[.int .u8 (a.toNat : Int), .int .u8 (b.toNat : Int), .int .u8 (c.toNat : Int), .int .u8 (d.toNat : Int)] 5)) = .ok (.string ⟨#[a, b, c, d]⟩) (w.alloc (.cells #[.int .u8 (a.toNat : Int), .int .u8 (b.toNat : Int), .int .u8 (c.toNat : Int), .int .u8 (d.toNat : Int)] 5)) := by
  have hh := heap_alloc_new w (.cells #[.int .u8 (a.toNat : Int), .int .u8 (b.toNat : Int), .int .u8 (c.toNat : Int), .int .u8 (d.toNat : Int)] 5)
  have hc : ∀ i, i < 4 → (w.alloc (.cells #[.int .u8 (a.toNat : Int), .int .u8 (b.toNat : Int), .int .u8 (c.toNat : Int), .int .u8 (d.toNat : Int)] 5)).cell? ⟨w.heap.size, 0 + i, none⟩ = some (.int .u8 ([(a.toNat : Int), b.toNat, c.toNat, d.toNat].getD i 0)) := by
    intro i hi
    have h2 : (w.alloc (.cells #[.int .u8 (a.toNat : Int), .int .u8 (b.toNat : Int), .int .u8 (c.toNat : Int), .int .u8 (d.toNat : Int)] 5)).heap[w.heap.size]? = _ := hh
    rw [Lib.cell_of_heap h2]
    match i, hi with
    | 0, _ => rfl
    | 1, _ => rfl
    | 2, _ => rfl
    | 3, _ => rfl
  rw [run_convert_bytes_arg _ 82 5 Tryd.underlying82 Tryd.underlying5 w.heap.size 0 4 4 [(a.toNat : Int), b.toNat, c.toNat, d.toNat] rfl hc 9 Tryd.underlying9]
  have he : ∀ x : UInt8, UInt8.ofNat ((x.toNat : Int)).toNat = x := fun x => by simp
  simp [strOfNums, he]

theorem hex_at (n : Nat) (h : n < (⟨#[48, 49, 50, 51, 52, 53, 54, 55, 56, 57, 65, 66, 67, 68, 69, 70]⟩ : ByteArray).size) : (⟨#[48, 49, 50, 51, 52, 53, 54, 55, 56, 57, 65, 66, 67, 68, 69, 70]⟩ : ByteArray)[n] = hx n := getD_byte _ n h

/-- What the reference adds at a sign. -/
theorem goPiece_bs : goPiece 92 = [92, 92] := rfl
theorem goPiece_esc (c : Nat) (h : c ≠ 92) (he : escB c = true) : goPiece c = 92 :: 117 :: hexB c := by rw [goPiece, if_neg h, if_pos he]
theorem goPiece_enc (c : Nat) (h : c ≠ 92) (he : escB c = false) : goPiece c = Lib.encodeRune (c : Int) := by rw [goPiece, if_neg h, he]; rfl

theorem appendRune_nil (r : Int) (hr0 : 0 ≤ r) (hr1 : r ≤ 1114111) (w : World) :
    Calls Tryd.prog 54 #[.slice none 0 0, .int .i32 r] w fun e w' => ∃ v, e = .returned v ∧ w'.ownsRow w.heap.size 5 1 v (Lib.encodeRune r).length (Lib.byteCells (Lib.encodeRune r)) ∧ Below w.heap.size w w' := by
  refine (Tryd.utf8_AppendRune_plain w.heap.size (.slice none 0 0) 0 [] r (by omega) (by omega) w (World.ownsRow_nil _ _ _ _) (by omega) (Nat.le_refl _)).mono ?_
  rintro e w' ⟨v, rfl, h1, o, h2⟩
  refine ⟨v, rfl, ?_, ((Below.refl _ _).alloc (Nat.le_refl _) o).grown h2 (by simp) (fun k hk => by simp [Value.ownBlock] at hk)⟩
  rw [Lib.byteCells_encodeRune, ← Lib.runeCells_length]
  simpa using h1

end Go.Proofs.YtdeboajjhpecbaaDoor.Tx
