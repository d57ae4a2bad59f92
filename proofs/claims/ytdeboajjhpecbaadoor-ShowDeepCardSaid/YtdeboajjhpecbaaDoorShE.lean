/- Show: show of what is no object. -/
import Derived.Test.YtdeboajjhpecbaaDoorShD
set_option linter.unusedVariables false
set_option linter.unusedSimpArgs false
namespace Go.Proofs.YtdeboajjhpecbaaDoor.Hp
open Go.RowKit Go.Proofs.YtdeboajjhpecbaaDoor Go.Shelf
/-- What show comes to. -/
def ShwP (g : ByteArray) (w : World) (e : Ending) (w' : World) : Prop := e = .returned (.string g) ∧ Below w.heap.size w w'
set_option maxRecDepth 100000 in
set_option maxHeartbeats 4000000 in
theorem show_plain (m : Nat) (k n : Int) (s t g : ByteArray) (deep : Int) (w : World) (h8 : (k == 8) = false) (h10 : (k == 10) = false) (h9 : (k == 9) = false)
    (hT : ∀ W, Below w.heap.size w W → Calls Tryd.prog 45 #[VS k n s] W (Ret (.tuple #[.string t, .int .i64 0]) W))
    (hG : ∀ W, Calls Tryd.prog 14 #[.string t] W (Ret (.string g) W)) :
    Calls Tryd.prog 24 #[.pointer (some ⟨m, 0, none⟩), VS k n s, .int .i64 deep] w (ShwP g w) := by
  have b0 : Below w.heap.size w (w.alloc (.cells #[.int .i64 k, .int .i64 n, .string s] 26)) := (Below.refl _ _).alloc (Nat.le_refl _) _
  have HT := Lib.hid (hT _ b0)
  have HG := Lib.hid hG
  have HB := Lib.hid b0
  clear hT hG b0
  go_enter Tryd.func24, Tryd.ntmps24
  go_wp2_with (fail)
  refine HT.out.mono ?_
  rintro e w1 ⟨rfl, b1⟩
  have HB1 := Lib.hid (HB.out.trans (b1.mono HB.out.size))
  clear b1 HT HB
  go_wp2_with (fail)
  refine (HG.out _).mono ?_
  rintro e w2 ⟨rfl, b2⟩
  have HB2 := Lib.hid (HB1.out.trans (b2.mono HB1.out.size))
  clear b2 HG HB1
  go_wp2
  go_ret
  exact ⟨rfl, HB2.out⟩
set_option maxRecDepth 100000 in
set_option maxHeartbeats 4000000 in
theorem show_empty (m : Nat) (n : Int) (s : ByteArray) (deep : Int) (w : World) : Calls Tryd.prog 24 #[.pointer (some ⟨m, 0, none⟩), VS 10 n s, .int .i64 deep] w (ShwP ⟨#[]⟩ w) := by
  go_enter Tryd.func24, Tryd.ntmps24
  go_wp2
  go_ret
  exact ⟨rfl, (Below.refl _ _).alloc (Nat.le_refl _) _⟩
set_option maxRecDepth 100000 in
set_option maxHeartbeats 4000000 in
/-- An object is printed by object. -/
theorem show_obj (m : Nat) (n : Int) (s g : ByteArray) (deep : Int) (w : World)
    (hO : ∀ W, Below w.heap.size w W → Calls Tryd.prog 44 #[.pointer (some ⟨m, 0, none⟩), VS 9 n s, .int .i64 deep] W (ShwP g W)) :
    Calls Tryd.prog 24 #[.pointer (some ⟨m, 0, none⟩), VS 9 n s, .int .i64 deep] w (ShwP g w) := by
  have b0 : Below w.heap.size w (w.alloc (.cells #[.int .i64 9, .int .i64 n, .string s] 26)) := (Below.refl _ _).alloc (Nat.le_refl _) _
  have HO := Lib.hid (hO _ b0)
  have HB := Lib.hid b0
  clear hO b0
  go_enter Tryd.func24, Tryd.ntmps24
  go_wp2_with (fail)
  refine HO.out.mono ?_
  rintro e w1 ⟨rfl, b1⟩
  have HB1 := Lib.hid (HB.out.trans (b1.mono HB.out.size))
  clear b1 HO HB
  go_wp2
  go_ret
  exact ⟨rfl, HB1.out⟩
end Go.Proofs.YtdeboajjhpecbaaDoor.Hp
