/- Contract of the statements' own example 'fit' (numbers): it returns true. -/
import Derived.Test.YtdacpebijljckaaDoorNumE
import Derived.Test.YtdacpebijljckaaDoorShelf
import Derived.Laws.StructEq
set_option linter.unusedVariables false
namespace Go.Proofs.YtdacpebijljckaaDoor
open Go.RowKit

set_option maxHeartbeats 1000000 in
theorem text_nz (w : World) : Calls Tryd.prog 22 #[VN 6 0] w (Ret (.string ⟨#[48]⟩) w) := by
  go_enter Tryd.func22, Tryd.ntmps22
  go_wp2_with fail
  refine (show Calls Tryd.prog 36 #[VN 6 0] _ fun e w' => e = .returned (.int .i64 0) ∧ Below (w.alloc (VC 6 0)).heap.size (w.alloc (VC 6 0)) w' from ?_).mono ?_
  · go_enter Tryd.func36, Tryd.ntmps36
    go_wp2
    go_ret
    exact ⟨rfl, (Below.refl _ _).alloc (Nat.le_refl _) _⟩
  rintro e w1 ⟨rfl, b1⟩
  go_wp2_with fail
  refine (Tryd.strconv_FormatInt_10_small 0 (by decide) _).mono ?_
  rintro e w2 ⟨rfl, rfl⟩
  go_wp2
  go_ret
  refine ⟨?_, ((Below.refl _ _).alloc (Nat.le_refl _) _).trans (b1.mono (by simp))⟩
  show Ending.returned (Value.string ⟨(Lib.decDigits 0).toArray⟩) = _
  rw [show Lib.decDigits 0 = [48] by rw [Lib.decDigits]; rfl]

set_option maxHeartbeats 2000000 in
theorem fit_any (w : World) : Calls Tryd.prog 9 #[] w (Ret (.bool true) w) := by
  have d1 : divR 3 7 3 2 = (0, 0, false) := by decide
  have d2 : mulR 3 0 3 (-3) = (6, 0, true) := by decide
  have D1 := Lib.hid d1
  have D2 := Lib.hid d2
  clear d1 d2
  go_enter Tryd.func9, Tryd.ntmps9
  go_wp2_with fail
  refine (div_any 3 7 3 2 _ (by decide) (by decide) (by decide) (by decide) (by decide)).mono ?_
  rw [D1.out]
  rintro e w1 ⟨rfl, b1⟩
  go_wp2_with fail
  refine (mul_any 3 0 3 (-3) _ (by decide) (by decide) (by decide) (by decide) (by decide)).mono ?_
  rw [D2.out]
  rintro e w2 ⟨rfl, b2⟩
  go_wp2_with fail
  refine (text_nz _).mono ?_
  rintro e w3 ⟨rfl, b3⟩
  go_wp2
  go_ret
  exact ⟨rfl, (((b1.alloc b1.size _).trans (b2.mono (by have := b1.size; simp; omega))).alloc (by have := b1.size; have := b2.size; simp at this; omega) _).trans (b3.mono (by have := b1.size; have := b2.size; simp at this; simp; omega))⟩
end Go.Proofs.YtdacpebijljckaaDoor
