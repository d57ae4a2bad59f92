/- Contracts of text.Join. -/
import Derived.Test.YtnkddcebhffidaaTxtK
set_option linter.unusedVariables false
namespace Go.Proofs.Ytnkddcebhffidaa
open Go.RowKit

/-- Joined: the result and whether it fits. -/
theorem join_yes (a b : ByteArray) (w : World) (h : Hid (a.size / 2 + b.size / 2 ≤ 16384)) (ha : a.size ≤ 1000000000) (hb : b.size ≤ 1000000000) :
    Calls Try.prog 12 #[.string a, .string b] w fun e w' => e = .returned (.tuple #[.string (a ++ b), .bool true]) ∧ w = w' := by
  have t : decide ((16384 : Int) < (a.size : Int) / 2 + (b.size : Int) / 2) = false := by have := h.out; simp; omega
  go_enter Try.func12, Try.ntmps12
  go_wp2_with (go_at_call 20; refine (len_any _ _ (by omega)).mono ?_; rintro e w' ⟨rfl, rfl⟩)
  go_ret2
  exact ⟨rfl, rfl⟩

theorem join_no (a b : ByteArray) (w : World) (h : Hid (16384 < a.size / 2 + b.size / 2)) (ha : a.size ≤ 1000000000) (hb : b.size ≤ 1000000000) :
    Calls Try.prog 12 #[.string a, .string b] w fun e w' => e = .returned (.tuple #[.string ⟨#[]⟩, .bool false]) ∧ w = w' := by
  have t : decide ((16384 : Int) < (a.size : Int) / 2 + (b.size : Int) / 2) = true := by have := h.out; simp; omega
  go_enter Try.func12, Try.ntmps12
  go_wp2_with (go_at_call 20; refine (len_any _ _ (by omega)).mono ?_; rintro e w' ⟨rfl, rfl⟩)
  go_ret2
  exact ⟨rfl, rfl⟩

end Go.Proofs.Ytnkddcebhffidaa
