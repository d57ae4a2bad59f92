/- Contract of the statements' own example 'fit': it returns true. -/
import Derived.Test.YtnkddcebhffidaaTxtO
import Derived.Test.YtnkddcebhffidaaTxtI
import Derived.Test.YtnkddcebhffidaaTxtQ
import Derived.WalkSmall
set_option linter.unusedVariables false
namespace Go.Proofs.Ytnkddcebhffidaa
open Go.RowKit

theorem norm_mod (n m : Int) (hm : 0 < m) (h9 : m < 1000000000) : ∃ N : Nat, (wrap64 (n.tmod m + m)).tmod m = (N : Int) ∧ (N : Int) < m := by
  have h1 := Int.tmod_lt_of_pos n hm
  have h2 := Int.lt_tmod_of_pos n hm
  rw [IntWalk.wrap64_in _ (by omega)]
  rw [Int.tmod_eq_emod_of_nonneg (by omega)]
  have h3 := Int.emod_nonneg (n.tmod m + m) (by omega : m ≠ 0)
  have h4 := Int.emod_lt_of_pos (n.tmod m + m) hm
  exact ⟨((n.tmod m + m) % m).toNat, by omega, by omega⟩

theorem of_lit (l r : List UInt8) (w : World) (hl : l.length ≤ 100) (h : Hid (ofB ⟨l.toArray⟩ = r)) :
    Calls Try.prog 11 #[.string ⟨l.toArray⟩] w fun e w' => e = .returned (.string ⟨r.toArray⟩) ∧ Below w.heap.size w w' := by
  have := of_any ⟨l.toArray⟩ w (by show l.toArray.size ≤ _; simp; omega)
  rw [h.out] at this
  exact this

theorem index_lit (l : List UInt8) (r : Int) (w : World) (hl : l.length ≤ 9223372036854775807) (h : Hid (indexOf ⟨l.toArray⟩ = r)) :
    Calls Try.prog 10 #[.string ⟨l.toArray⟩] w fun e w' => e = .returned (.int .i64 r) ∧ ∃ n, w' = w.drewN n := by
  have := index_any ⟨l.toArray⟩ w (by show l.toArray.size ≤ _; simpa using hl)
  rw [h.out] at this
  exact this

theorem app_s (a b : List UInt8) : (⟨a.toArray⟩ ++ ⟨b.toArray⟩ : ByteArray) = ⟨(a ++ b).toArray⟩ := by
  rw [ByteArray.ext_iff]; simp

set_option maxHeartbeats 1000000 in
theorem fit_any (w : World) : Calls Try.prog 9 #[] w fun e w' => e = .returned (.bool true) ∧ Below w.heap.size w w' := by
  have h1 : Hid (ofB ⟨[97].toArray⟩ = [0, 97]) := (ofB_ascii [97] (by decide)).trans (by decide)
  have h2 : Hid (ofB ⟨[48, 55].toArray⟩ = [0, 48, 0, 55]) := (ofB_ascii [48, 55] (by decide)).trans (by decide)
  have h3 : Hid (ofB ⟨[97, 98, 99].toArray⟩ = [0, 97, 0, 98, 0, 99]) := (ofB_ascii [97, 98, 99] (by decide)).trans (by decide)
  have h4 : Hid (indexOf ⟨[0, 48, 0, 55].toArray⟩ = -1) := (indexOf_uS [48, 55] (by intro u hu; simp at hu; omega)).trans (by decide)
  go_enter Try.func9, Try.ntmps9
  go_wp2_with fail
  refine (of_lit [97] _ _ (by decide) h1).mono ?_
  rintro e w1 ⟨rfl, b1⟩
  go_wp2_with fail
  refine (of_lit [48, 55] _ _ (by decide) h2).mono ?_
  rintro e w2 ⟨rfl, b2⟩
  go_wp2_with fail
  refine (index_lit [0, 48, 0, 55] _ _ (by decide) h4).mono ?_
  rintro e w3 ⟨rfl, n3, rfl⟩
  go_wp2_with fail
  refine (of_lit [97, 98, 99] _ _ (by decide) h3).mono ?_
  rintro e w4 ⟨rfl, b4⟩
  go_wp2_with fail
  refine (len_any _ _ (by decide)).mono ?_
  rintro e w5 ⟨rfl, rfl⟩
  go_wp2
  go_ret
  refine ⟨rfl, ?_⟩
  have s1 := b1.size
  have s2 := b2.size
  exact ((b1.trans (b2.mono s1)).trans (below_drewN (Below.refl _ _) n3)).trans (b4.mono (by simp; omega))
end Go.Proofs.Ytnkddcebhffidaa
