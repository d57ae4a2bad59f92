/- Contract of text.Val; when the bytes of two strings compare as equal. -/
import Derived.Test.YtnkddcebhffidaaDoorTxtN
import Derived.Lib.Bytealg
set_option linter.unusedVariables false
namespace Go.Proofs.YtnkddcebhffidaaDoor
open Go.RowKit

theorem compareBytes_zero (a b : List UInt8) : Lib.compareBytes a b = 0 ↔ a = b := by
  induction a generalizing b with
  | nil => cases b <;> simp [Lib.compareBytes]
  | cons x a ih =>
    cases b with
    | nil => simp [Lib.compareBytes]
    | cons y b =>
      rw [Lib.compareBytes]
      by_cases h1 : x < y
      · rw [if_pos h1]
        have : x ≠ y := fun h => by subst h; exact absurd h1 (by simp)
        simp [this]
      · rw [if_neg h1]
        by_cases h2 : y < x
        · rw [if_pos h2]
          have : x ≠ y := fun h => by subst h; exact absurd h2 (by simp)
          simp [this]
        · rw [if_neg h2, ih]
          have : x = y := UInt8.toNat_inj.1 (by rw [UInt8.lt_iff_toNat_lt] at h1 h2; omega)
          simp [this]

set_option maxHeartbeats 1000000 in
theorem val_any (s : ByteArray) (w : World) (hs : s.size ≤ 17592186044416) :
    Calls Tryd.prog 7 #[.string s] w fun e w' => e = .returned (.agg #[.int .i64 7, .int .i64 0, .string ⟨(ofB s).toArray⟩]) ∧ Below w.heap.size w w' := by
  go_enter Tryd.func7, Tryd.ntmps7
  go_wp2_with fail
  refine (of_any s _ hs).mono ?_
  rintro e w1 ⟨rfl, b1⟩
  obtain ⟨hc, hf⟩ := bcell b1
  have hz : w.heap.size < w1.heap.size := by have := b1.size; simp at this; omega
  go_wp2
  refine bodyPost_ret (v := .agg #[.int .i64 7, .int .i64 0, .string ⟨(ofB s).toArray⟩]) (by simp [results, Tryd.results7, go_sem, hc]) rfl ⟨rfl, ?_⟩
  exact ((((((Below.refl _ _).alloc (Nat.le_refl _) _).trans (b1.mono (by simp))).setCell (p := ⟨w.heap.size, 0, none⟩) (Nat.le_refl _) _)).setCell (p := ⟨w.heap.size, 1, none⟩) (Nat.le_refl _) _).setCell (p := ⟨w.heap.size, 2, none⟩) (Nat.le_refl _) _

end Go.Proofs.YtnkddcebhffidaaDoor
