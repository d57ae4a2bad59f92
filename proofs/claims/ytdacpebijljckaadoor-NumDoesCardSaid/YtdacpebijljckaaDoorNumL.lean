/- Plain laws: sums and products hang on no order; a sum less a part is the other part. -/
import Derived.Test.YtdacpebijljckaaDoorNumT
set_option linter.unusedVariables false
set_option linter.unusedSimpArgs false
namespace Go.Proofs.YtdacpebijljckaaDoor
open Go.RowKit

theorem add3 (na nb : Int) : addR 3 na 3 nb = intR (na + nb) := by simp [addR]
theorem addR_comm (ka na kb nb : Int) (ha : IsNum ka na) (hb : IsNum kb nb) : addR kb nb ka na = addR ka na kb nb := by
  unfold IsNum at ha hb
  rcases ha with ⟨rfl, rfl⟩ | ⟨rfl, rfl | rfl⟩ | ⟨rfl, rfl⟩ | ⟨rfl, a⟩ <;> rcases hb with ⟨rfl, rfl⟩ | ⟨rfl, rfl | rfl⟩ | ⟨rfl, rfl⟩ | ⟨rfl, b⟩
  all_goals first
    | rfl
    | (rw [add3, add3, Int.add_comm])
theorem addR_num (ka na kb nb : Int) (ha : IsNum ka na) (hb : IsNum kb nb) (ok : (addR ka na kb nb).2.2 = true) : IsNum (addR ka na kb nb).1 (addR ka na kb nb).2.1 := by
  have HA := ha
  have HB := hb
  unfold IsNum at ha hb
  rcases ha with ⟨rfl, rfl⟩ | ⟨rfl, rfl | rfl⟩ | ⟨rfl, rfl⟩ | ⟨rfl, a⟩ <;> rcases hb with ⟨rfl, rfl⟩ | ⟨rfl, rfl | rfl⟩ | ⟨rfl, rfl⟩ | ⟨rfl, b⟩
  all_goals first
    | exact HA
    | exact HB
    | exact .inl ⟨rfl, rfl⟩
    | (rw [add3] at ok ⊢; exact IsNum.int ok)
theorem mulR_comm (ka na kb nb : Int) (ha : IsNum ka na) (hb : IsNum kb nb) : mulR kb nb ka na = mulR ka na kb nb := by
  have HA := ha
  have HB := hb
  rcases ha.kinds with ⟨rfl, rfl⟩ | ⟨rfl, rfl⟩ | ⟨rfl, rfl⟩ | ⟨rfl, rfl⟩ | ⟨rfl, rfl⟩ | ⟨rfl, a0, a1, a2, a3, a4⟩ <;> rcases hb.kinds with ⟨rfl, rfl⟩ | ⟨rfl, rfl⟩ | ⟨rfl, rfl⟩ | ⟨rfl, rfl⟩ | ⟨rfl, rfl⟩ | ⟨rfl, b0, b1, b2, b3, b4⟩
  all_goals first
    | rfl
    | (simp only [mulR, a1]
       generalize belowB 3 na = B
       cases B <;> rfl)
    | (simp only [mulR, b1]
       generalize belowB 3 nb = B
       cases B <;> rfl)
    | (rw [mul3 nb na HB HA b0 a0, mul3 na nb HA HB a0 b0, Int.mul_comm])
theorem sub_back (na nb : Int) (ha : IsNum 3 na) (hb : IsNum 3 nb) : subR 3 (na + nb) 3 nb = (3, na, true) := by
  unfold subR
  by_cases h0 : nb = 0
  · subst h0; simp [negR, addR]
  · rw [neg3 nb h0, add3, show na + nb + -nb = na by omega, intR, if_neg (by have := ha.lo; have := ha.hi; omega)]

end Go.Proofs.YtdacpebijljckaaDoor
