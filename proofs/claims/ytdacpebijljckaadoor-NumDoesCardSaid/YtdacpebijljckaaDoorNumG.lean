/- Plain laws of the numbers' arithmetic: what Mul and Div compute on whole numbers, and the sign rules. -/
import Derived.Test.YtdacpebijljckaaDoorNumE
set_option linter.unusedVariables false
set_option linter.unusedSimpArgs false
namespace Go.Proofs.YtdacpebijljckaaDoor
open Go.RowKit

/-- A number of package num: NaN, infinite, -0 or whole. -/
def IsNum (k n : Int) : Prop := (k = 4 ∧ n = 0) ∨ (k = 5 ∧ (n = 1 ∨ n = -1)) ∨ (k = 6 ∧ n = 0) ∨ (k = 3 ∧ -9007199254740991 ≤ n ∧ n ≤ 9007199254740991)
theorem IsNum.lo {k n : Int} (h : IsNum k n) : -9007199254740991 ≤ n := by unfold IsNum at h; omega
theorem IsNum.hi {k n : Int} (h : IsNum k n) : n ≤ 9007199254740991 := by unfold IsNum at h; omega
theorem IsNum.nz {k n : Int} (h : IsNum k n) (h4 : (k == 4) = false) (h0 : noneB k n = false) : n ≠ 0 := by
  unfold IsNum at h
  simp [noneB] at h0 h4
  rcases h with h | h | h | h
  · omega
  · omega
  · omega
  · exact h0.2 h.1

theorem wrap64_mul (e : Int) : ∃ t : Int, wrap64 e = e - 18446744073709551616 * t ∧ -9223372036854775808 ≤ wrap64 e ∧ wrap64 e ≤ 9223372036854775807 := by
  unfold wrap64
  exact ⟨(e + 9223372036854775808) / 18446744073709551616, by omega, by omega, by omega⟩

theorem tdiv_bd (q d : Int) (h1 : -9223372036854775808 ≤ q) (h2 : q ≤ 9223372036854775807) (hd : 2 ≤ d ∨ d ≤ -2) : -9223372036854775808 ≤ q.tdiv d ∧ q.tdiv d ≤ 9223372036854775807 := by
  have key : (q.tdiv d).natAbs ≤ q.natAbs / 2 := by
    rw [Int.natAbs_tdiv]
    exact Nat.div_le_div_left (by omega) (by omega)
  omega

theorem mulI_eq (na nb : Int) (h1 : -9007199254740991 ≤ na) (h2 : na ≤ 9007199254740991) (h3 : -9007199254740991 ≤ nb) (h4 : nb ≤ 9007199254740991) (h0 : nb ≠ 0) : mulI na nb = intR (na * nb) := by
  unfold mulI
  by_cases hin : -9223372036854775808 ≤ na * nb ∧ na * nb ≤ 9223372036854775807
  · rw [IntWalk.wrap64_in _ hin, Int.mul_tdiv_cancel _ h0, IntWalk.wrap64_in na (by omega)]
    simp
  · have hd : 2 ≤ nb ∨ nb ≤ -2 := by
      rcases (show nb < 2 ∨ 2 ≤ nb by omega) with h | h
      · rcases (show nb < -1 ∨ -1 ≤ nb by omega) with h' | h'
        · omega
        · have : nb = 1 ∨ nb = -1 := by omega
          exfalso
          apply hin
          rcases this with rfl | rfl <;> omega
      · omega
    obtain ⟨t, ht, b1, b2⟩ := wrap64_mul (na * nb)
    have bd := tdiv_bd (wrap64 (na * nb)) nb b1 b2 hd
    have hne : wrap64 ((wrap64 (na * nb)).tdiv nb) ≠ na := by
      rw [IntWalk.wrap64_in _ bd]
      intro he
      have e1 := Int.mul_tdiv_add_tmod (wrap64 (na * nb)) nb
      rw [he] at e1
      have e2 : ((wrap64 (na * nb)).tmod nb).natAbs < nb.natAbs := by
        rw [Int.natAbs_tmod]; exact Nat.mod_lt _ (by omega)
      generalize (wrap64 (na * nb)).tmod nb = r at *
      rw [Int.mul_comm nb na] at e1
      generalize na * nb = p at *
      generalize wrap64 p = q at *
      omega
    rw [if_pos (by simpa using hne), intR, if_pos (by omega)]

theorem divI_eq (na nb : Int) (h1 : -9007199254740991 ≤ na) (h2 : na ≤ 9007199254740991) : intR (wrap64 (na.tdiv nb)) = (3, na.tdiv nb, true) := by
  have key : (na.tdiv nb).natAbs ≤ na.natAbs := by
    rw [Int.natAbs_tdiv]
    exact Nat.div_le_self _ _
  rw [IntWalk.wrap64_in _ (by omega), intR, if_neg (by omega)]

theorem neg3 (n : Int) (h0 : n ≠ 0) : negR 3 n = (3, -n) := by simp [negR, h0]
theorem IsNum.neg {k n : Int} (h : IsNum k n) : IsNum (negR k n).1 (negR k n).2 := by
  unfold IsNum at h
  rcases h with ⟨rfl, rfl⟩ | ⟨rfl, rfl | rfl⟩ | ⟨rfl, rfl⟩ | ⟨rfl, h⟩
  · exact .inl ⟨rfl, rfl⟩
  · exact .inr (.inl ⟨rfl, .inr rfl⟩)
  · exact .inr (.inl ⟨rfl, .inl rfl⟩)
  · exact .inr (.inr (.inr ⟨rfl, by decide, by decide⟩))
  · by_cases h0 : n = 0
    · subst h0; exact .inr (.inr (.inl ⟨rfl, rfl⟩))
    · rw [neg3 n h0]; exact .inr (.inr (.inr ⟨rfl, by show _ ≤ -n; omega, by show -n ≤ _; omega⟩))

/-- Seven kinds of numbers. -/
theorem IsNum.kinds {k n : Int} (h : IsNum k n) : (k = 4 ∧ n = 0) ∨ (k = 5 ∧ n = 1) ∨ (k = 5 ∧ n = -1) ∨ (k = 6 ∧ n = 0) ∨ (k = 3 ∧ n = 0) ∨
    (k = 3 ∧ n ≠ 0 ∧ noneB 3 n = false ∧ noneB 3 (-n) = false ∧ negR 3 n = (3, -n) ∧ belowB 3 (-n) = !belowB 3 n) := by
  unfold IsNum at h
  rcases h with h | ⟨h, h' | h'⟩ | h | ⟨h, h'⟩
  · exact .inl h
  · exact .inr (.inl ⟨h, h'⟩)
  · exact .inr (.inr (.inl ⟨h, h'⟩))
  · exact .inr (.inr (.inr (.inl h)))
  · by_cases h0 : n = 0
    · exact .inr (.inr (.inr (.inr (.inl ⟨h, h0⟩))))
    · refine .inr (.inr (.inr (.inr (.inr ⟨h, h0, by simp [noneB, h0], by simp [noneB, h0], neg3 n h0, ?_⟩))))
      by_cases hn : n < 0
      · simp [belowB, hn]; omega
      · simp [belowB, hn]; omega

theorem intR_none (n : Int) (h : (intR n).2.2 = false) : intR n = (0, 0, false) := by
  unfold intR at *; split at h
  · rename_i h'; rw [if_pos h']
  · simp at h
theorem intR_yes (n : Int) (h : (intR n).2.2 = true) : intR n = (3, n, true) ∧ -9007199254740991 ≤ n ∧ n ≤ 9007199254740991 := by
  unfold intR at *; split at h
  · simp at h
  · rename_i h'; rw [if_neg h']; exact ⟨rfl, by omega, by omega⟩
theorem IsNum.int {n : Int} (ok : (intR n).2.2 = true) : IsNum (intR n).1 (intR n).2.1 := by
  rw [(intR_yes n ok).1]; exact .inr (.inr (.inr ⟨rfl, (intR_yes n ok).2.1, (intR_yes n ok).2.2⟩))
theorem intR_neg (n : Int) : (intR (-n)).2.2 = (intR n).2.2 := by
  unfold intR; split <;> split <;> first | rfl | (exfalso; omega)

theorem mul3 (na nb : Int) (ha : IsNum 3 na) (hb : IsNum 3 nb) (a0 : na ≠ 0) (b0 : nb ≠ 0) : mulR 3 na 3 nb = intR (na * nb) := by
  rw [← mulI_eq na nb ha.lo ha.hi hb.lo hb.hi b0]
  simp [mulR, noneB, a0, b0]
theorem div3 (na nb : Int) (ha : IsNum 3 na) (hb : IsNum 3 nb) (a0 : na ≠ 0) (b0 : nb ≠ 0) : divR 3 na 3 nb = if na.tmod nb = 0 then (3, na.tdiv nb, true) else (0, 0, false) := by
  rw [← divI_eq na nb ha.lo ha.hi]
  by_cases h : na.tmod nb = 0 <;> simp [divR, noneB, a0, b0, h]
/-- What becomes of a product if one of two has the other sign. -/
theorem mul_negl (ka na kb nb : Int) (ha : IsNum ka na) (hb : IsNum kb nb) :
    mulR (negR ka na).1 (negR ka na).2 kb nb = if (mulR ka na kb nb).2.2 = true then ((negR (mulR ka na kb nb).1 (mulR ka na kb nb).2.1).1, (negR (mulR ka na kb nb).1 (mulR ka na kb nb).2.1).2, true) else (0, 0, false) := by
  have HA := ha
  have HB := hb
  rcases ha.kinds with ⟨rfl, rfl⟩ | ⟨rfl, rfl⟩ | ⟨rfl, rfl⟩ | ⟨rfl, rfl⟩ | ⟨rfl, rfl⟩ | ⟨rfl, a0, a1, a2, a3, a4⟩ <;> rcases hb.kinds with ⟨rfl, rfl⟩ | ⟨rfl, rfl⟩ | ⟨rfl, rfl⟩ | ⟨rfl, rfl⟩ | ⟨rfl, rfl⟩ | ⟨rfl, b0, b1, b2, b3, b4⟩
  all_goals first
    | rfl
    | (simp only [a3, mulR, a1, a2, a4]
       generalize belowB 3 na = B
       cases B <;> rfl)
    | (simp only [b3, mulR, b1, b2, b4]
       generalize belowB 3 nb = B
       cases B <;> rfl)
    | skip
  rw [a3, mul3 (-na) nb (by have := HA.neg; rw [a3] at this; exact this) HB (by omega) b0, mul3 na nb HA HB a0 b0, Int.neg_mul]
  cases h : (intR (na * nb)).2.2 with
  | false => rw [if_neg (by simp)]; exact intR_none _ (by rw [intR_neg]; exact h)
  | true =>
    rw [if_pos rfl, (intR_yes _ h).1, (intR_yes _ (by rw [intR_neg]; exact h)).1, neg3 _ (Int.mul_ne_zero a0 b0)]

/-- .. of a quotient, what it is by having the other sign. -/
theorem div_negr (ka na kb nb : Int) (ha : IsNum ka na) (hb : IsNum kb nb) :
    divR ka na (negR kb nb).1 (negR kb nb).2 = if (divR ka na kb nb).2.2 = true then ((negR (divR ka na kb nb).1 (divR ka na kb nb).2.1).1, (negR (divR ka na kb nb).1 (divR ka na kb nb).2.1).2, true) else (0, 0, false) := by
  have HA := ha
  have HB := hb
  rcases ha.kinds with ⟨rfl, rfl⟩ | ⟨rfl, rfl⟩ | ⟨rfl, rfl⟩ | ⟨rfl, rfl⟩ | ⟨rfl, rfl⟩ | ⟨rfl, a0, a1, a2, a3, a4⟩ <;> rcases hb.kinds with ⟨rfl, rfl⟩ | ⟨rfl, rfl⟩ | ⟨rfl, rfl⟩ | ⟨rfl, rfl⟩ | ⟨rfl, rfl⟩ | ⟨rfl, b0, b1, b2, b3, b4⟩
  all_goals first
    | rfl
    | (simp only [a3, divR, a1, a2, a4]
       generalize belowB 3 na = B
       cases B <;> rfl)
    | (simp only [b3, divR, b1, b2, b4]
       generalize belowB 3 nb = B
       cases B <;> rfl)
    | skip
  rw [b3, div3 na (-nb) HA (by have := HB.neg; rw [b3] at this; exact this) a0 (by omega), div3 na nb HA HB a0 b0, Int.tmod_neg, Int.tdiv_neg]
  by_cases h : na.tmod nb = 0
  · rw [if_pos h, if_pos h, if_pos rfl, neg3]
    intro h0
    have := Int.mul_tdiv_add_tmod na nb
    rw [show na.tdiv nb = 0 from h0, h] at this
    simp at this
    exact a0 this.symm
  · rw [if_neg h, if_neg h, if_neg (by simp)]

theorem mulR_num (ka na kb nb : Int) (ha : IsNum ka na) (hb : IsNum kb nb) (ok : (mulR ka na kb nb).2.2 = true) : IsNum (mulR ka na kb nb).1 (mulR ka na kb nb).2.1 := by
  have HA := ha
  have HB := hb
  rcases ha.kinds with ⟨rfl, rfl⟩ | ⟨rfl, rfl⟩ | ⟨rfl, rfl⟩ | ⟨rfl, rfl⟩ | ⟨rfl, rfl⟩ | ⟨rfl, a0, a1, a2, a3, a4⟩ <;> rcases hb.kinds with ⟨rfl, rfl⟩ | ⟨rfl, rfl⟩ | ⟨rfl, rfl⟩ | ⟨rfl, rfl⟩ | ⟨rfl, rfl⟩ | ⟨rfl, b0, b1, b2, b3, b4⟩
  all_goals first
    | (unfold IsNum; decide)
    | (simp only [mulR, a1] at ok ⊢
       generalize belowB 3 na = B at *
       cases B <;> (first | exact .inl ⟨rfl, rfl⟩ | exact .inr (.inl ⟨rfl, .inl rfl⟩) | exact .inr (.inl ⟨rfl, .inr rfl⟩) | exact .inr (.inr (.inl ⟨rfl, rfl⟩)) | exact .inr (.inr (.inr ⟨rfl, show _ ≤ (0 : Int) by decide, show (0 : Int) ≤ _ by decide⟩))))
    | (simp only [mulR, b1] at ok ⊢
       generalize belowB 3 nb = B at *
       cases B <;> (first | exact .inl ⟨rfl, rfl⟩ | exact .inr (.inl ⟨rfl, .inl rfl⟩) | exact .inr (.inl ⟨rfl, .inr rfl⟩) | exact .inr (.inr (.inl ⟨rfl, rfl⟩)) | exact .inr (.inr (.inr ⟨rfl, show _ ≤ (0 : Int) by decide, show (0 : Int) ≤ _ by decide⟩))))
    | skip
  rw [mul3 na nb HA HB a0 b0] at ok ⊢
  exact IsNum.int ok
theorem divR_num (ka na kb nb : Int) (ha : IsNum ka na) (hb : IsNum kb nb) (ok : (divR ka na kb nb).2.2 = true) : IsNum (divR ka na kb nb).1 (divR ka na kb nb).2.1 := by
  have HA := ha
  have HB := hb
  rcases ha.kinds with ⟨rfl, rfl⟩ | ⟨rfl, rfl⟩ | ⟨rfl, rfl⟩ | ⟨rfl, rfl⟩ | ⟨rfl, rfl⟩ | ⟨rfl, a0, a1, a2, a3, a4⟩ <;> rcases hb.kinds with ⟨rfl, rfl⟩ | ⟨rfl, rfl⟩ | ⟨rfl, rfl⟩ | ⟨rfl, rfl⟩ | ⟨rfl, rfl⟩ | ⟨rfl, b0, b1, b2, b3, b4⟩
  all_goals first
    | (unfold IsNum; decide)
    | (simp only [divR, a1] at ok ⊢
       generalize belowB 3 na = B at *
       cases B <;> (first | exact .inl ⟨rfl, rfl⟩ | exact .inr (.inl ⟨rfl, .inl rfl⟩) | exact .inr (.inl ⟨rfl, .inr rfl⟩) | exact .inr (.inr (.inl ⟨rfl, rfl⟩)) | exact .inr (.inr (.inr ⟨rfl, show _ ≤ (0 : Int) by decide, show (0 : Int) ≤ _ by decide⟩))))
    | (simp only [divR, b1] at ok ⊢
       generalize belowB 3 nb = B at *
       cases B <;> (first | exact .inl ⟨rfl, rfl⟩ | exact .inr (.inl ⟨rfl, .inl rfl⟩) | exact .inr (.inl ⟨rfl, .inr rfl⟩) | exact .inr (.inr (.inl ⟨rfl, rfl⟩)) | exact .inr (.inr (.inr ⟨rfl, show _ ≤ (0 : Int) by decide, show (0 : Int) ≤ _ by decide⟩))))
    | skip
  rw [div3 na nb HA HB a0 b0] at ok ⊢
  split at ok
  · rename_i h
    rw [if_pos h]
    have key : (na.tdiv nb).natAbs ≤ na.natAbs := by
      rw [Int.natAbs_tdiv]
      exact Nat.div_le_self _ _
    have h1 := HA.lo
    have h2 := HA.hi
    unfold IsNum
    exact .inr (.inr (.inr ⟨rfl, by show _ ≤ na.tdiv nb; omega, by show na.tdiv nb ≤ _; omega⟩))
  · simp at ok

end Go.Proofs.YtdacpebijljckaaDoor
