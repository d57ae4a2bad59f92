/- Num3: contracts and plain laws, several texts in one. -/
import Derived.Test.YtdeboajjhpecbaaDoorNum2
import Derived.BigRegion
import Derived.ChangeAlike
/- Contracts of the reference's Val, sum, product, quotient, Do and Rem, by the kinds of numbers. -/
set_option linter.unusedVariables false
set_option linter.unusedSimpArgs false
namespace Go.Proofs.YtdeboajjhpecbaaDoor.Vx
open Go.RowKit

abbrev RT (d : Int) (m : Bool) (s : Int) (ok : Bool) : Value := .tuple #[RV d m s, .bool ok]
def valR (d : Int) (m : Bool) (s : Int) : Int × Int := if d == 110 then (4, 0) else if d == 105 then (5, if m = true then -1 else 1) else if s == 0 && m then (6, 0) else (3, if m = true then -s else s)
abbrev VV (d : Int) (m : Bool) (s : Int) : Value := VN (valR d m s).1 (valR d m s).2

end Go.Proofs.YtdeboajjhpecbaaDoor.Vx

/- Contracts of the reference's product, quotient and Rem. -/
set_option linter.unusedVariables false
set_option linter.unusedSimpArgs false
namespace Go.Proofs.YtdeboajjhpecbaaDoor.Vx
open Go.RowKit

end Go.Proofs.YtdeboajjhpecbaaDoor.Vx

/- Contracts of the reference's product of whole numbers. -/
set_option linter.unusedVariables false
set_option linter.unusedSimpArgs false
namespace Go.Proofs.YtdeboajjhpecbaaDoor.Vx
open Go.RowKit

end Go.Proofs.YtdeboajjhpecbaaDoor.Vx

/- Contracts of the reference's quotient and Rem of whole numbers, and of Do. -/
set_option linter.unusedVariables false
set_option linter.unusedSimpArgs false
namespace Go.Proofs.YtdeboajjhpecbaaDoor.Vx
open Go.RowKit

end Go.Proofs.YtdeboajjhpecbaaDoor.Vx

/- What the reference's sum, product, quotient and Rem answer for any numbers, held against num's Add, Mul, Div and Rem. -/
set_option linter.unusedVariables false
set_option linter.unusedSimpArgs false
namespace Go.Proofs.YtdeboajjhpecbaaDoor.Vx
open Go.RowKit

/-- A number of the reference that is not NaN. -/
def Form (d : Int) (s : Int) : Prop := (d = 105 ∧ s = 0) ∨ (d = 119 ∧ 0 ≤ s ∧ s ≤ 9007199254740991)
theorem IsNum.forms {k n : Int} (h : IsNum k n) : (k = 4 ∧ n = 0 ∧ ofR k n = (110, false, 0)) ∨ ∃ d m s, Form d s ∧ valR d m s = (k, n) ∧ ofR k n = (d, m, s) := by
  unfold IsNum at h
  rcases h with ⟨rfl, rfl⟩ | ⟨rfl, rfl | rfl⟩ | ⟨rfl, rfl⟩ | ⟨rfl, h1, h2⟩
  · exact .inl ⟨rfl, rfl, rfl⟩
  · exact .inr ⟨105, false, 0, .inl ⟨rfl, rfl⟩, rfl, rfl⟩
  · exact .inr ⟨105, true, 0, .inl ⟨rfl, rfl⟩, rfl, rfl⟩
  · exact .inr ⟨119, true, 0, .inr ⟨rfl, by decide, by decide⟩, rfl, rfl⟩
  · by_cases hn : n < 0
    · refine .inr ⟨119, true, -n, .inr ⟨rfl, by omega, by omega⟩, ?_, by simp [ofR, hn]⟩
      have : ¬ (-n) = 0 := by omega
      simp [valR, this]
    · exact .inr ⟨119, false, n, .inr ⟨rfl, by omega, by omega⟩, by simp [valR], by simp [ofR, hn]⟩

theorem val_inf (m : Bool) : valR 105 m 0 = (5, if m = true then -1 else 1) := by simp [valR]
theorem val_pos (s : Int) : valR 119 false s = (3, s) := by simp [valR]
theorem val_neg (s : Int) (h : s ≠ 0) : valR 119 true s = (3, -s) := by simp [valR, h]
theorem val_nz : valR 119 true 0 = (6, 0) := rfl
theorem neg_val (d : Int) (m : Bool) (s : Int) (h : Form d s) : negR (valR d m s).1 (valR d m s).2 = valR d (!m) s := by
  rcases h with ⟨rfl, rfl⟩ | ⟨rfl, h1, h2⟩
  · cases m <;> rfl
  · by_cases h0 : s = 0
    · subst h0; cases m <;> rfl
    · cases m
      · rw [val_pos, Bool.not_false, val_neg s h0, neg3 s h0]
      · rw [val_neg s h0, Bool.not_true, val_pos, neg3 (-s) (by omega), Int.neg_neg]

/-- What a call of the reference answers, held against what package num computes. -/
def Agrees (r : Int × Int × Bool) (C : Value → Prop) : Prop :=
  ∃ d m s ok, C (RT d m s ok) ∧ r = (if ok = true then ((valR d m s).1, (valR d m s).2, true) else (0, 0, false)) ∧ (ok = true → 0 ≤ s ∧ s ≤ 9007199254740992)
theorem intR_in (n : Int) (h1 : -9007199254740991 ≤ n) (h2 : n ≤ 9007199254740991) : intR n = (3, n, true) := by rw [intR, if_neg (by omega)]
theorem intR_out (n : Int) (h : 9007199254740991 < n ∨ n < -9007199254740991) : intR n = (0, 0, false) := by rw [intR, if_pos h]

theorem sign_pos (s : Int) (h : 1 ≤ s) : belowB 3 s = false ∧ noneB 3 s = false := by
  constructor
  · simp [belowB]; omega
  · simp [noneB]; omega
theorem sign_neg (s : Int) (h : 1 ≤ s) : belowB 3 (-s) = true ∧ noneB 3 (-s) = false := by
  constructor
  · simp [belowB]; omega
  · simp [noneB]; omega

end Go.Proofs.YtdeboajjhpecbaaDoor.Vx

/- What the reference's quotient and Rem answer for any numbers, held against num's Div and Rem. -/
set_option linter.unusedVariables false
set_option linter.unusedSimpArgs false
namespace Go.Proofs.YtdeboajjhpecbaaDoor.Vx
open Go.RowKit

theorem quo_facts (sa sb : Int) (h1 : 0 ≤ sa) (h3 : 1 ≤ sb) : 0 ≤ sa / sb ∧ sa / sb ≤ sa ∧ 0 ≤ sa / sb * sb ∧ sa / sb * sb ≤ sa ∧ sb * (sa / sb) + sa % sb = sa ∧ 0 ≤ sa % sb ∧ sa % sb < sb := by
  have e := Int.mul_ediv_add_emod sa sb
  have m0 := Int.emod_nonneg sa (show sb ≠ 0 by omega)
  have m1 := Int.emod_lt_of_pos sa (show 0 < sb by omega)
  have d0 := Int.ediv_nonneg h1 (show 0 ≤ sb by omega)
  have d1 := Int.ediv_le_self sb h1
  have p := Int.mul_nonneg (show 0 ≤ sb by omega) d0
  have c := Int.mul_comm sb (sa / sb)
  refine ⟨d0, d1, by omega, by omega, e, m0, m1⟩

end Go.Proofs.YtdeboajjhpecbaaDoor.Vx

/- The statement NumDoes, from its walk and plain laws. -/
set_option linter.unusedVariables false
set_option linter.unusedSimpArgs false
namespace Go.Proofs.YtdeboajjhpecbaaDoor.Vx
open Go.RowKit

theorem ofR_fac {k n : Int} (h : IsNum k n) : ((ofR k n).1 == 110) = (k == 4) := by
  rcases h.forms with ⟨rfl, rfl, e⟩ | ⟨d, m, s, F, v, e⟩
  · rfl
  · rw [e]
    rcases F with ⟨rfl, rfl⟩ | ⟨rfl, _, _⟩
    · have : k = 5 := by have := congrArg (·.1) v; simpa [valR] using this.symm
      subst this; rfl
    · have : k = 6 ∨ k = 3 := by
        have h1 := congrArg (·.1) v
        simp only [valR] at h1
        by_cases hc : (s == 0 && m) = true
        · left; simpa [hc] using h1.symm
        · right; simpa [hc] using h1.symm
      rcases this with rfl | rfl <;> rfl
theorem form_ne {d s : Int} (h : Form d s) : (d == 110) = false := by rcases h with ⟨rfl, _⟩ | ⟨rfl, _⟩ <;> rfl

end Go.Proofs.YtdeboajjhpecbaaDoor.Vx
