/- What the reference's sum, product, quotient and Rem answer for any numbers, held against num's Add, Mul, Div and Rem. -/
import Derived.Test.YtdacpebijljckaaDoorNumX
import Derived.Test.YtdacpebijljckaaDoorNumY
import Derived.Test.YtdacpebijljckaaDoorNumZ
import Derived.Test.YtdacpebijljckaaDoorNumL
set_option linter.unusedVariables false
set_option linter.unusedSimpArgs false
namespace Go.Proofs.YtdacpebijljckaaDoor
open Go.RowKit

/-- A number of the reference that is not NaN. -/
def Form (d : Int) (s : Int) : Prop := (d = 105 ∧ s = 0) ∨ (d = 119 ∧ 0 ≤ s ∧ s ≤ 9007199254740991)
theorem IsNum.forms {k n : Int} (h : IsNum k n) : (k = 4 ∧ n = 0 ∧ ofR k n = (110, false, 0)) ∨ ∃ d m s, Form d s ∧ valR d m s = (k, n) ∧ ofR k n = (d, m, s) := by
  unfold IsNum at h
  rcases h with ⟨rfl, rfl⟩ | ⟨rfl, rfl | rfl⟩ | ⟨rfl, rfl⟩ | ⟨rfl, h1, h2⟩
  · exact .inl ⟨rfl, rfl, rfl⟩
  · exact .inr ⟨105, false, 0, .inl ⟨rfl, rfl⟩, rfl, rfl⟩
  · exact .inr ⟨105, true, 0, .inl ⟨rfl, rfl⟩, rfl, rfl⟩
  · exact .inr ⟨119, true, 0, .inr ⟨rfl, by decide, by decide⟩, rfl, rfl⟩
  · by_cases hn : n < 0
    · refine .inr ⟨119, true, -n, .inr ⟨rfl, by omega, by omega⟩, ?_, by simp [ofR, hn]⟩
      have : ¬ (-n) = 0 := by omega
      simp [valR, this]
    · exact .inr ⟨119, false, n, .inr ⟨rfl, by omega, by omega⟩, by simp [valR], by simp [ofR, hn]⟩

theorem val_inf (m : Bool) : valR 105 m 0 = (5, if m = true then -1 else 1) := by simp [valR]
theorem val_pos (s : Int) : valR 119 false s = (3, s) := by simp [valR]
theorem val_neg (s : Int) (h : s ≠ 0) : valR 119 true s = (3, -s) := by simp [valR, h]
theorem val_nz : valR 119 true 0 = (6, 0) := rfl
theorem neg_val (d : Int) (m : Bool) (s : Int) (h : Form d s) : negR (valR d m s).1 (valR d m s).2 = valR d (!m) s := by
  rcases h with ⟨rfl, rfl⟩ | ⟨rfl, h1, h2⟩
  · cases m <;> rfl
  · by_cases h0 : s = 0
    · subst h0; cases m <;> rfl
    · cases m
      · rw [val_pos, Bool.not_false, val_neg s h0, neg3 s h0]
      · rw [val_neg s h0, Bool.not_true, val_pos, neg3 (-s) (by omega), Int.neg_neg]

/-- What a call of the reference answers, held against what package num computes. -/
def Agrees (r : Int × Int × Bool) (C : Value → Prop) : Prop :=
  ∃ d m s ok, C (RT d m s ok) ∧ r = (if ok = true then ((valR d m s).1, (valR d m s).2, true) else (0, 0, false)) ∧ (ok = true → 0 ≤ s ∧ s ≤ 9007199254740992)
theorem intR_in (n : Int) (h1 : -9007199254740991 ≤ n) (h2 : n ≤ 9007199254740991) : intR n = (3, n, true) := by rw [intR, if_neg (by omega)]
theorem intR_out (n : Int) (h : 9007199254740991 < n ∨ n < -9007199254740991) : intR n = (0, 0, false) := by rw [intR, if_pos h]

theorem sum_form (da : Int) (ma : Bool) (sa db : Int) (mb : Bool) (sb : Int) (A : Form da sa) (B : Form db sb) :
    Agrees (addR (valR da ma sa).1 (valR da ma sa).2 (valR db mb sb).1 (valR db mb sb).2) (fun v => ∀ W, Calls Tryd.prog 38 #[RV da ma sa, RV db mb sb] W (Ret v W)) := by
  rcases A with ⟨rfl, rfl⟩ | ⟨rfl, a1, a2⟩ <;> rcases B with ⟨rfl, rfl⟩ | ⟨rfl, b1, b2⟩
  · cases ma <;> cases mb
    · exact ⟨105, false, 0, true, sum_ii false false, rfl, fun _ => by decide⟩
    · exact ⟨110, false, 0, true, sum_ii false true, rfl, fun _ => by decide⟩
    · exact ⟨110, false, 0, true, sum_ii true false, rfl, fun _ => by decide⟩
    · exact ⟨105, true, 0, true, sum_ii true true, rfl, fun _ => by decide⟩
  · refine ⟨105, ma, 0, true, sum_iw ma mb sb, ?_, fun _ => by decide⟩
    by_cases h0 : sb = 0
    · subst h0; cases ma <;> cases mb <;> rfl
    · cases ma <;> cases mb <;> first | (rw [val_pos]; rfl) | (rw [val_neg sb h0]; rfl)
  · refine ⟨105, mb, 0, true, sum_wi ma mb sa, ?_, fun _ => by decide⟩
    by_cases h0 : sa = 0
    · subst h0; cases ma <;> cases mb <;> rfl
    · cases ma <;> cases mb <;> first | (rw [val_pos]; rfl) | (rw [val_neg sa h0]; rfl)
  · by_cases hm : ma = mb
    · subst hm
      refine ⟨119, ma, sa + sb, decide (sa + sb ≤ 9007199254740991), fun W => sum_same ma sa sb W a1 a2 b1 b2, ?_, fun h => by simp at h; omega⟩
      by_cases hs : sa + sb ≤ 9007199254740991
      · rw [decide_eq_true hs, if_pos rfl]
        cases ma
        · rw [val_pos, val_pos, val_pos, add3, intR_in _ (by omega) hs]
        · by_cases h0 : sa = 0
          · subst h0
            by_cases h0' : sb = 0
            · subst h0'; rfl
            · rw [Int.zero_add, val_nz, val_neg sb h0']; rfl
          · by_cases h0' : sb = 0
            · subst h0'; rw [Int.add_zero, val_nz, val_neg sa h0]; rfl
            · rw [val_neg sa h0, val_neg sb h0', val_neg (sa + sb) (by omega), add3, intR_in _ (by omega) (by omega), show -sa + -sb = -(sa + sb) by omega]
      · rw [decide_eq_false hs, if_neg (by decide)]
        have h0 : sa ≠ 0 := by omega
        have h0' : sb ≠ 0 := by omega
        cases ma
        · rw [val_pos, val_pos, add3, intR_out _ (by omega)]
        · rw [val_neg sa h0, val_neg sb h0', add3, intR_out _ (by omega)]
    · have hmb : (ma == mb) = false := by simpa using hm
      rcases Int.lt_trichotomy sa sb with h | h | h
      · refine ⟨119, mb, sb - sa, true, fun W => sum_lt ma mb sa sb W hmb a1 a2 b1 b2 h, ?_, fun _ => by omega⟩
        rw [if_pos rfl]
        have h0' : sb ≠ 0 := by omega
        cases ma <;> cases mb <;> simp at hm
        · rw [val_pos, val_neg sb h0', val_neg (sb - sa) (by omega), add3, intR_in _ (by omega) (by omega), show sa + -sb = -(sb - sa) by omega]
        · by_cases h0 : sa = 0
          · subst h0; rw [val_nz, val_pos, val_pos, Int.sub_zero]; rfl
          · rw [val_neg sa h0, val_pos, val_pos, add3, intR_in _ (by omega) (by omega), show -sa + sb = sb - sa by omega]
      · subst h
        refine ⟨119, false, 0, true, fun W => sum_eq ma mb sa W hmb a1 a2, ?_, fun _ => by decide⟩
        rw [if_pos rfl]
        by_cases h0 : sa = 0
        · subst h0; cases ma <;> cases mb <;> first | rfl | simp at hm
        · cases ma <;> cases mb <;> simp at hm
          · rw [val_pos, val_neg sa h0, add3, intR_in _ (by omega) (by omega), Int.add_right_neg]; rfl
          · rw [val_pos, val_neg sa h0, add3, intR_in _ (by omega) (by omega), Int.add_left_neg]; rfl
      · refine ⟨119, ma, sa - sb, true, fun W => sum_gt ma mb sa sb W hmb a1 a2 b1 b2 h, ?_, fun _ => by omega⟩
        rw [if_pos rfl]
        have h0 : sa ≠ 0 := by omega
        cases ma <;> cases mb <;> simp at hm
        · by_cases h0' : sb = 0
          · subst h0'; rw [val_nz, val_pos, val_pos, Int.sub_zero]; rfl
          · rw [val_pos, val_neg sb h0', val_pos, add3, intR_in _ (by omega) (by omega), show sa + -sb = sa - sb by omega]
        · rw [val_neg sa h0, val_pos, val_neg (sa - sb) (by omega), add3, intR_in _ (by omega) (by omega), show -sa + sb = -(sa - sb) by omega]

theorem prod_ww (ma mb : Bool) (sa sb : Int) (W : World) (h1 : 1 ≤ sa) (h2 : sa ≤ 9007199254740991) (h3 : 0 ≤ sb) (h4 : sb ≤ 9007199254740991) :
    Calls Tryd.prog 39 #[RV 119 ma sa, RV 119 mb sb] W (Ret (if 9007199254740991 / sa < sb then RT 0 false 0 false else RT 119 (ma != mb) (sa * sb) true) W) := by
  by_cases h : 9007199254740991 / sa < sb
  · rw [if_pos h]
    cases ma <;> cases mb
    · exact prod_no_false_false sa sb W h1 h2 h3 h4 h
    · exact prod_no_false_true sa sb W h1 h2 h3 h4 h
    · exact prod_no_true_false sa sb W h1 h2 h3 h4 h
    · exact prod_no_true_true sa sb W h1 h2 h3 h4 h
  · rw [if_neg h]
    have p2 : sb * sa ≤ 9007199254740991 := (Int.le_ediv_iff_mul_le (by omega)).1 (by omega)
    rw [Int.mul_comm] at p2
    have p1 : 0 ≤ sa * sb := Int.mul_nonneg (by omega) h3
    cases ma <;> cases mb
    · exact prod_yes_false_false sa sb W h1 h2 h3 h4 h p1 p2
    · exact prod_yes_false_true sa sb W h1 h2 h3 h4 h p1 p2
    · exact prod_yes_true_false sa sb W h1 h2 h3 h4 h p1 p2
    · exact prod_yes_true_true sa sb W h1 h2 h3 h4 h p1 p2

theorem sign_pos (s : Int) (h : 1 ≤ s) : belowB 3 s = false ∧ noneB 3 s = false := by
  constructor
  · simp [belowB]; omega
  · simp [noneB]; omega
theorem sign_neg (s : Int) (h : 1 ≤ s) : belowB 3 (-s) = true ∧ noneB 3 (-s) = false := by
  constructor
  · simp [belowB]; omega
  · simp [noneB]; omega

theorem prod_form (da : Int) (ma : Bool) (sa db : Int) (mb : Bool) (sb : Int) (A : Form da sa) (B : Form db sb) :
    Agrees (mulR (valR da ma sa).1 (valR da ma sa).2 (valR db mb sb).1 (valR db mb sb).2) (fun v => ∀ W, Calls Tryd.prog 39 #[RV da ma sa, RV db mb sb] W (Ret v W)) := by
  rcases A with ⟨rfl, rfl⟩ | ⟨rfl, a1, a2⟩ <;> rcases B with ⟨rfl, rfl⟩ | ⟨rfl, b1, b2⟩
  · refine ⟨105, ma != mb, 0, true, prod_ii ma mb, ?_, fun _ => by decide⟩
    cases ma <;> cases mb <;> rfl
  · by_cases h0 : sb = 0
    · subst h0
      refine ⟨110, false, 0, true, fun W => prod_iw ma mb 0 W, ?_, fun _ => by decide⟩
      cases ma <;> cases mb <;> rfl
    · have p := sign_pos sb (by omega)
      have n := sign_neg sb (by omega)
      refine ⟨105, ma != mb, 0, true, fun W => by have := prod_iw ma mb sb W; rwa [if_neg (by simpa using h0)] at this, ?_, fun _ => by decide⟩
      cases ma <;> cases mb <;> first | (rw [val_pos]; simp only [val_inf, mulR, p.1, p.2]; rfl) | (rw [val_neg sb h0]; simp only [val_inf, mulR, n.1, n.2]; rfl)
  · by_cases h0 : sa = 0
    · subst h0
      refine ⟨110, false, 0, true, fun W => prod_wi ma mb 0 W, ?_, fun _ => by decide⟩
      cases ma <;> cases mb <;> rfl
    · have p := sign_pos sa (by omega)
      have n := sign_neg sa (by omega)
      refine ⟨105, ma != mb, 0, true, fun W => by have := prod_wi ma mb sa W; rwa [if_neg (by simpa using h0)] at this, ?_, fun _ => by decide⟩
      cases ma <;> cases mb <;> first | (rw [val_pos]; simp only [val_inf, mulR, p.1, p.2]; rfl) | (rw [val_neg sa h0]; simp only [val_inf, mulR, n.1, n.2]; rfl)
  · by_cases h0 : sa = 0
    · subst h0
      refine ⟨119, ma != mb, 0, true, fun W => ?_, ?_, fun _ => by decide⟩
      · cases ma <;> cases mb
        · exact prod_0w_false_false sb W b1 b2
        · exact prod_0w_false_true sb W b1 b2
        · exact prod_0w_true_false sb W b1 b2
        · exact prod_0w_true_true sb W b1 b2
      · by_cases h0' : sb = 0
        · subst h0'; cases ma <;> cases mb <;> rfl
        · have p := sign_pos sb (by omega)
          have n := sign_neg sb (by omega)
          cases ma <;> cases mb <;> first | (rw [val_pos sb]; simp only [val_pos, val_nz, mulR, p.1, p.2]; rfl) | (rw [val_neg sb h0']; simp only [val_pos, val_nz, mulR, n.1, n.2]; rfl)
    · have P := fun W => prod_ww ma mb sa sb W (by omega) a2 b1 b2
      by_cases h0' : sb = 0
      · subst h0'
        have hd : ¬ 9007199254740991 / sa < 0 := by have := Int.ediv_nonneg (show (0 : Int) ≤ 9007199254740991 by decide) (show 0 ≤ sa by omega); omega
        refine ⟨119, ma != mb, 0, true, fun W => by have := P W; rwa [if_neg hd, Int.mul_zero] at this, ?_, fun _ => by decide⟩
        have p := sign_pos sa (by omega)
        have n := sign_neg sa (by omega)
        cases ma <;> cases mb <;> first | (rw [val_pos sa]; simp only [val_pos, val_nz, mulR, p.1, p.2]; rfl) | (rw [val_neg sa h0]; simp only [val_pos, val_nz, mulR, n.1, n.2]; rfl)
      · have i1 : ∀ x : Int, (x = sa ∨ x = -sa) → IsNum 3 x := fun x hx => .inr (.inr (.inr ⟨rfl, by omega, by omega⟩))
        have i2 : ∀ x : Int, (x = sb ∨ x = -sb) → IsNum 3 x := fun x hx => .inr (.inr (.inr ⟨rfl, by omega, by omega⟩))
        have pp : 1 ≤ sa * sb := by have := Int.mul_pos (show 0 < sa by omega) (show 0 < sb by omega); omega
        have e1 : mulR (valR 119 ma sa).1 (valR 119 ma sa).2 (valR 119 mb sb).1 (valR 119 mb sb).2 = intR (if (ma != mb) = true then -(sa * sb) else sa * sb) := by
          cases ma <;> cases mb
          · rw [val_pos, val_pos, mul3 _ _ (i1 _ (.inl rfl)) (i2 _ (.inl rfl)) h0 h0']; rfl
          · rw [val_pos, val_neg sb h0', mul3 _ _ (i1 _ (.inl rfl)) (i2 _ (.inr rfl)) h0 (by show -sb ≠ 0; omega)]; show intR (sa * -sb) = _; rw [Int.mul_neg]; rfl
          · rw [val_neg sa h0, val_pos, mul3 _ _ (i1 _ (.inr rfl)) (i2 _ (.inl rfl)) (by show -sa ≠ 0; omega) h0']; show intR (-sa * sb) = _; rw [Int.neg_mul]; rfl
          · rw [val_neg sa h0, val_neg sb h0', mul3 _ _ (i1 _ (.inr rfl)) (i2 _ (.inr rfl)) (by show -sa ≠ 0; omega) (by show -sb ≠ 0; omega)]; show intR (-sa * -sb) = _; rw [Int.neg_mul_neg]; rfl
        by_cases h : 9007199254740991 / sa < sb
        · refine ⟨0, false, 0, false, fun W => by have := P W; rwa [if_pos h] at this, ?_, fun h => by cases h⟩
          have big : 9007199254740991 < sa * sb := by
            rcases Int.lt_or_le 9007199254740991 (sa * sb) with hb | hb
            · exact hb
            · rw [Int.mul_comm] at hb
              have := (Int.le_ediv_iff_mul_le (show 0 < sa by omega)).2 hb
              omega
          rw [e1, intR_out _ (by cases ma <;> cases mb <;> simp <;> omega), if_neg (by decide)]
        · have p2 : sb * sa ≤ 9007199254740991 := (Int.le_ediv_iff_mul_le (by omega)).1 (by omega)
          rw [Int.mul_comm] at p2
          refine ⟨119, ma != mb, sa * sb, true, fun W => by have := P W; rwa [if_neg h] at this, ?_, fun _ => by omega⟩
          rw [e1, if_pos rfl]
          have hne : sa * sb ≠ 0 := by omega
          cases ma <;> cases mb
          · show intR (sa * sb) = _; rw [intR_in _ (by omega) (by omega)]; show _ = ((valR 119 false (sa * sb)).1, (valR 119 false (sa * sb)).2, true); rw [val_pos]
          · show intR (-(sa * sb)) = _; rw [intR_in _ (by omega) (by omega)]; show _ = ((valR 119 true (sa * sb)).1, (valR 119 true (sa * sb)).2, true); rw [val_neg _ hne]
          · show intR (-(sa * sb)) = _; rw [intR_in _ (by omega) (by omega)]; show _ = ((valR 119 true (sa * sb)).1, (valR 119 true (sa * sb)).2, true); rw [val_neg _ hne]
          · show intR (sa * sb) = _; rw [intR_in _ (by omega) (by omega)]; show _ = ((valR 119 false (sa * sb)).1, (valR 119 false (sa * sb)).2, true); rw [val_pos]

end Go.Proofs.YtdacpebijljckaaDoor
