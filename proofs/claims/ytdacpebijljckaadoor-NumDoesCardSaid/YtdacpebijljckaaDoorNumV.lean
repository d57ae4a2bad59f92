/- What the reference's quotient and Rem answer for any numbers, held against num's Div and Rem. -/
import Derived.Test.YtdacpebijljckaaDoorNumM
set_option linter.unusedVariables false
set_option linter.unusedSimpArgs false
namespace Go.Proofs.YtdacpebijljckaaDoor
open Go.RowKit

theorem quo_facts (sa sb : Int) (h1 : 0 ≤ sa) (h3 : 1 ≤ sb) : 0 ≤ sa / sb ∧ sa / sb ≤ sa ∧ 0 ≤ sa / sb * sb ∧ sa / sb * sb ≤ sa ∧ sb * (sa / sb) + sa % sb = sa ∧ 0 ≤ sa % sb ∧ sa % sb < sb := by
  have e := Int.mul_ediv_add_emod sa sb
  have m0 := Int.emod_nonneg sa (show sb ≠ 0 by omega)
  have m1 := Int.emod_lt_of_pos sa (show 0 < sb by omega)
  have d0 := Int.ediv_nonneg h1 (show 0 ≤ sb by omega)
  have d1 := Int.ediv_le_self sb h1
  have p := Int.mul_nonneg (show 0 ≤ sb by omega) d0
  have c := Int.mul_comm sb (sa / sb)
  refine ⟨d0, d1, by omega, by omega, e, m0, m1⟩

theorem quot_ww (ma mb : Bool) (sa sb : Int) (W : World) (h1 : 0 ≤ sa) (h2 : sa ≤ 9007199254740991) (h3 : 1 ≤ sb) (h4 : sb ≤ 9007199254740991) :
    Calls Tryd.prog 40 #[RV 119 ma sa, RV 119 mb sb] W (Ret (RT 119 (ma != mb) (sa / sb) (sa / sb * sb == sa)) W) := by
  obtain ⟨p0, p3, p1, p2, _⟩ := quo_facts sa sb h1 h3
  cases ma <;> cases mb
  · exact quot_false_false sa sb W h1 h2 h3 h4 p0 p3 p1 p2
  · exact quot_false_true sa sb W h1 h2 h3 h4 p0 p3 p1 p2
  · exact quot_true_false sa sb W h1 h2 h3 h4 p0 p3 p1 p2
  · exact quot_true_true sa sb W h1 h2 h3 h4 p0 p3 p1 p2

theorem quot_form (da : Int) (ma : Bool) (sa db : Int) (mb : Bool) (sb : Int) (A : Form da sa) (B : Form db sb) :
    Agrees (divR (valR da ma sa).1 (valR da ma sa).2 (valR db mb sb).1 (valR db mb sb).2) (fun v => ∀ W, Calls Tryd.prog 40 #[RV da ma sa, RV db mb sb] W (Ret v W)) := by
  rcases A with ⟨rfl, rfl⟩ | ⟨rfl, a1, a2⟩ <;> rcases B with ⟨rfl, rfl⟩ | ⟨rfl, b1, b2⟩
  · refine ⟨110, false, 0, true, quot_ii ma mb, ?_, fun _ => by decide⟩
    cases ma <;> cases mb <;> rfl
  · refine ⟨105, ma != mb, 0, true, fun W => quot_iw ma mb sb W, ?_, fun _ => by decide⟩
    by_cases h0 : sb = 0
    · subst h0; cases ma <;> cases mb <;> rfl
    · have p := sign_pos sb (by omega)
      have n := sign_neg sb (by omega)
      cases ma <;> cases mb <;> first | (rw [val_pos]; simp only [val_inf, divR, p.1, p.2]; rfl) | (rw [val_neg sb h0]; simp only [val_inf, divR, n.1, n.2]; rfl)
  · refine ⟨119, ma != mb, 0, true, fun W => quot_wi ma mb sa W, ?_, fun _ => by decide⟩
    by_cases h0 : sa = 0
    · subst h0; cases ma <;> cases mb <;> rfl
    · have p := sign_pos sa (by omega)
      have n := sign_neg sa (by omega)
      cases ma <;> cases mb <;> first | (rw [val_pos sa]; simp only [val_pos, val_nz, val_inf, divR, p.1, p.2]; rfl) | (rw [val_neg sa h0]; simp only [val_pos, val_nz, val_inf, divR, n.1, n.2]; rfl)
  · by_cases h0' : sb = 0
    · subst h0'
      by_cases h0 : sa = 0
      · subst h0
        refine ⟨110, false, 0, true, fun W => quot_w0 ma mb 0 W, ?_, fun _ => by decide⟩
        cases ma <;> cases mb <;> rfl
      · refine ⟨105, ma != mb, 0, true, fun W => by have := quot_w0 ma mb sa W; rwa [if_neg (by simpa using h0)] at this, ?_, fun _ => by decide⟩
        have p := sign_pos sa (by omega)
        have n := sign_neg sa (by omega)
        cases ma <;> cases mb <;> first | (rw [val_pos sa]; simp only [val_pos, val_nz, val_inf, divR, p.1, p.2]; rfl) | (rw [val_neg sa h0]; simp only [val_pos, val_nz, val_inf, divR, n.1, n.2]; rfl)
    · have P := fun W => quot_ww ma mb sa sb W a1 a2 (by omega) b2
      obtain ⟨p0, p3, p1, p2, e, m0, m1⟩ := quo_facts sa sb a1 (by omega)
      by_cases h0 : sa = 0
      · subst h0
        refine ⟨119, ma != mb, 0, true, fun W => by have := P W; rwa [Int.zero_ediv, Int.zero_mul] at this, ?_, fun _ => by decide⟩
        have p := sign_pos sb (by omega)
        have n := sign_neg sb (by omega)
        cases ma <;> cases mb <;> first | (rw [val_pos sb]; simp only [val_pos, val_nz, divR, p.1, p.2]; rfl) | (rw [val_neg sb h0']; simp only [val_pos, val_nz, divR, n.1, n.2]; rfl)
      · have i1 : ∀ x : Int, (x = sa ∨ x = -sa) → IsNum 3 x := fun x hx => .inr (.inr (.inr ⟨rfl, by omega, by omega⟩))
        have i2 : ∀ x : Int, (x = sb ∨ x = -sb) → IsNum 3 x := fun x hx => .inr (.inr (.inr ⟨rfl, by omega, by omega⟩))
        have t1 : sa.tmod sb = sa % sb := Int.tmod_eq_emod_of_nonneg a1
        have t2 : sa.tdiv sb = sa / sb := Int.tdiv_eq_ediv_of_nonneg a1
        have e1 : divR (valR 119 ma sa).1 (valR 119 ma sa).2 (valR 119 mb sb).1 (valR 119 mb sb).2 = if sa % sb = 0 then (3, (if (ma != mb) = true then -(sa / sb) else sa / sb), true) else (0, 0, false) := by
          cases ma <;> cases mb
          · rw [val_pos, val_pos, div3 _ _ (i1 _ (.inl rfl)) (i2 _ (.inl rfl)) h0 h0']; show (if sa.tmod sb = 0 then _ else _) = _; rw [t1, t2]; rfl
          · rw [val_pos, val_neg sb h0', div3 _ _ (i1 _ (.inl rfl)) (i2 _ (.inr rfl)) h0 (by show -sb ≠ 0; omega)]; show (if sa.tmod (-sb) = 0 then (3, sa.tdiv (-sb), true) else _) = _; rw [Int.tmod_neg, Int.tdiv_neg, t1, t2]; rfl
          · rw [val_neg sa h0, val_pos, div3 _ _ (i1 _ (.inr rfl)) (i2 _ (.inl rfl)) (by show -sa ≠ 0; omega) h0']; show (if (-sa).tmod sb = 0 then (3, (-sa).tdiv sb, true) else _) = _; rw [Int.neg_tmod, Int.neg_tdiv, t1, t2]; simp only [Int.neg_eq_zero]; rfl
          · rw [val_neg sa h0, val_neg sb h0', div3 _ _ (i1 _ (.inr rfl)) (i2 _ (.inr rfl)) (by show -sa ≠ 0; omega) (by show -sb ≠ 0; omega)]; show (if (-sa).tmod (-sb) = 0 then (3, (-sa).tdiv (-sb), true) else _) = _; rw [Int.tmod_neg, Int.tdiv_neg, Int.neg_tmod, Int.neg_tdiv, t1, t2, Int.neg_neg]; simp only [Int.neg_eq_zero]; rfl
        have c := Int.mul_comm sb (sa / sb)
        by_cases hm : sa % sb = 0
        · have hq : (sa / sb * sb == sa) = true := by rw [beq_iff_eq]; omega
          rw [hq] at P
          refine ⟨119, ma != mb, sa / sb, true, P, ?_, fun _ => by omega⟩
          have hne : sa / sb ≠ 0 := fun h => by rw [h] at c e; omega
          rw [e1, if_pos hm, if_pos rfl]
          cases ma <;> cases mb
          · show (3, sa / sb, true) = ((valR 119 false (sa / sb)).1, (valR 119 false (sa / sb)).2, true); rw [val_pos]
          · show (3, -(sa / sb), true) = ((valR 119 true (sa / sb)).1, (valR 119 true (sa / sb)).2, true); rw [val_neg _ hne]
          · show (3, -(sa / sb), true) = ((valR 119 true (sa / sb)).1, (valR 119 true (sa / sb)).2, true); rw [val_neg _ hne]
          · show (3, sa / sb, true) = ((valR 119 false (sa / sb)).1, (valR 119 false (sa / sb)).2, true); rw [val_pos]
        · have hq : (sa / sb * sb == sa) = false := by rw [beq_eq_false_iff_ne]; omega
          rw [hq] at P
          refine ⟨119, ma != mb, sa / sb, false, P, ?_, fun h => by cases h⟩
          rw [e1, if_neg hm, if_neg (by decide)]

theorem rem_form (da : Int) (ma : Bool) (sa db : Int) (mb : Bool) (sb : Int) (A : Form da sa) (B : Form db sb) :
    ∃ d m s, (∀ W, Calls Tryd.prog 27 #[RV da ma sa, RV db mb sb] W (Ret (RV d m s) W)) ∧ valR d m s = remR (valR da ma sa).1 (valR da ma sa).2 (valR db mb sb).1 (valR db mb sb).2 ∧ 0 ≤ s ∧ s ≤ 9007199254740992 := by
  rcases A with ⟨rfl, rfl⟩ | ⟨rfl, a1, a2⟩
  · refine ⟨110, false, 0, fun W => rem_x ma mb 105 0 db sb W rfl, ?_, by decide, by decide⟩
    rw [val_inf]
    simp [valR, remR]
  rcases B with ⟨rfl, rfl⟩ | ⟨rfl, b1, b2⟩
  · refine ⟨119, ma, sa, rem_i ma mb sa, ?_, a1, by omega⟩
    by_cases h0 : sa = 0
    · subst h0; cases ma <;> cases mb <;> rfl
    · cases ma <;> cases mb <;> first | (rw [val_pos]; rfl) | (rw [val_neg sa h0]; rfl)
  · by_cases h0' : sb = 0
    · subst h0'
      refine ⟨110, false, 0, rem_0 ma mb sa, ?_, by decide, by decide⟩
      by_cases h0 : sa = 0
      · subst h0; cases ma <;> cases mb <;> rfl
      · cases ma <;> cases mb <;> first | (rw [val_pos sa]; rfl) | (rw [val_neg sa h0]; rfl)
    · obtain ⟨p0, p3, p1, p2, e, m0, m1⟩ := quo_facts sa sb a1 (by omega)
      have c := Int.mul_comm sb (sa / sb)
      have es : sa - sa / sb * sb = sa % sb := by omega
      have R := fun W => rem_w ma mb sa sb W a1 a2 (by omega) b2 p0 p3 p1 p2
      rw [es] at R
      refine ⟨119, ma, sa % sb, R, ?_, m0, by omega⟩
      have p := sign_pos sb (by omega)
      have n := sign_neg sb (by omega)
      by_cases h0 : sa = 0
      · subst h0
        rw [Int.zero_emod]
        cases ma <;> cases mb <;> first | (rw [val_pos sb]; simp only [val_pos, val_nz, remR, p.1, p.2]; rfl) | (rw [val_neg sb h0']; simp only [val_pos, val_nz, remR, n.1, n.2]; rfl)
      · have q := sign_pos sa (by omega)
        have r := sign_neg sa (by omega)
        have t1 : sa.tmod sb = sa % sb := Int.tmod_eq_emod_of_nonneg a1
        have key : ∀ y, noneB 3 y = false → (sa.tmod y = sa % sb) → remR 3 sa 3 y = valR 119 false (sa % sb) ∧ remR 3 (-sa) 3 y = valR 119 true (sa % sb) := by
          intro y hy ht
          have hn : (-sa).tmod y = -(sa % sb) := by rw [Int.neg_tmod, ht]
          by_cases hm : sa % sb = 0
          · constructor
            · rw [hm, val_pos]; simp [remR, hy, q.2, ht, hm, zkI]; omega
            · rw [hm, val_nz]; simp [remR, hy, r.2, hn, hm, zkI]; omega
          · constructor
            · rw [val_pos]; simp [remR, hy, q.2, ht, hm]
            · rw [val_neg _ hm]; simp [remR, hy, r.2, hn, hm]
        have k1 := key sb p.2 t1
        have k2 := key (-sb) n.2 (by rw [Int.tmod_neg]; exact t1)
        cases ma <;> cases mb
        · rw [val_pos sa, val_pos sb]; exact k1.1.symm
        · rw [val_pos sa, val_neg sb h0']; exact k2.1.symm
        · rw [val_neg sa h0, val_pos sb]; exact k1.2.symm
        · rw [val_neg sa h0, val_neg sb h0']; exact k2.2.symm

end Go.Proofs.YtdacpebijljckaaDoor
