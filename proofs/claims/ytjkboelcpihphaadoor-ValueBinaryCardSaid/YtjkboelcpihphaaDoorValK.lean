/- The reference's Strict of any two values. -/
import Derived.Test.YtjkboelcpihphaaDoorValJ
set_option linter.unusedVariables false
set_option linter.unusedSimpArgs false
namespace Go.Proofs.YtjkboelcpihphaaDoor
open Go.RowKit

theorem vofR_facts {k n : Int} (h : IsNum k n) : ((ofR k n).1 == 110) = (k == 4) ∧ 0 ≤ (ofR k n).2.2 ∧ (ofR k n).2.2 ≤ 9007199254740992 ∧ (k ≠ 4 → rrR (ofR k n).1 (ofR k n).2.1 (ofR k n).2.2 = rankR k n) := by
  have hh := h
  unfold IsNum at hh
  rcases hh with ⟨rfl, rfl⟩ | ⟨rfl, rfl | rfl⟩ | ⟨rfl, rfl⟩ | ⟨rfl, h1, h2⟩
  · exact ⟨rfl, by decide, by decide, fun h => absurd rfl h⟩
  · exact ⟨rfl, by decide, by decide, fun _ => rfl⟩
  · exact ⟨rfl, by decide, by decide, fun _ => rfl⟩
  · exact ⟨rfl, by decide, by decide, fun _ => rfl⟩
  · by_cases hn : n < 0
    · have e : ofR 3 n = (119, true, -n) := by simp [ofR, hn]
      rw [e]
      exact ⟨rfl, by show 0 ≤ -n; omega, by show -n ≤ _; omega, fun _ => by show -(-n) = n; omega⟩
    · have e : ofR 3 n = (119, false, n) := by simp [ofR, hn]
      rw [e]
      exact ⟨rfl, by show 0 ≤ n; omega, by show n ≤ _; omega, fun _ => rfl⟩
theorem vheld_law {ka na kb nb : Int} (ha : IsNum ka na) (hb : IsNum kb nb) (l ok e : Bool) (c : Int) (h1 : lessR ka na kb nb = (l, ok)) (h2 : eqR ka na kb nb = e)
    (h3 : cmpR ((ofR ka na).1 == 110) ((ofR kb nb).1 == 110) (rrR (ofR ka na).1 (ofR ka na).2.1 (ofR ka na).2.2) (rrR (ofR kb nb).1 (ofR kb nb).2.1 (ofR kb nb).2.2) = c) :
    (l = true ∧ ok = true ∧ c = -1 ∧ e = false) ∨ (l = false ∧ ok = true ∧ c = 0 ∧ e = true) ∨ (l = false ∧ ok = true ∧ c = 1 ∧ e = false) ∨ (l = false ∧ ok = false ∧ c = 2 ∧ e = false) := by
  obtain ⟨f1, _, _, f4⟩ := vofR_facts ha
  obtain ⟨g1, _, _, g4⟩ := vofR_facts hb
  rw [f1, g1] at h3
  by_cases ha4 : ka = 4
  · subst ha4
    right; right; right
    simp [lessR] at h1
    simp [eqR] at h2
    simp [cmpR] at h3
    exact ⟨by simp [h1.1], by simp [h1.2], h3.symm, by simp [h2]⟩
  · by_cases hb4 : kb = 4
    · subst hb4
      right; right; right
      simp [lessR] at h1
      simp [eqR] at h2
      simp [cmpR] at h3
      exact ⟨by simp [h1.1], by simp [h1.2], h3.symm, by simp [h2]⟩
    · rw [f4 ha4, g4 hb4] at h3
      simp only [lessR, beq_eq_false_iff_ne.2 ha4, beq_eq_false_iff_ne.2 hb4, Bool.or_self, Bool.false_eq_true, if_false, Prod.mk.injEq] at h1
      simp only [eqR, beq_eq_false_iff_ne.2 ha4, beq_eq_false_iff_ne.2 hb4, Bool.not_false, Bool.true_and] at h2
      simp only [cmpR, beq_eq_false_iff_ne.2 ha4, beq_eq_false_iff_ne.2 hb4, Bool.or_self, Bool.false_eq_true, if_false] at h3
      obtain ⟨h1, rfl⟩ := h1
      generalize rankR ka na = x at *
      generalize rankR kb nb = y at *
      rcases Int.lt_trichotomy x y with h | h | h
      · left
        rw [if_pos h] at h3
        exact ⟨by rw [← h1]; simpa using h, rfl, h3.symm, by rw [← h2]; simp; omega⟩
      · right; left
        subst h
        simp at h1 h2 h3
        exact ⟨by simp [h1], rfl, h3.symm, by simp [h2]⟩
      · right; right; left
        rw [if_neg (by omega), if_pos h] at h3
        exact ⟨by rw [← h1]; simp; omega, rfl, h3.symm, by rw [← h2]; simp; omega⟩
theorem rOf_any {k n : Int} (h : IsNum k n) (W : World) : Calls Tryd.prog 44 #[VN k n] W (Ret (OV k n) W) := by
  refine (ofR_any k n W h.lo h.hi).mono ?_
  rintro e w' ⟨rfl, rfl⟩
  exact ⟨rfl, ((Below.refl _ _).alloc (Nat.le_refl _) _).alloc (by simp) _⟩
theorem rLess_any {k n k' n' : Int} (h : IsNum k n) (h' : IsNum k' n') (W : World) : Calls Tryd.prog 43 #[OV k n, OV k' n'] W (Ret (.int .i64 (cmpR ((ofR k n).1 == 110) ((ofR k' n').1 == 110) (rrR (ofR k n).1 (ofR k n).2.1 (ofR k n).2.2) (rrR (ofR k' n').1 (ofR k' n').2.1 (ofR k' n').2.2))) W) :=
  refLess_any _ _ _ _ _ _ W (vofR_facts h).2.1 (vofR_facts h).2.2.1 (vofR_facts h').2.1 (vofR_facts h').2.2.1
theorem eq_cmp {k n k' n' : Int} (h : IsNum k n) (h' : IsNum k' n') : (cmpR ((ofR k n).1 == 110) ((ofR k' n').1 == 110) (rrR (ofR k n).1 (ofR k n).2.1 (ofR k n).2.2) (rrR (ofR k' n').1 (ofR k' n').2.1 (ofR k' n').2.2) == 0) = eqR k n k' n' := by
  rcases vheld_law h h' _ _ _ _ rfl rfl rfl with ⟨_, _, h1, h2⟩ | ⟨_, _, h1, h2⟩ | ⟨_, _, h1, h2⟩ | ⟨_, _, h1, h2⟩ <;> rw [h1, h2] <;> rfl
theorem rstrict_any {k n : Int} {s : ByteArray} {k' n' : Int} {s' : ByteArray} (h : IsV k n s) (h' : IsV k' n' s') (w : World) : Calls Tryd.prog 23 #[VS k n s, VS k' n' s'] w (Ret (.bool (strictR k n s k' n' s')) w) := by
  unfold strictR
  by_cases hb : (isN k && isN k') = true
  · rw [if_pos hb]
    have hb1 : isN k = true := by revert hb; cases isN k <;> simp
    have hb2 : isN k' = true := by revert hb; cases isN k' <;> simp
    have hn := h.num ((isN_iff k).1 hb1).1 ((isN_iff k).1 hb1).2
    have hn' := h'.num ((isN_iff k').1 hb2).1 ((isN_iff k').1 hb2).2
    obtain rfl := h.str (by have := (isN_iff k).1 hb1; omega)
    obtain rfl := h'.str (by have := (isN_iff k').1 hb2; omega)
    rw [← eq_cmp hn hn']
    have C := fun W => rnum_any k n ⟨#[]⟩ W h.lo h.hi
    have C' := fun W => rnum_any k' n' ⟨#[]⟩ W h'.lo h'.hi
    rw [hb1] at C
    rw [hb2] at C'
    exact rstrict_nn k n ⟨#[]⟩ k' n' ⟨#[]⟩ _ _ _ _ _ _ _ w C C' (fun W => rOf_any hn W) (fun W => rOf_any hn' W) (fun W => rLess_any hn hn' W)
  · rw [if_neg hb]
    exact rstrict_x k n s k' n' s' (isN k) (isN k') (by simpa using hb) w (fun W => rnum_any k n s W h.lo h.hi) (fun W => rnum_any k' n' s' W h'.lo h'.hi)
end Go.Proofs.YtjkboelcpihphaaDoor
