/- The statement NumHolds, from its walk and plain laws. -/
import Derived.Test.YtdacpebijljckaaDoorNumHoldsW
import Derived.Test.YtdacpebijljckaaDoorRows
import Derived.Lib.LaidU8
import Derived.Lib.LaidTab
import Derived.MakeChecks
set_option linter.unusedVariables false
set_option linter.unusedSimpArgs false
namespace Go.Proofs.YtdacpebijljckaaDoor
open Go.RowKit

theorem neg_neg {k n : Int} (h : IsNum k n) : negR (negR k n).1 (negR k n).2 = (k, n) := by
  rcases h.kinds with ⟨rfl, rfl⟩ | ⟨rfl, rfl⟩ | ⟨rfl, rfl⟩ | ⟨rfl, rfl⟩ | ⟨rfl, rfl⟩ | ⟨rfl, a0, a1, a2, a3, a4⟩
  · rfl
  · rfl
  · rfl
  · rfl
  · rfl
  · rw [a3, neg3 (-n) (by omega), Int.neg_neg]
theorem ofR_facts {k n : Int} (h : IsNum k n) : ((ofR k n).1 == 110) = (k == 4) ∧ 0 ≤ (ofR k n).2.2 ∧ (ofR k n).2.2 ≤ 9007199254740992 ∧ (k ≠ 4 → rrR (ofR k n).1 (ofR k n).2.1 (ofR k n).2.2 = rankR k n) := by
  have hh := h
  unfold IsNum at hh
  rcases hh with ⟨rfl, rfl⟩ | ⟨rfl, rfl | rfl⟩ | ⟨rfl, rfl⟩ | ⟨rfl, h1, h2⟩
  · exact ⟨rfl, by decide, by decide, fun h => absurd rfl h⟩
  · exact ⟨rfl, by decide, by decide, fun _ => rfl⟩
  · exact ⟨rfl, by decide, by decide, fun _ => rfl⟩
  · exact ⟨rfl, by decide, by decide, fun _ => rfl⟩
  · by_cases hn : n < 0
    · have e : ofR 3 n = (119, true, -n) := by simp [ofR, hn]
      rw [e]
      exact ⟨rfl, by show 0 ≤ -n; omega, by show -n ≤ _; omega, fun _ => by show -(-n) = n; omega⟩
    · have e : ofR 3 n = (119, false, n) := by simp [ofR, hn]
      rw [e]
      exact ⟨rfl, by show 0 ≤ n; omega, by show n ≤ _; omega, fun _ => rfl⟩
theorem held_law {ka na kb nb : Int} (ha : IsNum ka na) (hb : IsNum kb nb) (l ok e : Bool) (c : Int) (h1 : lessR ka na kb nb = (l, ok)) (h2 : eqR ka na kb nb = e)
    (h3 : cmpR ((ofR ka na).1 == 110) ((ofR kb nb).1 == 110) (rrR (ofR ka na).1 (ofR ka na).2.1 (ofR ka na).2.2) (rrR (ofR kb nb).1 (ofR kb nb).2.1 (ofR kb nb).2.2) = c) :
    (l = true ∧ ok = true ∧ c = -1 ∧ e = false) ∨ (l = false ∧ ok = true ∧ c = 0 ∧ e = true) ∨ (l = false ∧ ok = true ∧ c = 1 ∧ e = false) ∨ (l = false ∧ ok = false ∧ c = 2 ∧ e = false) := by
  obtain ⟨f1, _, _, f4⟩ := ofR_facts ha
  obtain ⟨g1, _, _, g4⟩ := ofR_facts hb
  rw [f1, g1] at h3
  by_cases ha4 : ka = 4
  · subst ha4
    right; right; right
    simp [lessR] at h1
    simp [eqR] at h2
    simp [cmpR] at h3
    exact ⟨by simp [h1.1], by simp [h1.2], h3.symm, by simp [h2]⟩
  · by_cases hb4 : kb = 4
    · subst hb4
      right; right; right
      simp [lessR] at h1
      simp [eqR] at h2
      simp [cmpR] at h3
      exact ⟨by simp [h1.1], by simp [h1.2], h3.symm, by simp [h2]⟩
    · rw [f4 ha4, g4 hb4] at h3
      simp only [lessR, beq_eq_false_iff_ne.2 ha4, beq_eq_false_iff_ne.2 hb4, Bool.or_self, Bool.false_eq_true, if_false, Prod.mk.injEq] at h1
      simp only [eqR, beq_eq_false_iff_ne.2 ha4, beq_eq_false_iff_ne.2 hb4, Bool.not_false, Bool.true_and] at h2
      simp only [cmpR, beq_eq_false_iff_ne.2 ha4, beq_eq_false_iff_ne.2 hb4, Bool.or_self, Bool.false_eq_true, if_false] at h3
      obtain ⟨h1, rfl⟩ := h1
      generalize rankR ka na = x at *
      generalize rankR kb nb = y at *
      rcases Int.lt_trichotomy x y with h | h | h
      · left
        rw [if_pos h] at h3
        exact ⟨by rw [← h1]; simpa using h, rfl, h3.symm, by rw [← h2]; simp; omega⟩
      · right; left
        subst h
        simp at h1 h2 h3
        exact ⟨by simp [h1], rfl, h3.symm, by simp [h2]⟩
      · right; right; left
        rw [if_neg (by omega), if_pos h] at h3
        exact ⟨by rw [← h1]; simp; omega, rfl, h3.symm, by rw [← h2]; simp; omega⟩

theorem tab_of_laid (w : World) (hL : laidMetH Tryd.prog Rows.numHoldsRow.laid w) : Lib.TabIs Tryd.prog w "internal/strconv.uint64pow10" .u64 Lib.pow10Tab := by
  rw [Go.MakeChecks.laidMetH_plain _ _ _ (by kernel_rfl)] at hL
  have h3 : Lib.VarReads Tryd.prog w "internal/strconv.uint64pow10" (Lib.tabData .u64 Lib.pow10Tab) := by
    rw [show Lib.tabData .u64 Lib.pow10Tab = Rows.laid_internal_strconv_uint64pow10 by kernel_rfl]
    exact Lib.laidMet.reads hL (.tail _ (.tail _ (.head _)))
  obtain ⟨g', t', cs, fuel, p, hg', hty', hvar, hd⟩ := h3
  obtain rfl := Option.some.inj ((show Tryd.prog.globalNamed "internal/strconv.uint64pow10" = some 0 by kernel_rfl).symm.trans hg')
  obtain rfl := Option.some.inj ((show (Tryd.prog.globals[0]?).map (·.type) = some 64 by kernel_rfl).symm.trans hty')
  unfold Lib.TabIs
  rw [hvar, ← Lib.cells_of_tab Tryd.underlying64 Tryd.underlying57 (by kernel_rfl) (by kernel_rfl) hd]

theorem holds_walk (a b : Int) (w : World) (wa : (Lit.int .i64 a).wf = true) (wb : (Lit.int .i64 b).wf = true) (hL : laidMetH Tryd.prog Rows.numHoldsRow.laid w) :
    Calls Tryd.prog 6 #[.int .i64 a, .int .i64 b] w fun e w' => e = .returned (.bool true) ∧ Below w.heap.size w w' := by
  have hT := Lib.tabBelow_of_tabIs (tab_of_laid w hL)
  have CA := fun W => num_any a W wa
  have CB := fun W => num_any b W wb
  have ha := numR_is a
  have hb := numR_is b
  generalize numR a = x at *
  obtain ⟨ka, na⟩ := x
  generalize numR b = x at *
  obtain ⟨kb, nb⟩ := x
  try simp only at ha hb
  have fa := ofR_facts ha
  have fb := ofR_facts hb
  have CL := fun W => less_any ka na kb nb W ha hb
  have CE := fun W => equal_any ka na kb nb W ha hb
  have CC := fun W => refLess_any (ofR ka na).1 (ofR ka na).2.1 (ofR ka na).2.2 (ofR kb nb).1 (ofR kb nb).2.1 (ofR kb nb).2.2 W fa.2.1 fa.2.2.1 fb.2.1 fb.2.2.1
  have up : ∀ W, Below w.heap.size w W → ∀ W', Below W.heap.size W W' → Lib.TabIs Tryd.prog W' "internal/strconv.uint64pow10" .u64 Lib.pow10Tab := fun W hW W' hW' => hT W' (hW.trans (hW'.mono hW.size))
  refine holds_core a b ka na kb nb (ofR ka na).1 (ofR ka na).2.2 (ofR kb nb).1 (ofR kb nb).2.2 _ _ _ (ofR ka na).2.1 (ofR kb nb).2.1 (lessR ka na kb nb).1 (lessR ka na kb nb).2 _ (textS ka na) w CA CB
    (fun W => ofR_any ka na W ha.lo ha.hi) (fun W => ofR_any kb nb W hb.lo hb.hi) CL CC CE
    (fun W hW => textN_any ka na W ha.lo ha.hi (up W hW)) (fun W hW => refText_of ka na W ha (up W hW)) (fun W => is_any ka na W ha)
    (fun W => neg_any ka na W ha.lo ha.hi) (fun W => ?_) (held_law ha hb _ _ _ _ rfl rfl rfl)
  have := neg_any (negR ka na).1 (negR ka na).2 W ha.neg.lo ha.neg.hi
  rw [neg_neg ha] at this
  exact this

end Go.Proofs.YtdacpebijljckaaDoor
