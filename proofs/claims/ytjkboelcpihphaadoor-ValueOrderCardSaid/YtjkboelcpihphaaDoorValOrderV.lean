/- The statement ValueOrder, from its walk. -/
import Derived.Test.YtjkboelcpihphaaDoorValOrderW
import Derived.Test.YtjkboelcpihphaaDoorOpenSeed
import Derived.Test.YtjkboelcpihphaaDoorRows
import Derived.Lib.LaidU8
import Derived.Lib.LaidTab
import Derived.MakeChecks
set_option linter.unusedVariables false
set_option linter.unusedSimpArgs false
namespace Go.Proofs.YtjkboelcpihphaaDoor
open Go.RowKit

theorem tab_order (w : World) (hL : laidMetH Tryd.prog Rows.valueOrderRow.laid w) : Tb w := by
  rw [Go.MakeChecks.laidMetH_plain _ _ _ (by kernel_rfl)] at hL
  have h3 : Lib.VarReads Tryd.prog w "internal/strconv.uint64pow10" (Lib.tabData .u64 Lib.pow10Tab) := by
    rw [show Lib.tabData .u64 Lib.pow10Tab = Rows.laid_internal_strconv_uint64pow10 by kernel_rfl]
    exact Lib.laidMet.reads hL (.tail _ (.tail _ (.head _)))
  obtain ⟨g', t', cs, fuel, p, hg', hty', hvar, hd⟩ := h3
  obtain rfl := Option.some.inj ((show Tryd.prog.globalNamed "internal/strconv.uint64pow10" = some 3 by kernel_rfl).symm.trans hg')
  obtain rfl := Option.some.inj ((show (Tryd.prog.globals[3]?).map (·.type) = some 108 by kernel_rfl).symm.trans hty')
  unfold Tb Lib.TabIs
  rw [hvar, ← Lib.cells_of_tab Tryd.underlying108 Tryd.underlying60 (by kernel_rfl) (by kernel_rfl) hd]
theorem seed_kk (K : Int) : ∃ kk : Nat, kk ≤ 10 ∧ (wrap64 (K.tmod 11 + 11)).tmod 11 = (kk : Int) := by
  have h2 := Int.tmod_lt_of_pos K (show (0 : Int) < 11 by decide)
  have h3 := Int.lt_tmod_of_pos K (show (0 : Int) < 11 by decide)
  generalize K.tmod 11 = r at *
  have e : wrap64 (r + 11) = r + 11 := by unfold wrap64; omega
  rw [e, Int.tmod_eq_emod_of_nonneg (by omega)]
  refine ⟨((r + 11) % 11).toNat, by omega, by omega⟩
theorem seedU_fits {kk : Nat} {u : List Nat} (hf : Tx.Fits u) : Tx.Fits (seedU kk u) := by
  unfold seedU
  split
  · exact hf
  · exact fun u h => by cases h
theorem cmpL_neg (a b : List Nat) : Tx.cmpL b a = - Tx.cmpL a b := by
  induction a generalizing b with
  | nil => cases b <;> simp [Tx.cmpL]
  | cons x a ih =>
    cases b with
    | nil => simp [Tx.cmpL]
    | cons y b =>
      have := ih b
      simp only [Tx.cmpL]
      by_cases h1 : x < y
      · have h2 : ¬ y < x := by omega
        simp [h1, h2]
      · by_cases h2 : y < x
        · simp [h1, h2]
        · simp [h1, h2, this]
/-- What the five comparisons of one pair come to. -/
theorem order_law (k n : Int) (u : List Nat) (k' n' : Int) (u' : List Nat) :
    ∃ a1 b1 a2 b2 a3 b3 a4 b4 a5 b5 e1 e2 : Int, cmpF 5 k n u k' n' u' = (a1, b1, ⟨#[]⟩, e1) ∧ cmpF 6 k n u k' n' u' = (a2, b2, ⟨#[]⟩, e1) ∧ cmpF 7 k n u k' n' u' = (a3, b3, ⟨#[]⟩, e1) ∧ cmpF 8 k n u k' n' u' = (a4, b4, ⟨#[]⟩, e1) ∧ cmpF 6 k' n' u' k n u = (a5, b5, ⟨#[]⟩, e2) ∧
      ((e1 = 0 ∧ e2 = 0 ∧ ∃ L M U F : Bool, a1 = 2 ∧ b1 = tN L ∧ a2 = 2 ∧ b2 = tN M ∧ a3 = 2 ∧ b3 = tN U ∧ a4 = 2 ∧ b4 = tN F ∧ a5 = 2 ∧ b5 = tN L ∧ (L && M) = false ∧ ((!U && !F) || ((U == !M) && (F == !L))) = true) ∨ (¬ e1 = 0 ∧ ¬ e2 = 0)) := by
  unfold cmpF
  by_cases hs : (k == 7 && k' == 7) = true
  · have hs' : (k' == 7 && k == 7) = true := by rw [Bool.and_comm]; exact hs
    simp only [if_pos hs, if_pos hs']
    refine ⟨_, _, _, _, _, _, _, _, _, _, _, _, rfl, rfl, rfl, rfl, rfl, .inl ⟨rfl, rfl, decide (Tx.cmpL u u' < 0), decide (0 < Tx.cmpL u u'), decide (Tx.cmpL u u' ≤ 0), decide (0 ≤ Tx.cmpL u u'), rfl, rfl, rfl, rfl, rfl, rfl, rfl, rfl, rfl, ?_, ?_, ?_⟩⟩
    · show tN (decide (0 < Tx.cmpL u' u)) = _
      rw [cmpL_neg u u']
      congr 1
      by_cases h : Tx.cmpL u u' < 0
      · rw [decide_eq_true h, decide_eq_true (by omega)]
      · rw [decide_eq_false h, decide_eq_false (by omega)]
    · generalize Tx.cmpL u u' = c
      by_cases h : c < 0
      · rw [decide_eq_true h, decide_eq_false (show ¬ 0 < c by omega)]; rfl
      · rw [decide_eq_false h]; rfl
    · generalize Tx.cmpL u u' = c
      rcases Int.lt_trichotomy c 0 with h | h | h
      · rw [decide_eq_true h, decide_eq_false (show ¬ 0 < c by omega), decide_eq_true (show c ≤ 0 by omega), decide_eq_false (show ¬ 0 ≤ c by omega)]; rfl
      · rw [decide_eq_false (show ¬ c < 0 by omega), decide_eq_false (show ¬ 0 < c by omega), decide_eq_true (show c ≤ 0 by omega), decide_eq_true (show 0 ≤ c by omega)]; rfl
      · rw [decide_eq_false (show ¬ c < 0 by omega), decide_eq_true (show 0 < c by omega), decide_eq_false (show ¬ c ≤ 0 by omega), decide_eq_true (show 0 ≤ c by omega)]; rfl
  · have hs' : ¬ (k' == 7 && k == 7) = true := by rw [Bool.and_comm]; exact hs
    simp only [if_neg hs, if_neg hs']
    by_cases h1 : (convF k n).2.2 ≠ 0
    · by_cases h2 : (convF k' n').2.2 ≠ 0
      · simp only [if_pos h1, if_pos h2]
        exact ⟨_, _, _, _, _, _, _, _, _, _, _, _, rfl, rfl, rfl, rfl, rfl, .inr ⟨h1, h2⟩⟩
      · simp only [if_pos h1, if_neg h2]
        exact ⟨_, _, _, _, _, _, _, _, _, _, _, _, rfl, rfl, rfl, rfl, rfl, .inr ⟨h1, h1⟩⟩
    · by_cases h2 : (convF k' n').2.2 ≠ 0
      · simp only [if_neg h1, if_pos h2]
        exact ⟨_, _, _, _, _, _, _, _, _, _, _, _, rfl, rfl, rfl, rfl, rfl, .inr ⟨h2, h2⟩⟩
      · simp only [if_neg h1, if_neg h2]
        generalize (convF k n).1 = p
        generalize (convF k n).2.1 = q
        generalize (convF k' n').1 = p'
        generalize (convF k' n').2.1 = q'
        have hx : ∀ L M ok : Bool, (L && M) = false → ((!(ok && !M) && !(ok && !L)) || (((ok && !M) == !M) && ((ok && !L) == !L))) = true := by decide
        have ha : ((lessR p q p' q').1 && (lessR p' q' p q).1) = false := by
          unfold lessR
          by_cases h4 : (p == 4 || p' == 4) = true
          · rw [if_pos h4]; rfl
          · rw [if_neg h4, if_neg (by rw [Bool.or_comm]; exact h4)]
            show (decide (rankR p q < rankR p' q') && decide (rankR p' q' < rankR p q)) = false
            by_cases h : rankR p q < rankR p' q'
            · rw [decide_eq_true h, decide_eq_false (by omega)]; rfl
            · rw [decide_eq_false h]; rfl
        exact ⟨_, _, _, _, _, _, _, _, _, _, _, _, rfl, rfl, rfl, rfl, rfl, .inl ⟨rfl, rfl, (lessR p q p' q').1, (lessR p' q' p q).1, (lessR p q p' q').2 && !(lessR p' q' p q).1, (lessR p q p' q').2 && !(lessR p q p' q').1, rfl, rfl, rfl, rfl, rfl, rfl, rfl, rfl, rfl, rfl, ha, hx _ _ _ ha⟩⟩
theorem order_said (K N : Int) (a : Option Addr) (na ca : Nat) (zs : List Int) (K' N' : Int) (b : Option Addr) (nb cb : Nat) (zt : List Int) (w : World) (wK : (Lit.int .i64 K).wf = true) (wN : (Lit.int .i64 N).wf = true) (h : Tx.IsRow .u16 w a na ca zs) (wK' : (Lit.int .i64 K').wf = true) (wN' : (Lit.int .i64 N').wf = true) (h' : Tx.IsRow .u16 w b nb cb zt) (hL : laidMetH Tryd.prog Rows.valueOrderRow.laid w) :
    Calls Tryd.prog 3 #[SeedV K N a na ca, SeedV K' N' b nb cb] w fun e w' => e = .returned (.bool true) ∧ Below w.heap.size w w' := by
  have hT := tab_order w hL
  by_cases h1 : 2000 < na
  · exact order_big1 K N a na ca K' N' b nb cb w hT h1
  by_cases h2 : 2000 < nb
  · exact order_big2 K N a na ca K' N' b nb cb w hT (by omega) h2
  obtain ⟨u, hS, hf, hlu⟩ := Tx.units_in h
  obtain ⟨l, hS', hf', hll⟩ := Tx.units_in h'
  obtain ⟨kk, hk, hK⟩ := seed_kk K
  obtain ⟨kk', hk', hK'⟩ := seed_kk K'
  have hv := seed_is kk hk N u hf (by omega)
  have hv' := seed_is kk' hk' N' l hf' (by omega)
  have CA : ∀ W, Below w.heap.size w W → Calls Tryd.prog 10 #[SeedV K N a na ca] W (Ret (VS kk (seedN kk N) (Tx.uS (seedU kk u))) W) :=
    fun W hW => seed_any K N a na ca u kk W (Lib.hid hK) hk (hS.below hW) hf (by omega)
  have CB : ∀ W, Below w.heap.size w W → Calls Tryd.prog 10 #[SeedV K' N' b nb cb] W (Ret (VS kk' (seedN kk' N') (Tx.uS (seedU kk' l))) W) :=
    fun W hW => seed_any K' N' b nb cb l kk' W (Lib.hid hK') hk' (hS'.below hW) hf' (by omega)
  have C1 := fun W (hW : Below w.heap.size w W) => binary_any hv hv' rfl (seedU_fits hf) rfl (seedU_fits hf') 5 (by omega) W (hT.below hW)
  have C2 := fun W (hW : Below w.heap.size w W) => binary_any hv hv' rfl (seedU_fits hf) rfl (seedU_fits hf') 6 (by omega) W (hT.below hW)
  have C3 := fun W (hW : Below w.heap.size w W) => binary_any hv hv' rfl (seedU_fits hf) rfl (seedU_fits hf') 7 (by omega) W (hT.below hW)
  have C4 := fun W (hW : Below w.heap.size w W) => binary_any hv hv' rfl (seedU_fits hf) rfl (seedU_fits hf') 8 (by omega) W (hT.below hW)
  have C5 := fun W (hW : Below w.heap.size w W) => binary_any hv' hv rfl (seedU_fits hf') rfl (seedU_fits hf) 6 (by omega) W (hT.below hW)
  obtain ⟨a1, b1, a2, b2, a3, b3, a4, b4, a5, b5, e1, e2, q1, q2, q3, q4, q5, hO⟩ := order_law kk (seedN kk N) (seedU kk u) kk' (seedN kk' N') (seedU kk' l)
  simp only [show ∀ k n s u k' n' s' u', binF 5 k n s u k' n' s' u' = cmpF 5 k n u k' n' u' from fun _ _ _ _ _ _ _ _ => rfl, q1] at C1
  simp only [show ∀ k n s u k' n' s' u', binF 6 k n s u k' n' s' u' = cmpF 6 k n u k' n' u' from fun _ _ _ _ _ _ _ _ => rfl, q2] at C2
  simp only [show ∀ k n s u k' n' s' u', binF 7 k n s u k' n' s' u' = cmpF 7 k n u k' n' u' from fun _ _ _ _ _ _ _ _ => rfl, q3] at C3
  simp only [show ∀ k n s u k' n' s' u', binF 8 k n s u k' n' s' u' = cmpF 8 k n u k' n' u' from fun _ _ _ _ _ _ _ _ => rfl, q4] at C4
  simp only [show ∀ k n s u k' n' s' u', binF 6 k n s u k' n' s' u' = cmpF 6 k n u k' n' u' from fun _ _ _ _ _ _ _ _ => rfl, q5] at C5
  exact order_two K N a na ca K' N' b nb cb kk (seedN kk N) (Tx.uS (seedU kk u)) kk' (seedN kk' N') (Tx.uS (seedU kk' l)) w (by omega) (by omega) a1 b1 a2 b2 a3 b3 a4 b4 a5 b5 e1 e2
    (fun W hW => fit_any W (hT.below hW)) CA CB C1 C2 C3 C4 C5 (Lib.hid hO)
end Go.Proofs.YtjkboelcpihphaaDoor
