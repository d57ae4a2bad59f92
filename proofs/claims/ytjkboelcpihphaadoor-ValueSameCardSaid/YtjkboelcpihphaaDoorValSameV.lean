/- The statement ValueSame, from its walk. -/
import Derived.Test.YtjkboelcpihphaaDoorValSameW
import Derived.Test.YtjkboelcpihphaaDoorValK
import Derived.Test.YtjkboelcpihphaaDoorOpenSeed
import Derived.Test.YtjkboelcpihphaaDoorRows
import Derived.Lib.LaidU8
import Derived.Lib.LaidTab
import Derived.MakeChecks
set_option linter.unusedVariables false
set_option linter.unusedSimpArgs false
namespace Go.Proofs.YtjkboelcpihphaaDoor
open Go.RowKit

theorem tab_same (w : World) (hL : laidMetH Tryd.prog Rows.valueSameRow.laid w) : Tb w := by
  rw [Go.MakeChecks.laidMetH_plain _ _ _ (by kernel_rfl)] at hL
  have h3 : Lib.VarReads Tryd.prog w "internal/strconv.uint64pow10" (Lib.tabData .u64 Lib.pow10Tab) := by
    rw [show Lib.tabData .u64 Lib.pow10Tab = Rows.laid_internal_strconv_uint64pow10 by kernel_rfl]
    exact Lib.laidMet.reads hL (.tail _ (.tail _ (.head _)))
  obtain ⟨g', t', cs, fuel, p, hg', hty', hvar, hd⟩ := h3
  obtain rfl := Option.some.inj ((show Tryd.prog.globalNamed "internal/strconv.uint64pow10" = some 3 by kernel_rfl).symm.trans hg')
  obtain rfl := Option.some.inj ((show (Tryd.prog.globals[3]?).map (·.type) = some 108 by kernel_rfl).symm.trans hty')
  unfold Tb Lib.TabIs
  rw [hvar, ← Lib.cells_of_tab Tryd.underlying108 Tryd.underlying60 (by kernel_rfl) (by kernel_rfl) hd]
theorem seed_kk (K : Int) : ∃ kk : Nat, kk ≤ 10 ∧ (wrap64 (K.tmod 11 + 11)).tmod 11 = (kk : Int) := by
  have h2 := Int.tmod_lt_of_pos K (show (0 : Int) < 11 by decide)
  have h3 := Int.lt_tmod_of_pos K (show (0 : Int) < 11 by decide)
  generalize K.tmod 11 = r at *
  have e : wrap64 (r + 11) = r + 11 := by unfold wrap64; omega
  rw [e, Int.tmod_eq_emod_of_nonneg (by omega)]
  refine ⟨((r + 11) % 11).toNat, by omega, by omega⟩
theorem seedU_fits {kk : Nat} {u : List Nat} (hf : Tx.Fits u) : Tx.Fits (seedU kk u) := by
  unfold seedU
  split
  · exact hf
  · exact fun u h => by cases h
/-- A value as a key: -0 as 0. -/
def kK (k : Int) : Int := if k == 6 then 3 else k
def kN (k n : Int) : Int := if k == 6 then 0 else n
def kS (k : Int) (s : ByteArray) : ByteArray := if k == 6 then ⟨#[]⟩ else s
theorem key_all (k n : Int) (s : ByteArray) (W : World) : Calls Tryd.prog 27 #[VS k n s] W (Ret (VS (kK k) (kN k n) (kS k s)) W) := by
  unfold kK kN kS
  by_cases h : (k == 6) = true
  · rw [if_pos h, if_pos h, if_pos h]
    obtain rfl : k = 6 := by simpa using h
    exact key_nz n s W
  · rw [if_neg h, if_neg h, if_neg h]
    exact key_any k n s W (by simpa using h)
theorem key_size {k : Int} {s : ByteArray} (h : s.size ≤ 4000) : (kS k s).size ≤ 4000 := by
  unfold kS
  split
  · decide
  · exact h
theorem key_not (k : Int) : (kK k == 6) = false := by
  unfold kK
  by_cases h : (k == 6) = true
  · rw [if_pos h]; rfl
  · rw [if_neg h]; simpa using h
theorem same_law {k n : Int} {s : ByteArray} {k' n' : Int} {s' : ByteArray} (h : IsV k n s) (h' : IsV k' n' s') : veq (kK k) (kN k n) (kS k s) (kK k') (kN k' n') (kS k' s') = (veq k n s k' n' s' || (isZ k n && isZ k' n')) := by
  rw [Bool.eq_iff_iff, veq_iff, Bool.or_eq_true, veq_iff, Bool.and_eq_true]
  unfold isZ kK kN kS
  simp only [Bool.or_eq_true, Bool.and_eq_true, beq_iff_eq]
  by_cases h6 : k = 6
  · subst h6
    have hn := h.num (by decide) (by decide)
    have e0 : n = 0 := by unfold IsNum at hn; omega
    have es := h.str (by decide)
    subst e0 es
    by_cases h6' : k' = 6
    · subst h6'
      simp
    · simp only [if_neg h6', if_true]
      constructor
      · rintro ⟨h1, h2, h3⟩; right; exact ⟨.inl trivial, .inr ⟨h1.symm, h2.symm⟩⟩
      · rintro (⟨h1, _, _⟩ | ⟨_, h2 | ⟨h2, h3⟩⟩)
        · exact absurd h1.symm h6'
        · exact absurd h2 h6'
        · exact ⟨h2.symm, h3.symm, (h'.str (by omega)).symm⟩
  · by_cases h6' : k' = 6
    · subst h6'
      have hn := h'.num (by decide) (by decide)
      have e0 : n' = 0 := by unfold IsNum at hn; omega
      have es := h'.str (by decide)
      subst e0 es
      simp only [if_neg h6, if_true]
      constructor
      · rintro ⟨h1, h2, h3⟩; right; exact ⟨.inr ⟨h1, h2⟩, .inl trivial⟩
      · rintro (⟨h1, _, _⟩ | ⟨h2 | ⟨h2, h3⟩, _⟩)
        · exact absurd h1 h6
        · exact absurd h2 h6
        · exact ⟨h2, h3, h.str (by omega)⟩
    · simp only [if_neg h6, if_neg h6']
      constructor
      · intro h1; exact .inl h1
      · rintro (h1 | ⟨h1 | ⟨h1, h2⟩, h3 | ⟨h3, h4⟩⟩)
        · exact h1
        · exact absurd h1 h6
        · exact absurd h1 h6
        · exact absurd h3 h6'
        · exact ⟨by omega, by omega, (h.str (by omega)).trans (h'.str (by omega)).symm⟩
theorem same_said (K N : Int) (a : Option Addr) (na ca : Nat) (zs : List Int) (K' N' : Int) (b : Option Addr) (nb cb : Nat) (zt : List Int) (w : World) (wK : (Lit.int .i64 K).wf = true) (wN : (Lit.int .i64 N).wf = true) (h : Tx.IsRow .u16 w a na ca zs) (wK' : (Lit.int .i64 K').wf = true) (wN' : (Lit.int .i64 N').wf = true) (h' : Tx.IsRow .u16 w b nb cb zt) (hL : laidMetH Tryd.prog Rows.valueSameRow.laid w) :
    Calls Tryd.prog 6 #[SeedV K N a na ca, SeedV K' N' b nb cb] w fun e w' => e = .returned (.bool true) ∧ Below w.heap.size w w' := by
  have hT := tab_same w hL
  by_cases h1 : 2000 < na
  · exact same_big1 K N a na ca K' N' b nb cb w hT h1
  by_cases h2 : 2000 < nb
  · exact same_big2 K N a na ca K' N' b nb cb w hT (by omega) h2
  obtain ⟨u, hS, hf, hlu⟩ := Tx.units_in h
  obtain ⟨l, hS', hf', hll⟩ := Tx.units_in h'
  obtain ⟨kk, hk, hK⟩ := seed_kk K
  obtain ⟨kk', hk', hK'⟩ := seed_kk K'
  have hv := seed_is kk hk N u hf (by omega)
  have hv' := seed_is kk' hk' N' l hf' (by omega)
  have CA : ∀ W, Below w.heap.size w W → Calls Tryd.prog 10 #[SeedV K N a na ca] W (Ret (VS kk (seedN kk N) (Tx.uS (seedU kk u))) W) :=
    fun W hW => seed_any K N a na ca u kk W (Lib.hid hK) hk (hS.below hW) hf (by omega)
  have CB : ∀ W, Below w.heap.size w W → Calls Tryd.prog 10 #[SeedV K' N' b nb cb] W (Ret (VS kk' (seedN kk' N') (Tx.uS (seedU kk' l))) W) :=
    fun W hW => seed_any K' N' b nb cb l kk' W (Lib.hid hK') hk' (hS'.below hW) hf' (by omega)
  generalize (kk : Int) = k at *
  generalize seedN kk N = n at *
  generalize Tx.uS (seedU kk u) = s at *
  generalize (kk' : Int) = k' at *
  generalize seedN kk' N' = n' at *
  generalize Tx.uS (seedU kk' l) = s' at *
  exact same_two K N a na ca K' N' b nb cb k n s k' n' s' (veq k n s k' n' s') (isZ k n) (isZ k' n') (veq (kK k) (kN k n) (kS k s) (kK k') (kN k' n') (kS k' s')) (strictR k n s k' n' s')
    (kK k) (kN k n) (kS k s) (kK k') (kN k' n') (kS k' s') (hG (kK k) (kN k n) (kS k s) (kS k s).size) (hG (kK k') (kN k' n') (kS k' s') (kS k' s').size) w (by omega) (by omega)
    (fun W hW => fit_any W (hT.below hW)) CA CB (fun W => szero_any k n s W) (fun W => szero_any k' n' s' W) (fun W => strict_any hv hv' W) (fun W => rstrict_any hv hv' W) (fun W => same_any k n s k' n' s' W)
    (fun W => samezero_any k n s k' n' s' _ _ _ _ _ _ W (fun V => key_all k n s V) (fun V => key_all k' n' s' V))
    (fun W => hash_any k n s _ _ _ W (key_size hv.size) (fun V => key_all k n s V)) (fun W => hash_any k' n' s' _ _ _ W (key_size hv'.size) (fun V => key_all k' n' s' V))
    (fun W => key_all k n s W) (fun W => key_all k' n' s' W) (Lib.hid rfl) (Lib.hid (same_law hv hv')) (key_not k)
    (Lib.hid fun e => by
      obtain ⟨e1, e2, e3⟩ := (veq_iff _ _ _ _ _ _).1 e
      rw [e1, e2, e3]
      exact ⟨rfl, rfl, rfl, rfl⟩)
end Go.Proofs.YtjkboelcpihphaaDoor
