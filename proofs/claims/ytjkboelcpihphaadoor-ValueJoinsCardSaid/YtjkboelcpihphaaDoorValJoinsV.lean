/- The statement ValueJoins, from its walks. -/
import Derived.Test.YtjkboelcpihphaaDoorValJoinsW
import Derived.Test.YtjkboelcpihphaaDoorOpenSeed
import Derived.Test.YtjkboelcpihphaaDoorRows
import Derived.Lib.LaidU8
import Derived.Lib.LaidTab
import Derived.MakeChecks
set_option linter.unusedVariables false
set_option linter.unusedSimpArgs false
namespace Go.Proofs.YtjkboelcpihphaaDoor
open Go.RowKit

theorem tab_joins (w : World) (hL : laidMetH Tryd.prog Rows.valueJoinsRow.laid w) : Tb w := by
  rw [Go.MakeChecks.laidMetH_plain _ _ _ (by kernel_rfl)] at hL
  have h3 : Lib.VarReads Tryd.prog w "internal/strconv.uint64pow10" (Lib.tabData .u64 Lib.pow10Tab) := by
    rw [show Lib.tabData .u64 Lib.pow10Tab = Rows.laid_internal_strconv_uint64pow10 by kernel_rfl]
    exact Lib.laidMet.reads hL (.tail _ (.tail _ (.head _)))
  obtain ⟨g', t', cs, fuel, p, hg', hty', hvar, hd⟩ := h3
  obtain rfl := Option.some.inj ((show Tryd.prog.globalNamed "internal/strconv.uint64pow10" = some 3 by kernel_rfl).symm.trans hg')
  obtain rfl := Option.some.inj ((show (Tryd.prog.globals[3]?).map (·.type) = some 108 by kernel_rfl).symm.trans hty')
  unfold Tb Lib.TabIs
  rw [hvar, ← Lib.cells_of_tab Tryd.underlying108 Tryd.underlying60 (by kernel_rfl) (by kernel_rfl) hd]
theorem seed_kk (K : Int) : ∃ kk : Nat, kk ≤ 10 ∧ (wrap64 (K.tmod 11 + 11)).tmod 11 = (kk : Int) := by
  have h2 := Int.tmod_lt_of_pos K (show (0 : Int) < 11 by decide)
  have h3 := Int.lt_tmod_of_pos K (show (0 : Int) < 11 by decide)
  generalize K.tmod 11 = r at *
  have e : wrap64 (r + 11) = r + 11 := by unfold wrap64; omega
  rw [e, Int.tmod_eq_emod_of_nonneg (by omega)]
  refine ⟨((r + 11) % 11).toNat, by omega, by omega⟩
theorem isV_y {l : List Nat} (hf : Tx.Fits l) (hl : l.length ≤ 2000) : IsV 7 0 (Tx.uS l) := ⟨by decide, by decide, fun a b => by omega, fun h => absurd rfl h, fun h => by omega, l, hf, rfl, hl⟩
theorem textF_err {k n : Int} {s : ByteArray} (h : ¬ (textF k n s).2 = 0) : (textF k n s).1 = ⟨#[]⟩ := by
  unfold textF at h ⊢
  split
  · rename_i g; rw [if_pos g] at h; exact absurd rfl h
  · split
    · rfl
    · split
      · rfl
      · rename_i g1 g2 g3; rw [if_neg g1, if_neg g2, if_neg g3] at h; exact absurd rfl h
theorem textF_y (y : ByteArray) : textF 7 0 y = (y, 0) := rfl
theorem joins_said (K N : Int) (a : Option Addr) (na ca : Nat) (zs : List Int) (b : Option Addr) (nb cb : Nat) (zt : List Int) (w : World) (wK : (Lit.int .i64 K).wf = true) (wN : (Lit.int .i64 N).wf = true) (h : Tx.IsRow .u16 w a na ca zs) (h' : Tx.IsRow .u16 w b nb cb zt) (hL : laidMetH Tryd.prog Rows.valueJoinsRow.laid w) :
    Calls Tryd.prog 4 #[SeedV K N a na ca, .slice b nb cb] w fun e w' => e = .returned (.bool true) ∧ Below w.heap.size w w' := by
  have hT := tab_joins w hL
  by_cases h1 : 2000 < na
  · exact joins_big1 K N a na ca b nb cb w hT h1
  by_cases h2 : 2000 < nb
  · exact joins_big2 K N a na ca b nb cb w hT (by omega) h2
  obtain ⟨u, hS, hf, hlu⟩ := Tx.units_in h
  obtain ⟨l, hS', hf', hll⟩ := Tx.units_in h'
  obtain ⟨kk, hk, hK⟩ := seed_kk K
  have hv := seed_is kk hk N u hf (by omega)
  have hy := isV_y hf' (show l.length ≤ 2000 by omega)
  have hfu : Tx.Fits (seedU kk u) := by
    unfold seedU
    split
    · exact hf
    · exact fun u h => by cases h
  have CV : ∀ W, Below w.heap.size w W → Calls Tryd.prog 10 #[SeedV K N a na ca] W (Ret (VS kk (seedN kk N) (Tx.uS (seedU kk u))) W) :=
    fun W hW => seed_any K N a na ca u kk W (Lib.hid hK) hk (hS.below hW) hf (by omega)
  have CT := fun W (hW : Below w.heap.size w W) => text_any (kk : Int) (seedN kk N) (Tx.uS (seedU kk u)) W hv (hT.below hW)
  have CB1 := fun W (hW : Below w.heap.size w W) => binary_any hy hv rfl hf' rfl hfu 0 (by omega) W (hT.below hW)
  have CB2 := fun W (hW : Below w.heap.size w W) => binary_any hv hy rfl hfu rfl hf' 0 (by omega) W (hT.below hW)
  have e1 : binF 0 7 0 (Tx.uS l) l kk (seedN kk N) (Tx.uS (seedU kk u)) (seedU kk u) = joinF 7 0 (Tx.uS l) kk (seedN kk N) (Tx.uS (seedU kk u)) := by
    show (if ((7 : Int) == 7 || (kk : Int) == 7) = true then joinF 7 0 (Tx.uS l) kk (seedN kk N) (Tx.uS (seedU kk u)) else numOp 0 7 0 kk (seedN kk N)) = _
    rw [if_pos (by simp)]
  have e2 : binF 0 kk (seedN kk N) (Tx.uS (seedU kk u)) (seedU kk u) 7 0 (Tx.uS l) l = joinF kk (seedN kk N) (Tx.uS (seedU kk u)) 7 0 (Tx.uS l) := by
    show (if ((kk : Int) == 7 || (7 : Int) == 7) = true then joinF kk (seedN kk N) (Tx.uS (seedU kk u)) 7 0 (Tx.uS l) else numOp 0 kk (seedN kk N) 7 0) = _
    rw [if_pos (by simp)]
  rw [e1] at CB1
  rw [e2] at CB2
  have ht := textF_size hv
  have hys := hy.size
  unfold joinF at CB1 CB2
  rw [textF_y] at CB1 CB2
  by_cases he : (textF kk (seedN kk N) (Tx.uS (seedU kk u))).2 = 0
  · rw [if_neg (by simp), if_neg (by simp [he]), if_pos (by simp only []; omega)] at CB1
    rw [if_neg (by simp [he]), if_neg (by simp), if_pos (by simp only []; omega)] at CB2
    unfold TF at CT
    rw [he] at CT
    exact joins_ok K N a na ca b nb cb l kk (seedN kk N) (Tx.uS (seedU kk u)) _ _ _ (Lib.hid rfl) (Lib.hid rfl) hys ht w hT hS' hf' (by omega) (by omega) CV CT CB1 CB2
  · rw [if_neg (by simp), if_pos (by simpa using he)] at CB1
    rw [if_pos (by simpa using he)] at CB2
    exact joins_bad K N a na ca b nb cb l kk (seedN kk N) (Tx.uS (seedU kk u)) _ _ he w hT hS' hf' (by omega) (by omega) CV CT CB1 CB2
end Go.Proofs.YtjkboelcpihphaaDoor
