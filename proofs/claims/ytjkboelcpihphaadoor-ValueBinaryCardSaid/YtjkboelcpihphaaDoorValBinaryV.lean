/- The statement ValueBinary, from its walk and the tables. -/
import Derived.Test.YtjkboelcpihphaaDoorValBinaryW
import Derived.Test.YtjkboelcpihphaaDoorValP
import Derived.Test.YtjkboelcpihphaaDoorOpenSeed
import Derived.Test.YtjkboelcpihphaaDoorRows
import Derived.Lib.LaidU8
import Derived.Lib.LaidTab
import Derived.Lib.LaidU8T
import Derived.PinnedBridge
import Derived.MakeChecks
set_option linter.unusedVariables false
set_option linter.unusedSimpArgs false
namespace Go.Proofs.YtjkboelcpihphaaDoor
open Go.RowKit

theorem tab_bin (w : World) (hL : laidMetH Tryd.prog Rows.valueBinaryRow.laid w) : Tb w := by
  rw [Go.MakeChecks.laidMetH_plain _ _ _ (by kernel_rfl)] at hL
  have h3 : Lib.VarReads Tryd.prog w "internal/strconv.uint64pow10" (Lib.tabData .u64 Lib.pow10Tab) := by
    rw [show Lib.tabData .u64 Lib.pow10Tab = Rows.laid_internal_strconv_uint64pow10 by kernel_rfl]
    exact Lib.laidMet.reads hL (.tail _ (.tail _ (.head _)))
  obtain ⟨g', t', cs, fuel, p, hg', hty', hvar, hd⟩ := h3
  obtain rfl := Option.some.inj ((show Tryd.prog.globalNamed "internal/strconv.uint64pow10" = some 3 by kernel_rfl).symm.trans hg')
  obtain rfl := Option.some.inj ((show (Tryd.prog.globals[3]?).map (·.type) = some 108 by kernel_rfl).symm.trans hty')
  unfold Tb Lib.TabIs
  rw [hvar, ← Lib.cells_of_tab Tryd.underlying108 Tryd.underlying60 (by kernel_rfl) (by kernel_rfl) hd]
theorem utf_bin (w : World) (hL : laidMetH Tryd.prog Rows.valueBinaryRow.laid w) : Ut w := by
  rw [Go.MakeChecks.laidMetH_plain _ _ _ (by kernel_rfl)] at hL
  have h3 : Lib.VarReads Tryd.prog w "unicode/utf8.first" Lib.firstData := by
    rw [← Pinned.utf8First_eq]
    exact Lib.laidMet.reads hL (.tail _ (.tail _ (.tail _ (.tail _ (.head _)))))
  have h4 : Lib.VarReads Tryd.prog w "unicode/utf8.acceptRanges" Lib.acceptData := by
    rw [show Lib.acceptData = Rows.laid_unicode_utf8_acceptRanges by kernel_rfl]
    exact Lib.laidMet.reads hL (.tail _ (.tail _ (.tail _ (.head _))))
  have hT := utf8Tabs_of_readsT (U8Types.of260 Tryd.lays260) ⟨by kernel_rfl, by kernel_rfl, by kernel_rfl, by kernel_rfl, by kernel_rfl, by kernel_rfl, by kernel_rfl⟩ h3 h4
  exact ⟨hT, World.block_lt_of_cell? w ⟨1, _, none⟩ (hT.2 0 (by decide)).1⟩
theorem seed_kk (K : Int) : ∃ kk : Nat, kk ≤ 10 ∧ (wrap64 (K.tmod 11 + 11)).tmod 11 = (kk : Int) := by
  have h2 := Int.tmod_lt_of_pos K (show (0 : Int) < 11 by decide)
  have h3 := Int.lt_tmod_of_pos K (show (0 : Int) < 11 by decide)
  generalize K.tmod 11 = r at *
  have e : wrap64 (r + 11) = r + 11 := by unfold wrap64; omega
  rw [e, Int.tmod_eq_emod_of_nonneg (by omega)]
  refine ⟨((r + 11) % 11).toNat, by omega, by omega⟩
theorem op_kk (K : Int) : ∃ kk : Nat, kk ≤ 11 ∧ (wrap64 (K.tmod 12 + 12)).tmod 12 = (kk : Int) := by
  have h2 := Int.tmod_lt_of_pos K (show (0 : Int) < 12 by decide)
  have h3 := Int.lt_tmod_of_pos K (show (0 : Int) < 12 by decide)
  generalize K.tmod 12 = r at *
  have e : wrap64 (r + 12) = r + 12 := by unfold wrap64; omega
  rw [e, Int.tmod_eq_emod_of_nonneg (by omega)]
  refine ⟨((r + 12) % 12).toNat, by omega, by omega⟩
theorem seedU_fits {kk : Nat} {u : List Nat} (hf : Tx.Fits u) : Tx.Fits (seedU kk u) := by
  unfold seedU
  split
  · exact hf
  · exact fun u h => by cases h
theorem binary_said (K N : Int) (a : Option Addr) (na ca : Nat) (zs : List Int) (K' N' : Int) (b : Option Addr) (nb cb : Nat) (zt : List Int) (op : Int) (w : World) (wK : (Lit.int .i64 K).wf = true) (wN : (Lit.int .i64 N).wf = true) (h : Tx.IsRow .u16 w a na ca zs) (wK' : (Lit.int .i64 K').wf = true) (wN' : (Lit.int .i64 N').wf = true) (h' : Tx.IsRow .u16 w b nb cb zt) (wo : (Lit.int .i64 op).wf = true) (hL : laidMetH Tryd.prog Rows.valueBinaryRow.laid w) :
    Calls Tryd.prog 7 #[SeedV K N a na ca, SeedV K' N' b nb cb, .int .i64 op] w fun e w' => e = .returned (.bool true) ∧ Below w.heap.size w w' := by
  have hT := tab_bin w hL
  have hU := utf_bin w hL
  by_cases h1 : 2000 < na
  · exact binary_big1 K N a na ca K' N' b nb cb op w hT h1
  by_cases h2 : 2000 < nb
  · exact binary_big2 K N a na ca K' N' b nb cb op w hT (by omega) h2
  obtain ⟨u, hS, hf, hlu⟩ := Tx.units_in h
  obtain ⟨l, hS', hf', hll⟩ := Tx.units_in h'
  obtain ⟨kk, hk, hK⟩ := seed_kk K
  obtain ⟨kk', hk', hK'⟩ := seed_kk K'
  obtain ⟨oo, ho, hO⟩ := op_kk op
  have hv := seed_is kk hk N u hf (by omega)
  have hv' := seed_is kk' hk' N' l hf' (by omega)
  have CA : ∀ W, Below w.heap.size w W → Calls Tryd.prog 10 #[SeedV K N a na ca] W (Ret (VS kk (seedN kk N) (Tx.uS (seedU kk u))) W) :=
    fun W hW => seed_any K N a na ca u kk W (Lib.hid hK) hk (hS.below hW) hf (by omega)
  have CB : ∀ W, Below w.heap.size w W → Calls Tryd.prog 10 #[SeedV K' N' b nb cb] W (Ret (VS kk' (seedN kk' N') (Tx.uS (seedU kk' l))) W) :=
    fun W hW => seed_any K' N' b nb cb l kk' W (Lib.hid hK') hk' (hS'.below hW) hf' (by omega)
  have C1 := fun W (hW : Below w.heap.size w W) => binary_any hv hv' rfl (seedU_fits hf) rfl (seedU_fits hf') oo ho W (hT.below hW)
  have C2 := fun W (hW : Below w.heap.size w W) => rbinary_any hv hv' rfl (seedU_fits hf) rfl (seedU_fits hf') oo ho W (hT.below hW) (hU.below hW)
  refine binary_two K N a na ca K' N' b nb cb op kk (seedN kk N) (Tx.uS (seedU kk u)) kk' (seedN kk' N') (Tx.uS (seedU kk' l)) (opS oo) _ _ _ _ w (by omega) (by omega)
    (fun W hW => fit_any W (hT.below hW)) CA CB C1 C2 (Lib.hid ?_)
  rw [hO]
  have hc : oo = 0 ∨ oo = 1 ∨ oo = 2 ∨ oo = 3 ∨ oo = 4 ∨ oo = 5 ∨ oo = 6 ∨ oo = 7 ∨ oo = 8 ∨ oo = 9 ∨ oo = 10 ∨ oo = 11 := by omega
  rcases hc with rfl | rfl | rfl | rfl | rfl | rfl | rfl | rfl | rfl | rfl | rfl | rfl
  · exact .inl ⟨rfl, rfl⟩
  · exact .inr (.inl ⟨rfl, rfl⟩)
  · exact .inr (.inr (.inl ⟨rfl, rfl⟩))
  · exact .inr (.inr (.inr (.inl ⟨rfl, rfl⟩)))
  · exact .inr (.inr (.inr (.inr (.inl ⟨rfl, rfl⟩))))
  · exact .inr (.inr (.inr (.inr (.inr (.inl ⟨rfl, rfl⟩)))))
  · exact .inr (.inr (.inr (.inr (.inr (.inr (.inl ⟨rfl, rfl⟩))))))
  · exact .inr (.inr (.inr (.inr (.inr (.inr (.inr (.inl ⟨rfl, rfl⟩)))))))
  · exact .inr (.inr (.inr (.inr (.inr (.inr (.inr (.inr (.inl ⟨rfl, rfl⟩))))))))
  · exact .inr (.inr (.inr (.inr (.inr (.inr (.inr (.inr (.inr (.inl ⟨rfl, rfl⟩)))))))))
  · exact .inr (.inr (.inr (.inr (.inr (.inr (.inr (.inr (.inr (.inr (.inl ⟨rfl, rfl⟩))))))))))
  · exact .inr (.inr (.inr (.inr (.inr (.inr (.inr (.inr (.inr (.inr (.inr (⟨rfl, rfl⟩)))))))))))
end Go.Proofs.YtjkboelcpihphaaDoor
