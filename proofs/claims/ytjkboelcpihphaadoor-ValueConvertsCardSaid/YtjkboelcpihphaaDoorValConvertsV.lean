/- The statement ValueConverts, from its walks and the tables. -/
import Derived.Test.YtjkboelcpihphaaDoorValConvertsW
import Derived.Test.YtjkboelcpihphaaDoorOpenSeed
import Derived.Test.YtjkboelcpihphaaDoorRows
import Derived.Lib.LaidU8
import Derived.Lib.LaidTab
import Derived.Lib.LaidU8T
import Derived.PinnedBridge
import Derived.MakeChecks
set_option linter.unusedVariables false
set_option linter.unusedSimpArgs false
namespace Go.Proofs.YtjkboelcpihphaaDoor
open Go.RowKit

theorem tab_conv (w : World) (hL : laidMetH Tryd.prog Rows.valueConvertsRow.laid w) : Tb w := by
  rw [Go.MakeChecks.laidMetH_plain _ _ _ (by kernel_rfl)] at hL
  have h3 : Lib.VarReads Tryd.prog w "internal/strconv.uint64pow10" (Lib.tabData .u64 Lib.pow10Tab) := by
    rw [show Lib.tabData .u64 Lib.pow10Tab = Rows.laid_internal_strconv_uint64pow10 by kernel_rfl]
    exact Lib.laidMet.reads hL (.tail _ (.tail _ (.head _)))
  obtain ⟨g', t', cs, fuel, p, hg', hty', hvar, hd⟩ := h3
  obtain rfl := Option.some.inj ((show Tryd.prog.globalNamed "internal/strconv.uint64pow10" = some 3 by kernel_rfl).symm.trans hg')
  obtain rfl := Option.some.inj ((show (Tryd.prog.globals[3]?).map (·.type) = some 108 by kernel_rfl).symm.trans hty')
  unfold Tb Lib.TabIs
  rw [hvar, ← Lib.cells_of_tab Tryd.underlying108 Tryd.underlying60 (by kernel_rfl) (by kernel_rfl) hd]
theorem utf_conv (w : World) (hL : laidMetH Tryd.prog Rows.valueConvertsRow.laid w) : Ut w := by
  rw [Go.MakeChecks.laidMetH_plain _ _ _ (by kernel_rfl)] at hL
  have h3 : Lib.VarReads Tryd.prog w "unicode/utf8.first" Lib.firstData := by
    rw [← Pinned.utf8First_eq]
    exact Lib.laidMet.reads hL (.tail _ (.tail _ (.tail _ (.tail _ (.head _)))))
  have h4 : Lib.VarReads Tryd.prog w "unicode/utf8.acceptRanges" Lib.acceptData := by
    rw [show Lib.acceptData = Rows.laid_unicode_utf8_acceptRanges by kernel_rfl]
    exact Lib.laidMet.reads hL (.tail _ (.tail _ (.tail _ (.head _))))
  have hT := utf8Tabs_of_readsT (U8Types.of260 Tryd.lays260) ⟨by kernel_rfl, by kernel_rfl, by kernel_rfl, by kernel_rfl, by kernel_rfl, by kernel_rfl, by kernel_rfl⟩ h3 h4
  exact ⟨hT, World.block_lt_of_cell? w ⟨1, _, none⟩ (hT.2 0 (by decide)).1⟩
theorem seed_kk (K : Int) : ∃ kk : Nat, kk ≤ 10 ∧ (wrap64 (K.tmod 11 + 11)).tmod 11 = (kk : Int) := by
  have h2 := Int.tmod_lt_of_pos K (show (0 : Int) < 11 by decide)
  have h3 := Int.lt_tmod_of_pos K (show (0 : Int) < 11 by decide)
  generalize K.tmod 11 = r at *
  have e : wrap64 (r + 11) = r + 11 := by unfold wrap64; omega
  rw [e, Int.tmod_eq_emod_of_nonneg (by omega)]
  refine ⟨((r + 11) % 11).toNat, by omega, by omega⟩
theorem conv_gen (K N : Int) (a : Option Addr) (na ca : Nat) (k n : Int) (s : ByteArray) (w : World) (hna : na ≤ 2000) (hv : IsV k n s) (hT : Tb w) (hU : Ut w)
    (CV : ∀ W, Below w.heap.size w W → Calls Tryd.prog 10 #[SeedV K N a na ca] W (Ret (VS k n s) W)) :
    Calls Tryd.prog 8 #[SeedV K N a na ca] w fun e w' => e = .returned (.bool true) ∧ Below w.heap.size w w' := by
  have h0 := hv.lo
  have h1 := hv.hi
  have CF := fun W (hW : Below w.heap.size w W) => fit_any W (hT.below hW)
  have C1 := fun W => number_any k n s W hv
  have C2 := fun W => rnumber_any k n s W hv
  have C3 := fun W (hW : Below w.heap.size w W) => text_any k n s W hv (hT.below hW)
  have C4 := fun W (hW : Below w.heap.size w W) => rtext_any k n s W hv (hT.below hW) (hU.below hW)
  have C6 := fun W => true_any k n s W h0 h1
  have C7 := fun W => rtrue_any k n s W h0 h1
  have CP := fun (h8 : (k == 8) = false) W (hW : Below w.heap.size w W) => prop_x k n s (textF k n s).1 (textF k n s).2 W h8 (fun V hV => text_any k n s V hv ((hT.below hW).below hV))
  have hc : k = 0 ∨ k = 1 ∨ k = 2 ∨ k = 3 ∨ k = 4 ∨ k = 5 ∨ k = 6 ∨ k = 7 ∨ k = 8 ∨ k = 9 ∨ k = 10 := by omega
  rcases hc with rfl | rfl | rfl | rfl | rfl | rfl | rfl | rfl | rfl | rfl | rfl
  · exact conv_ok K N a na ca 0 n s 4 0 (textF 0 n s).1 (trueB 0 n s) w hna rfl CF CV C1 C2 C3 C4 (CP rfl) C6 C7
  · exact conv_ok K N a na ca 1 n s 3 n (textF 1 n s).1 (trueB 1 n s) w hna rfl CF CV C1 C2 C3 C4 (CP rfl) C6 C7
  · exact conv_ok K N a na ca 2 n s 3 n (textF 2 n s).1 (trueB 2 n s) w hna rfl CF CV C1 C2 C3 C4 (CP rfl) C6 C7
  · exact conv_ok K N a na ca 3 n s 3 n (textF 3 n s).1 (trueB 3 n s) w hna rfl CF CV C1 C2 C3 C4 (CP rfl) C6 C7
  · exact conv_ok K N a na ca 4 n s 4 n (textF 4 n s).1 (trueB 4 n s) w hna rfl CF CV C1 C2 C3 C4 (CP rfl) C6 C7
  · exact conv_ok K N a na ca 5 n s 5 n (textF 5 n s).1 (trueB 5 n s) w hna rfl CF CV C1 C2 C3 C4 (CP rfl) C6 C7
  · exact conv_ok K N a na ca 6 n s 6 n (textF 6 n s).1 (trueB 6 n s) w hna rfl CF CV C1 C2 C3 C4 (CP rfl) C6 C7
  · exact conv_str K N a na ca 7 n s s (trueB 7 n s) w hna rfl CF CV C1 C2 C3 C4 (CP rfl) C6 C7
  · exact conv_sym K N a na ca n s (trueB 8 n s) w hna CF CV C1 C2 C3 C4 (fun W _ => prop_8 n s W) C6 C7
  · exact conv_hard K N a na ca 9 n s (trueB 9 n s) w hna rfl CF CV C1 C2 C3 C4 (CP rfl) C6 C7
  · exact conv_hard K N a na ca 10 n s (trueB 10 n s) w hna rfl CF CV C1 C2 C3 C4 (CP rfl) C6 C7
theorem conv_said (K N : Int) (a : Option Addr) (na ca : Nat) (zs : List Int) (w : World) (wK : (Lit.int .i64 K).wf = true) (wN : (Lit.int .i64 N).wf = true) (h : Tx.IsRow .u16 w a na ca zs) (hL : laidMetH Tryd.prog Rows.valueConvertsRow.laid w) :
    Calls Tryd.prog 8 #[SeedV K N a na ca] w fun e w' => e = .returned (.bool true) ∧ Below w.heap.size w w' := by
  have hT := tab_conv w hL
  have hU := utf_conv w hL
  by_cases h1 : 2000 < na
  · exact conv_big K N a na ca w hT h1
  obtain ⟨u, hS, hf, hlu⟩ := Tx.units_in h
  obtain ⟨kk, hk, hK⟩ := seed_kk K
  exact conv_gen K N a na ca kk (seedN kk N) (Tx.uS (seedU kk u)) w (by omega) (seed_is kk hk N u hf (by omega)) hT hU
    (fun W hW => seed_any K N a na ca u kk W (Lib.hid hK) hk (hS.below hW) hf (by omega))
end Go.Proofs.YtjkboelcpihphaaDoor
