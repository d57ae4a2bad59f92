/- What the package's variable 'length' holds, out of what is laid. -/
import Derived.Test.YtmimnaaofpkndaaDoorHpO
import Derived.Test.YtmimnaaofpkndaaDoorRows
import Derived.Lib.LaidU8
import Derived.MakeChecks
import Derived.ChangeSame
set_option linter.unusedVariables false
set_option linter.unusedSimpArgs false
namespace Go.Proofs.YtmimnaaofpkndaaDoor.Hp
open Go.RowKit Go.Proofs.YtmimnaaofpkndaaDoor

set_option maxRecDepth 100000 in
theorem lg_of (w : World) (h3 : Lib.VarReads Tryd.prog w "ossuary/heap.length" Rows.laid_ossuary_heap_length) : Lg w := by
  obtain ⟨g', t', cs, fuel, p, hg', hty', hvar, hd⟩ := h3
  obtain rfl := Option.some.inj ((show Tryd.prog.globalNamed "ossuary/heap.length" = some 0 by kernel_rfl).symm.trans hg')
  obtain rfl := Option.some.inj ((show (Tryd.prog.globals[0]?).map (·.type) = some 34 by kernel_rfl).symm.trans hty')
  obtain ⟨xs, n, _, hx, hl, hlen, hf⟩ := DataW.trod_struct Tryd.underlying34 hd
  have hl3 : cs.toList.length = 3 := hl.trans (show Tryd.prog.cellsOf 34 = 3 by kernel_rfl)
  obtain ⟨c0, c1, c2, hcs⟩ : ∃ a b c, cs.toList = [a, b, c] := by
    match cs.toList, hl3 with
    | [a, b, c], _ => exact ⟨a, b, c, rfl⟩
  rw [hcs] at hf
  have hcs' : cs = #[c0, c1, c2] := by rw [← Array.toList_inj, hcs]
  match xs, hlen with
  | [y0, y1, y2], _ =>
    have f0 := hf 0 _ rfl
    have f1 := hf 1 _ rfl
    have f2 := hf 2 _ rfl
    obtain ⟨n0, e0, x0, _⟩ := DataW.trod_int (k := .i64) Tryd.underlying3 f0
    obtain ⟨n1, e1, x1, _⟩ := DataW.trod_int (k := .i64) Tryd.underlying2 f1
    obtain ⟨s2, e2, x2, _⟩ := DataW.trod_string Tryd.underlying9 f2
    have e0' : [c0] = [.int .i64 n0] := e0
    have e1' : [c1] = [.int .i64 n1] := e1
    have e2' : [c2] = [.string s2] := e2
    injection e0' with e0'
    injection e1' with e1'
    injection e2' with e2'
    have hx1 := congrArg Prod.fst hx
    have hx2 : Rows.laid_ossuary_heap_length (H := Unit) = .agg [y0.1, y1.1, y2.1] := hx1
    have z0 : y0.1 = .lit (.int .i64 n0) := by rw [x0]
    have z1 : y1.1 = .lit (.int .i64 n1) := by rw [x1]
    have z2 : y2.1 = .lit (.string s2.data.toList) := by rw [x2]
    rw [z0, z1, z2] at hx2
    unfold Rows.laid_ossuary_heap_length at hx2
    injection hx2 with hx2
    injection hx2 with q0 hx2
    injection hx2 with q1 hx2
    injection hx2 with q2 hx2
    injection q0 with q0
    injection q1 with q1
    injection q2 with q2
    injection q0 with _ q0
    injection q1 with _ q1
    injection q2 with q2
    subst q0 q1 e0' e1' e2'
    have hs : s2 = ⟨#[0, 108, 0, 101, 0, 110, 0, 103, 0, 116, 0, 104]⟩ := by
      cases s2 with
      | mk d =>
        congr 1
        rw [← Array.toList_inj, ← q2]
    subst hs
    have hv := hvar
    unfold World.var? at hv
    rw [hg'] at hv
    simp only [Option.bind_some] at hv
    have hcell : ∀ i, w.cell? ⟨0, i, none⟩ = (#[.int .i64 7, .int .i64 0, .string ⟨#[0, 108, 0, 101, 0, 110, 0, 103, 0, 116, 0, 104]⟩] : Array Value)[i]? := by
      intro i
      split at hv
      · next cs' _ _ hh =>
        injection hv with hv
        rw [Lib.cell_of_heap hh, hv, hcs']
      · cases hv
    exact ⟨hcell 0, hcell 1, hcell 2⟩
end Go.Proofs.YtmimnaaofpkndaaDoor.Hp
