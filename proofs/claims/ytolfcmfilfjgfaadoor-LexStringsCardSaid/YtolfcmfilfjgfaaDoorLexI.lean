/- The statements' own example: 'fit' is true. -/
import Derived.Test.YtolfcmfilfjgfaaDoorLexH
import Derived.KernelRfl
set_option linter.unusedVariables false
set_option linter.unusedSimpArgs false
namespace Go.Proofs.YtolfcmfilfjgfaaDoor
open Go.RowKit

theorem cell_lt {w : World} {b o : Nat} {v : Value} (h : w.cell? ⟨b, o, none⟩ = some v) : b < w.heap.size := by
  rcases Nat.lt_or_ge b w.heap.size with h' | h'
  · exact h'
  · rw [World.cell?, Array.getElem?_eq_none h'] at h; cases h
/-- What a tokens' row reads as. -/
theorem tk_row {w : World} {B g cap : Nat} {l : List Tk} (h : w.ownsRow B 31 4 (.slice (some ⟨g, 0, none⟩) l.length cap) l.length (tkCells l)) (j : Nat) (x : Tk) (hx : l[j]? = some x) :
    w.cell? ⟨g, j * 4, none⟩ = some (.int .i64 x.k) ∧ w.cell? ⟨g, j * 4 + 1, none⟩ = some (.string ⟨x.t.toArray⟩) ∧ w.cell? ⟨g, j * 4 + 2, none⟩ = some (.int .i64 x.a) ∧ w.cell? ⟨g, j * 4 + 3, none⟩ = some (.int .i64 x.n) := by
  have hj := (List.getElem?_eq_some_iff.1 hx).1
  have key : ∀ (m : List Tk) (i : Nat) (y : Tk), m[i]? = some y → (tkCells m)[i * 4]? = some (.int .i64 y.k) ∧ (tkCells m)[i * 4 + 1]? = some (.string ⟨y.t.toArray⟩) ∧ (tkCells m)[i * 4 + 2]? = some (.int .i64 y.a) ∧ (tkCells m)[i * 4 + 3]? = some (.int .i64 y.n) := by
    intro m
    induction m with
    | nil => intro i y hy; simp at hy
    | cons a m ih =>
      intro i y hy
      have hc : tkCells (a :: m) = tkC a ++ tkCells m := by simp [tkCells]
      cases i with
      | zero =>
        simp at hy
        subst hy
        rw [hc]
        exact ⟨rfl, rfl, rfl, rfl⟩
      | succ i =>
        have := ih i y (by simpa using hy)
        rw [hc]
        have h4 : (tkC a).length = 4 := rfl
        rw [show (i + 1) * 4 = 4 + i * 4 by omega]
        refine ⟨?_, ?_, ?_, ?_⟩
        · rw [List.getElem?_append_right (by omega), h4, show 4 + i * 4 - 4 = i * 4 by omega]; exact this.1
        · rw [List.getElem?_append_right (by omega), h4, show 4 + i * 4 + 1 - 4 = i * 4 + 1 by omega]; exact this.2.1
        · rw [List.getElem?_append_right (by omega), h4, show 4 + i * 4 + 2 - 4 = i * 4 + 2 by omega]; exact this.2.2.1
        · rw [List.getElem?_append_right (by omega), h4, show 4 + i * 4 + 3 - 4 = i * 4 + 3 by omega]; exact this.2.2.2
  have hk := key l j x hx
  rw [h.cellAt _ (by omega), h.cellAt _ (by omega), h.cellAt _ (by omega), h.cellAt _ (by omega)]
  exact hk

theorem fit_scan : scanL 5 [97, 63, 46, 53] 0 = .toks [⟨1, [97], 0, 0⟩, ⟨5, [63], 1, 0⟩, ⟨5, [46], 2, 0⟩, ⟨3, [53], 3, 5⟩, ⟨0, [], 4, 0⟩] := by kernel_rfl

set_option maxHeartbeats 1000000 in
theorem fit_any (m : Int) (w : World) (hm : w.cell? ⟨1, 0, none⟩ = some (.int .i64 m)) (tb : Tb w) :
    Calls Tryd.prog 6 #[] w fun e w' => e = .returned (.bool true) ∧ Below w.heap.size w w' := by
  have h2 : 2 ≤ w.heap.size := cell_lt hm
  go_enter Tryd.func6, Tryd.ntmps6
  go_wp2_with fail
  refine (scan_any ⟨#[97, 63, 46, 53]⟩ m _ _ (by decide) h2 hm tb (Lib.hid fit_scan)).mono ?_
  rintro e W ⟨v, f, rfl, ⟨rfl, g, cap, rfl, own⟩, b⟩
  have hlen : ([⟨1, [97], 0, 0⟩, ⟨5, [63], 1, 0⟩, ⟨5, [46], 2, 0⟩, ⟨3, [53], 3, 5⟩, ⟨0, [], 4, 0⟩] : List Tk).length = 5 := rfl
  have r0 := (tk_row own 0 _ rfl).1
  have r1 := (tk_row own 1 _ rfl).2.1
  have r3 := (tk_row own 3 _ rfl).2.2.2
  simp only [Nat.zero_mul, Nat.one_mul, Nat.reduceMul, Nat.reduceAdd] at r0 r1 r3
  have hg := (own.lt g rfl).2
  rw [hlen]
  clear own
  go_wp2
  go_ret
  exact ⟨rfl, b.alloc b.size _⟩
end Go.Proofs.YtolfcmfilfjgfaaDoor
