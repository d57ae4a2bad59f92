/- How an argument that is a slice of calls reads: a number, a seed of a value, two numbers each. -/
import Derived.Test.YtlgnjbdkkpjjaaaOtT
import Derived.Lib.SmallJoins
import Derived.Deep.Slices
import Derived.Deep.Strs
import Derived.OpenShut
import Derived.ProofKit
set_option linter.unusedVariables false
namespace Go.Proofs.Ytlgnjbdkkpjjaaa
open Go.ChangeShapes Go.WideShapes Go.ChangeAt Go.RowKit Go.Joins Go.Deep
section
variable {H : Type} {enc : TypeId × Value → H} {w : World} {base : Nat} {held : Bool}
theorem open_seedC {fuel : Nat} {cs : List Value} {x : DataW H × List MemPlace} (h : DataW.trod enc Try.prog w base (fun _ => true) held fuel 42 cs = some x) :
    ∃ K N a n cap l, cs = [.int .i64 K, .int .i64 N, .slice a n cap] ∧ Tx.SliceR .u16 w a n cap (Tx.ints l) ∧ Tx.Fits l := by
  obtain ⟨y0, y1, y2, n, _, hl, h0, h1, h2⟩ := trod_struct3 Try.underlying42 h
  have hl3 : cs.length = 3 := hl
  obtain ⟨c0, c1, c2, rfl⟩ : ∃ a b c, cs = [a, b, c] := by
    match cs, hl3 with
    | [a, b, c], _ => exact ⟨a, b, c, rfl⟩
  obtain ⟨K, hK, _, wK⟩ := DataW.trod_int Try.underlying3 h0
  obtain ⟨N, hN, _, wN⟩ := DataW.trod_int Try.underlying2 h1
  have hK' : [c0] = [.int .i64 K] := hK
  have hN' : [c1] = [.int .i64 N] := hN
  injection hK' with hK'
  injection hN' with hN'
  subst hK' hN'
  rcases open_ints Try.underlying40 Try.underlying78 (by kernel_rfl) h2 with ⟨hcs, _⟩ | ⟨x, l, c, zs, hcs, _, hll, hm, hz, _, hcell, hwz⟩
  · have hcs' : [c2] = [.slice none 0 0] := hcs
    injection hcs' with hcs'
    subst hcs'
    obtain ⟨l, h1, h2, h3⟩ := Tx.units_in (w := w) (a := none) (n := 0) (cap := 0) (zs := []) (.inl ⟨rfl, rfl, rfl, rfl⟩)
    exact ⟨K, N, none, 0, 0, l, rfl, h1, h2⟩
  · have hcs' : [c2] = [.slice (some x) l c] := hcs
    injection hcs' with hcs'
    subst hcs'
    obtain ⟨l', h1, h2, h3⟩ := Tx.units_in (w := w) (a := some x) (n := l) (cap := c) (zs := zs) (.inr ⟨x, rfl, hll, hm, by simpa using hz, hcell, hwz⟩)
    exact ⟨K, N, some x, l, c, l', rfl, h1, h2⟩
theorem open_callC {fuel : Nat} {cs : List Value} {x : DataW H × List MemPlace} (h : DataW.trod enc Try.prog w base (fun _ => true) held fuel 59 cs = some x) :
    ∃ c : CallV, cs = callC c ∧ Tx.SliceR .u16 w c.a c.n c.cap (Tx.ints c.l) ∧ Tx.Fits c.l := by
  obtain ⟨y0, y1, y2, y3, n, _, hl, h0, h1, h2, h3⟩ := trod_struct4 Try.underlying59 h
  have hl6 : cs.length = 6 := hl
  obtain ⟨c0, c1, c2, c3, c4, c5, rfl⟩ : ∃ a b c d e f, cs = [a, b, c, d, e, f] := by
    match cs, hl6 with
    | [a, b, c, d, e, f], _ => exact ⟨a, b, c, d, e, f, rfl⟩
  obtain ⟨k, hk, _, _⟩ := DataW.trod_int Try.underlying3 h0
  obtain ⟨v, hv, _, _⟩ := DataW.trod_int Try.underlying2 h2
  obtain ⟨m, hm, _, _⟩ := DataW.trod_int Try.underlying3 h3
  obtain ⟨K, N, a, n', cap, l, hs, hS, hf⟩ := open_seedC h1
  have hk' : [c0] = [.int .i64 k] := hk
  have hv' : [c4] = [.int .i64 v] := hv
  have hm' : [c5] = [.int .i64 m] := hm
  have hs' : [c1, c2, c3] = [.int .i64 K, .int .i64 N, .slice a n' cap] := hs
  injection hk' with hk'
  injection hv' with hv'
  injection hm' with hm'
  injection hs' with e1 hs'
  injection hs' with e2 hs'
  injection hs' with e3 _
  subst hk' hv' hm' e1 e2 e3
  exact ⟨⟨k, K, N, a, n', cap, l, v, m⟩, rfl, hS, hf⟩
theorem open_calls {fuel : Nat} {cs : List Value} {x : DataW H × List MemPlace} (h : DataW.trod enc Try.prog w base (fun _ => true) held fuel 48 cs = some x) :
    ∃ a len cap l, cs = [.slice a len cap] ∧ CallsR w a len l := by
  rcases open_slice Try.underlying48 h with ⟨rfl, _⟩ | ⟨a, len, cap, m, n, D, Pl, rfl, _, hl, hm, hmm, _, hi⟩
  · exact ⟨none, 0, 0, [], rfl, rfl, fun h => absurd h (by decide), fun c hc => by cases hc⟩
  · simp only [if_true] at hmm
    subst hmm
    have hce : Try.prog.cellsOf 59 = 6 := by kernel_rfl
    rw [hce] at hi
    have key : ∀ p, p < len → ∃ c : CallV, (∀ j, j < 6 → w.cell? ((a.add (p * 6)).add j) = (callC c)[j]?) ∧ Tx.SliceR .u16 w c.a c.n c.cap (Tx.ints c.l) ∧ Tx.Fits c.l := by
      intro p hp
      obtain ⟨cs', hc, ht'⟩ := hi p (by omega)
      obtain ⟨_, _, hat⟩ := World.cells?_some hc
      obtain ⟨c, rfl, h1, h2⟩ := open_callC ht'
      exact ⟨c, hat, h1, h2⟩
    let g : Nat → CallV := fun p => if h : p < len then Classical.choose (key p h) else ⟨0, 0, 0, none, 0, 0, [], 0, 0⟩
    have hg : ∀ p, p < len → (∀ j, j < 6 → w.cell? ((a.add (p * 6)).add j) = (callC (g p))[j]?) ∧ Tx.SliceR .u16 w (g p).a (g p).n (g p).cap (Tx.ints (g p).l) ∧ Tx.Fits (g p).l := by
      intro p hp
      show _
      simp only [g, hp, dif_pos]
      exact Classical.choose_spec (key p hp)
    refine ⟨some a, len, m, (List.range len).map g, rfl, by simp, fun hn => ?_, fun c hc => ?_⟩
    · obtain ⟨b, off, spot⟩ := a
      have h0 := (hg 0 hn).1 0 (by decide)
      rw [Go.Deep.add_add] at h0
      have hspot : spot = none := by
        have h00 : w.cell? (Addr.add ⟨b, off, spot⟩ (0 * 6 + 0)) = some (.int .i64 (g 0).kind) := h0
        simpa [Addr.add] using World.cell?_spot h00
      subst hspot
      refine ⟨b, off, rfl, ?_, fun i c hc j hj => ?_⟩
      · have h00 : w.cell? (Addr.add ⟨b, off, none⟩ (0 * 6 + 0)) = some (.int .i64 (g 0).kind) := h0
        rw [Go.WideShapes.add_plain] at h00
        exact World.block_lt_of_cell? w ⟨b, off + (0 * 6 + 0), none⟩ h00
      · rw [List.getElem?_map] at hc
        have hil : i < len := by
          rcases Nat.lt_or_ge i len with h | h
          · exact h
          · rw [List.getElem?_eq_none (by simpa using h)] at hc; cases hc
        rw [List.getElem?_range hil] at hc
        obtain rfl : g i = c := by simpa using hc
        have := (hg i hil).1 j hj
        rw [Go.Deep.add_add, Go.WideShapes.add_plain] at this
        rw [Nat.add_assoc]; exact this
    · obtain ⟨p, hp, rfl⟩ := List.mem_map.1 hc
      have hp' := List.mem_range.1 hp
      exact (hg p hp').2
end
end Go.Proofs.Ytlgnjbdkkpjjaaa
