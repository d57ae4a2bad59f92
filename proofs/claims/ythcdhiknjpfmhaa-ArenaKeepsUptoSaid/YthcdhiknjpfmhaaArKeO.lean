/- ArenaKeeps: how an argument that is a slice of steps reads. -/
import Derived.Test.YthcdhiknjpfmhaaArReP
import Derived.Test.YthcdhiknjpfmhaaArCiQ
import Derived.Test.YthcdhiknjpfmhaaOpen3
import Derived.Lib.SmallJoins
import Derived.Deep.Slices
import Derived.OpenShut
import Derived.ProofKit
set_option linter.unusedVariables false
set_option linter.unusedSimpArgs false
namespace Go.Proofs.Ythcdhiknjpfmhaa
open Go.ChangeShapes Go.WideShapes Go.ChangeAt Go.RowKit Go.Joins Go.Deep
/-- A slice of pairs, as an argument brings it. -/
theorem argP_of {w : World} {a : Option Addr} {n cap : Nat} {zs : List Int} (h : IsRows .i64 w a n cap 2 zs) : ArgP w a n ((List.range n).map fun i => (zs.getD (i * 2) 0, zs.getD (i * 2 + 1) 0)) := by
  rcases h with ⟨rfl, rfl, rfl, rfl⟩ | ⟨x, rfl, hl, hm, hz, hc, _⟩
  · exact ⟨rfl, fun h => absurd h (by decide)⟩
  · refine ⟨by simp, fun hn => ?_⟩
    obtain ⟨b, off, rfl, hc'⟩ := ints_at hc (by omega)
    refine ⟨b, off, rfl, World.block_lt_of_cell? w ⟨b, off + 0, none⟩ (hc' 0 (by omega)), fun i hi => ?_⟩
    have e : ((List.range n).map fun i => (zs.getD (i * 2) 0, zs.getD (i * 2 + 1) 0)).getD i (0, 0) = (zs.getD (i * 2) 0, zs.getD (i * 2 + 1) 0) := by
      rw [List.getD_eq_getElem?_getD, List.getElem?_map, List.getElem?_range hi]; rfl
    rw [e]
    exact ⟨hc' (i * 2) (by omega), hc' (i * 2 + 1) (by omega)⟩
/-- A step: Kind; To, Table, Faint: address, length, capacity, what they hold; N. -/
structure StepV where
  kind : Int
  ta : Option Addr
  tn : Nat
  tcap : Nat
  tl : List Int
  ba : Option Addr
  bn : Nat
  bcap : Nat
  bl : List Pr
  fa : Option Addr
  fn : Nat
  fcap : Nat
  fl : List Int
  n : Int
def stepC (s : StepV) : List Value := [.int .i64 s.kind, .slice s.ta s.tn s.tcap, .slice s.ba s.bn s.bcap, .slice s.fa s.fn s.fcap, .int .i64 s.n]
structure StepR (w : World) (s : StepV) : Prop where
  kd : -9223372036854775808 ≤ s.kind ∧ s.kind ≤ 9223372036854775807
  to_ : ArgR w s.ta s.tn s.tl
  tab : ArgP w s.ba s.bn s.bl
  fnt : ArgR w s.fa s.fn s.fl
  nl : s.tn ≤ 9223372036854775807 ∧ s.bn ≤ 9223372036854775807 ∧ s.fn ≤ 9223372036854775807
/-- A slice of steps, as it reads. -/
def StepsR (w : World) (a : Option Addr) (len : Nat) (l : List StepV) : Prop :=
  l.length = len ∧ (0 < len → ∃ b off, a = some ⟨b, off, none⟩ ∧ b < w.heap.size ∧ ∀ i s, l[i]? = some s → ∀ j, j < 5 → w.cell? ⟨b, off + i * 5 + j, none⟩ = (stepC s)[j]?) ∧ ∀ s ∈ l, StepR w s
section
variable {H : Type} {enc : TypeId × Value → H} {w : World} {base : Nat} {held : Bool}
theorem trod_struct5 {P : Program} {spare : Nat → Bool} {t : TypeId} {f0 f1 f2 f3 f4 : Field} {fuel : Nat} {cs : List Value} {x : DataW H × List MemPlace} (ht : P.underlying t = some (.struct #[f0, f1, f2, f3, f4])) (h : DataW.trod enc P w base spare held fuel t cs = some x) :
    ∃ y0 y1 y2 y3 y4 n, cs.length = P.cellsOf t ∧ DataW.trod enc P w base spare held n f0.type ((cs.drop f0.offset).take (P.cellsOf f0.type)) = some y0 ∧
      DataW.trod enc P w base spare held n f1.type ((cs.drop f1.offset).take (P.cellsOf f1.type)) = some y1 ∧ DataW.trod enc P w base spare held n f2.type ((cs.drop f2.offset).take (P.cellsOf f2.type)) = some y2 ∧
      DataW.trod enc P w base spare held n f3.type ((cs.drop f3.offset).take (P.cellsOf f3.type)) = some y3 ∧ DataW.trod enc P w base spare held n f4.type ((cs.drop f4.offset).take (P.cellsOf f4.type)) = some y4 := by
  obtain ⟨xs, n, _, rfl, hl, hlen, hf⟩ := DataW.trod_struct ht h
  match xs, hlen with
  | [y0, y1, y2, y3, y4], _ => exact ⟨y0, y1, y2, y3, y4, n, hl, by simpa using hf 0 f0 rfl, by simpa using hf 1 f1 rfl, by simpa using hf 2 f2 rfl, by simpa using hf 3 f3 rfl, by simpa using hf 4 f4 rfl⟩
theorem open_intsC {fuel : Nat} {c : Value} {x : DataW H × List MemPlace} (h : DataW.trod enc Try.prog w base (fun _ => true) held fuel 22 [c] = some x) : ∃ a n cap l, c = .slice a n cap ∧ ArgR w a n l ∧ n ≤ 9223372036854775807 := by
  rcases open_ints Try.underlying22 Try.underlying3 (by kernel_rfl) h with ⟨hcs, _⟩ | ⟨x, l, c', zs, hcs, _, hl, hm, hz, _, hcell, hwz⟩
  · obtain rfl : c = .slice none 0 0 := by simpa using hcs
    exact ⟨none, 0, 0, _, rfl, argR_of (.inl ⟨rfl, rfl, rfl, rfl⟩), by decide⟩
  · obtain rfl : c = .slice (some x) l c' := by simpa using hcs
    exact ⟨some x, l, c', _, rfl, argR_of (.inr ⟨x, rfl, hl, hm, by simpa using hz, hcell, hwz⟩), by unfold maxLen at hm; omega⟩
theorem open_pairsC {fuel : Nat} {c : Value} {x : DataW H × List MemPlace} (h : DataW.trod enc Try.prog w base (fun _ => true) held fuel 28 [c] = some x) : ∃ a n cap l, c = .slice a n cap ∧ ArgP w a n l ∧ n ≤ 9223372036854775807 := by
  obtain ⟨a, n, cap, zs, hcs, hr⟩ := open_rows Try.underlying28 Try.underlying32 Try.underlying3 (by kernel_rfl) (by kernel_rfl) (by decide) h
  obtain rfl : c = .slice a n cap := by simpa using hcs
  refine ⟨a, n, cap, _, rfl, argP_of hr, ?_⟩
  rcases hr with ⟨_, rfl, _, _⟩ | ⟨_, _, hl, hm, _⟩
  · decide
  · unfold maxLen at hm; omega
theorem open_stepC {fuel : Nat} {cs : List Value} {x : DataW H × List MemPlace} (h : DataW.trod enc Try.prog w base (fun _ => true) held fuel 54 cs = some x) : ∃ s : StepV, cs = stepC s ∧ StepR w s := by
  obtain ⟨y0, y1, y2, y3, y4, n, hl, h0, h1, h2, h3, h4⟩ := trod_struct5 Try.underlying54 h
  have hl5 : cs.length = 5 := hl
  obtain ⟨c0, c1, c2, c3, c4, rfl⟩ : ∃ a b c d e, cs = [a, b, c, d, e] := by
    match cs, hl5 with
    | [a, b, c, d, e], _ => exact ⟨a, b, c, d, e, rfl⟩
  obtain ⟨k, hk, _, wk⟩ := DataW.trod_int Try.underlying3 h0
  obtain ⟨m, hm, _, _⟩ := DataW.trod_int Try.underlying3 h4
  have hk' : [c0] = [.int .i64 k] := hk
  have hm' : [c4] = [.int .i64 m] := hm
  injection hk' with hk'
  injection hm' with hm'
  obtain ⟨ta, tn, tcap, tl, e1, q1, q1'⟩ := open_intsC (c := c1) h1
  obtain ⟨ba, bn, bcap, bl, e2, q2, q2'⟩ := open_pairsC (c := c2) h2
  obtain ⟨fa, fn, fcap, fl, e3, q3, q3'⟩ := open_intsC (c := c3) h3
  subst hk' hm' e1 e2 e3
  exact ⟨⟨k, ta, tn, tcap, tl, ba, bn, bcap, bl, fa, fn, fcap, fl, m⟩, rfl, ⟨bounds_i64 wk, q1, q2, q3, q1', q2', q3'⟩⟩
theorem open_steps {fuel : Nat} {cs : List Value} {x : DataW H × List MemPlace} (h : DataW.trod enc Try.prog w base (fun _ => true) held fuel 43 cs = some x) :
    ∃ a len cap l, cs = [.slice a len cap] ∧ StepsR w a len l := by
  rcases open_slice Try.underlying43 h with ⟨rfl, _⟩ | ⟨a, len, cap, m, n, D, Pl, rfl, _, hl, hm, hmm, _, hi⟩
  · exact ⟨none, 0, 0, [], rfl, rfl, fun h => absurd h (by decide), fun c hc => by cases hc⟩
  · simp only [if_true] at hmm
    subst hmm
    have hce : Try.prog.cellsOf 54 = 5 := by kernel_rfl
    rw [hce] at hi
    have key : ∀ p, p < len → ∃ s : StepV, (∀ j, j < 5 → w.cell? ((a.add (p * 5)).add j) = (stepC s)[j]?) ∧ StepR w s := by
      intro p hp
      obtain ⟨cs', hc, ht'⟩ := hi p (by omega)
      obtain ⟨_, _, hat⟩ := World.cells?_some hc
      obtain ⟨c, rfl, h1⟩ := open_stepC ht'
      exact ⟨c, hat, h1⟩
    let g : Nat → StepV := fun p => if h : p < len then Classical.choose (key p h) else ⟨0, none, 0, 0, [], none, 0, 0, [], none, 0, 0, [], 0⟩
    have hg : ∀ p, p < len → (∀ j, j < 5 → w.cell? ((a.add (p * 5)).add j) = (stepC (g p))[j]?) ∧ StepR w (g p) := by
      intro p hp
      show _
      simp only [g, hp, dif_pos]
      exact Classical.choose_spec (key p hp)
    refine ⟨some a, len, m, (List.range len).map g, rfl, by simp, fun hn => ?_, fun c hc => ?_⟩
    · obtain ⟨b, off, spot⟩ := a
      have h0 := (hg 0 hn).1 0 (by decide)
      rw [Go.Deep.add_add] at h0
      have hspot : spot = none := by
        have h00 : w.cell? (Addr.add ⟨b, off, spot⟩ (0 * 5 + 0)) = some (.int .i64 (g 0).kind) := h0
        simpa [Addr.add] using World.cell?_spot h00
      subst hspot
      refine ⟨b, off, rfl, ?_, fun i c hc j hj => ?_⟩
      · have h00 : w.cell? (Addr.add ⟨b, off, none⟩ (0 * 5 + 0)) = some (.int .i64 (g 0).kind) := h0
        rw [Go.WideShapes.add_plain] at h00
        exact World.block_lt_of_cell? w ⟨b, off + (0 * 5 + 0), none⟩ h00
      · rw [List.getElem?_map] at hc
        have hil : i < len := by
          rcases Nat.lt_or_ge i len with h | h
          · exact h
          · rw [List.getElem?_eq_none (by simpa using h)] at hc; cases hc
        rw [List.getElem?_range hil] at hc
        obtain rfl : g i = c := by simpa using hc
        have := (hg i hil).1 j hj
        rw [Go.Deep.add_add, Go.WideShapes.add_plain] at this
        rw [Nat.add_assoc]; exact this
    · obtain ⟨p, hp, rfl⟩ := List.mem_map.1 hc
      have hp' := List.mem_range.1 hp
      exact (hg p hp').2
end
end Go.Proofs.Ythcdhiknjpfmhaa
