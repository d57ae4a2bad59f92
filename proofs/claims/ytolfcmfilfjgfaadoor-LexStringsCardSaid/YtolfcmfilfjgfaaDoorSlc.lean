/- Slices of integers as contracts see them: what is read of one that came in or that the call has made. -/
import Derived.Test.YtolfcmfilfjgfaaDoorProg
import Derived.WalkKit
import Derived.WalkSpells
import Derived.WalkLawsBesides
import Derived.WalkSmall
import Derived.Lib.Hide
import Derived.StillTailTactics
import Derived.BigQuiet
import Derived.Deep.QuietTactic
import Derived.Lib.UnsafeStr
import Derived.OpenShut
import Derived.OwnWalk
import Derived.Deep.RegionHeld3
import Derived.Deep.AppendLies
set_option linter.unusedVariables false
namespace Go.Proofs.YtolfcmfilfjgfaaDoor
open Go.RowKit

theorem dr2 (w : World) (a b : Nat) : ∃ m, (w.drewN a).drewN b = w.drewN m := ⟨_, World.drewN_drewN _ _ _⟩
theorem dr3 (w : World) (a b c : Nat) : ∃ m, ((w.drewN a).drewN b).drewN c = w.drewN m := ⟨_, by rw [World.drewN_drewN, World.drewN_drewN]⟩

theorem bcell {W w1 : World} (hb : Below W.heap.size W w1) : (∀ b o, b < W.heap.size → w1.cell? ⟨b, o, none⟩ = W.cell? ⟨b, o, none⟩) ∧ (∀ b o, b < W.heap.size → w1.frozen? ⟨b, o, none⟩ = W.frozen? ⟨b, o, none⟩) :=
  ⟨fun b o h => hb.cell (p := ⟨b, o, none⟩) h, fun b o h => hb.frozen (p := ⟨b, o, none⟩) h⟩

/-- The numbers as cells of kind k. -/
def numCells (k : IntKind) (l : List Int) : List Value := l.map (Value.int k)
theorem numCells_length (k : IntKind) (l : List Int) : (numCells k l).length = l.length := List.length_map _
theorem numCells_append (k : IntKind) (l m : List Int) : numCells k (l ++ m) = numCells k l ++ numCells k m := List.map_append
theorem numCells_get (k : IntKind) (l : List Int) (i : Nat) (h : i < l.length) : (numCells k l)[i]? = some (.int k (l.getD i 0)) := by
  simp [numCells, List.getElem?_eq_getElem h]

/-- A slice value whose elements are the numbers l. -/
def SliceR (k : IntKind) (w : World) (a : Option Addr) (n cap : Nat) (l : List Int) : Prop :=
  l.length = n ∧ n ≤ cap ∧ cap ≤ maxLen ∧ (0 < cap → a ≠ none) ∧ (0 < n → ∃ b off, a = some ⟨b, off, none⟩ ∧ b < w.heap.size ∧ ∀ i, i < n → w.cell? ⟨b, off + i, none⟩ = some (.int k (l.getD i 0)))

theorem SliceR.kept {k : IntKind} {w w' : World} {a : Option Addr} {n cap : Nat} {l : List Int} (h : SliceR k w a n cap l) {B : Nat} (hb : Below B w w') (hB : ∀ x, a = some x → x.block < B) : SliceR k w' a n cap l := by
  obtain ⟨h1, h2, h3, h3', h4⟩ := h
  refine ⟨h1, h2, h3, h3', fun hn => ?_⟩
  obtain ⟨b, off, rfl, hlt, hc⟩ := h4 hn
  exact ⟨b, off, rfl, Nat.lt_of_lt_of_le hlt hb.size, fun i hi => by rw [hb.cell (p := ⟨b, off + i, none⟩) (hB ⟨b, off, none⟩ rfl)]; exact hc i hi⟩

theorem SliceR.below {k : IntKind} {w w' : World} {a : Option Addr} {n cap : Nat} {l : List Int} (h : SliceR k w a n cap l) (hb : Below w.heap.size w w') : SliceR k w' a n cap l := by
  obtain ⟨h1, h2, h3, h3', h4⟩ := h
  refine ⟨h1, h2, h3, h3', fun hn => ?_⟩
  obtain ⟨b, off, rfl, hlt, hc⟩ := h4 hn
  exact ⟨b, off, rfl, Nat.lt_of_lt_of_le hlt hb.size, fun i hi => by rw [hb.cell (p := ⟨b, off + i, none⟩) hlt]; exact hc i hi⟩

theorem SliceR.drewN {k : IntKind} {w : World} {a : Option Addr} {n cap : Nat} {l : List Int} (h : SliceR k w a n cap l) (m : Nat) : SliceR k (w.drewN m) a n cap l :=
  h.below (below_drewN (Below.refl _ _) m)

/-- Of a row that the call owns. -/
theorem sliceR_own {k : IntKind} {w : World} {B : Nat} {e : TypeId} {v : Value} {l : List Int} (h : w.ownsRow B e 1 v l.length (numCells k l)) :
    ∃ a cap, v = .slice a l.length cap ∧ SliceR k w a l.length cap l ∧ (∀ x, a = some x → B ≤ x.block) := by
  rcases h.2 with ⟨rfl, hn⟩ | ⟨g, cap, cur, rfl, hB, hg, hnc, hcm, hcs, ht⟩
  · rw [hn]
    exact ⟨none, 0, rfl, ⟨hn, Nat.le_refl _, Nat.zero_le _, fun h => absurd h (by decide), fun h => absurd h (by omega)⟩, fun _ h => by cases h⟩
  · refine ⟨some ⟨g, 0, none⟩, cap, rfl, ⟨rfl, hnc, hcm, fun _ => by simp, fun hn => ⟨g, 0, rfl, (Array.getElem?_eq_some_iff.1 hg).1, fun i hi => ?_⟩⟩, fun x hx => by cases hx; exact hB⟩
    rw [Nat.zero_add, h.cellAt i (by omega), numCells_get k l i hi]

/-- What came in as a row of numbers. -/
def IsRow (k : IntKind) (w : World) (a : Option Addr) (len cap : Nat) (zs : List Int) : Prop :=
  (a = none ∧ len = 0 ∧ cap = 0 ∧ zs = []) ∨
  ∃ x, a = some x ∧ len ≤ cap ∧ cap ≤ maxLen ∧ zs.length = cap ∧ (∀ i, i < zs.length → w.cell? (x.add i) = some (.int k (zs.getD i 0))) ∧ ∀ n ∈ zs, (Lit.int k n).wf = true

theorem sliceR_in {k : IntKind} {w : World} {a : Option Addr} {len cap : Nat} {zs : List Int} (h : IsRow k w a len cap zs) : SliceR k w a len cap (zs.take len) ∧ ∀ n ∈ zs.take len, (Lit.int k n).wf = true := by
  rcases h with ⟨rfl, rfl, rfl, rfl⟩ | ⟨x, rfl, hl, hm, hz, hc, hw⟩
  · exact ⟨⟨rfl, Nat.le_refl _, Nat.zero_le _, fun h => absurd h (by decide), fun h => absurd h (by decide)⟩, fun n hn => by simp at hn⟩
  · refine ⟨⟨by rw [List.length_take]; omega, hl, hm, fun _ => by simp, fun hn => ?_⟩, fun n hn => hw n (List.mem_of_mem_take hn)⟩
    obtain ⟨b, off, rfl, hc'⟩ := ints_at hc (by omega)
    refine ⟨b, off, rfl, World.block_lt_of_cell? w ⟨b, off + 0, none⟩ (hc' 0 (by omega)), fun i hi => ?_⟩
    rw [hc' i (by omega)]
    simp [List.getD_eq_getElem?_getD, hi]

/-- The address behind 's[lo:]'. -/
def slAddr (a : Option Addr) (lo cap : Nat) : Option Addr := if cap = lo then a else a.map (·.add lo)
theorem SliceR.sub {k : IntKind} {w : World} {a : Option Addr} {n cap : Nat} {l : List Int} (h : SliceR k w a n cap l) (lo hi : Nat) (h1 : lo ≤ hi) (h2 : hi ≤ n) :
    SliceR k w (slAddr a lo cap) (hi - lo) (cap - lo) ((l.take hi).drop lo) := by
  obtain ⟨g1, g2, g3, g4, g5⟩ := h
  refine ⟨by rw [List.length_drop, List.length_take]; omega, by omega, by omega, fun hc => ?_, fun hn => ?_⟩
  · rw [slAddr, if_neg (by omega)]
    have := g4 (by omega)
    cases a with
    | none => exact absurd rfl this
    | some x => simp
  · obtain ⟨b, off, rfl, hb, hc⟩ := g5 (by omega)
    refine ⟨b, off + lo, by rw [slAddr, if_neg (by omega), Option.map_some, WideShapes.add_plain], hb, fun i hi' => ?_⟩
    rw [Nat.add_assoc, hc (lo + i) (by omega)]
    simp [List.getD_eq_getElem?_getD, show lo + i < hi by omega]

theorem sliceOp {P : Program} {T E : TypeId} (ht : P.underlying T = some (.slice E)) (he : P.elem T = E) {i0 : TypeInfo} (hi0 : P.info? E = some i0) (hs : i0.size = 1) (a : Option Addr) (n cap lo hi : Nat) (h1 : lo ≤ hi) (h2 : hi ≤ n) (h3 : n ≤ cap) (W : World) :
    (Instr.slice T (.slice a n cap) (some (.int .i64 (lo : Int))) (some (.int .i64 (hi : Int))) none).run P W = .ok (.slice (slAddr a lo cap) (hi - lo) (cap - lo)) W := by
  rw [run_slice_lh W T a n cap (by rw [he]; exact ht) .i64 .i64 lo hi (by omega) (by omega) (by omega), he]
  simp [sizeOf, typeInfo, hi0, hs, Result.andThen, sliced, slAddr]

end Go.Proofs.YtolfcmfilfjgfaaDoor
