/- The arena with its nodes. -/
import Derived.Test.YthcdhiknjpfmhaaArL
set_option linter.unusedVariables false
set_option linter.unusedSimpArgs false
namespace Go.Proofs.Ythcdhiknjpfmhaa
open Go.RowKit Go.Shelf

/-- A node: the values of its slices and what these hold, Ends. -/
structure Nod where
  tv : Value
  bv : Value
  fv : Value
  to_ : List Int
  tab : List Pr
  fa : List Int
  ends : Int
structure NodR (w : World) (B N : Nat) (x : Nod) : Prop where
  blk : Blk w N 30 (ndC x.tv x.bv x.fv x.ends)
  toR : w.ownsRow B 3 1 x.tv x.to_.length (numCells x.to_)
  tabR : w.ownsRow B 32 2 x.bv x.tab.length (prCells x.tab)
  faR : w.ownsRow B 3 1 x.fv x.fa.length (numCells x.fa)
/-- The rows of numbers that an arena and its nodes own. -/
inductive Slot where
  | free | roots
  | tos (N : Nat)
  | fa (N : Nat)
def Slot.ok (L : List Nat) : Slot → Prop
  | .tos N | .fa N => N ∈ L
  | _ => True
def lab (fv rv : Value) (nd : Nat → Nod) : Slot → Option Nat
  | .free => fv.ownBlock
  | .roots => rv.ownBlock
  | .tos N => (nd N).tv.ownBlock
  | .fa N => (nd N).fv.ownBlock
/-- They lie apart. -/
def Sep (fv rv : Value) (nd : Nat → Nod) (L : List Nat) : Prop := ∀ s s' g, s.ok L → s'.ok L → lab fv rv nd s = some g → lab fv rv nd s' = some g → s = s'
structure ArN (w : World) (A B : Nat) (cv fv rv : Value) (cs : List Cell) (fr ro : List Int) (live : Int) (nd : Nat → Nod) : Prop where
  ar : Ar w A B cv fv rv cs fr ro live
  nodes : ∀ N ∈ bodies cs, NodR w B N (nd N)
  sep : Sep fv rv nd (bodies cs)
  nodup : (bodies cs).Nodup
  ends : ∀ N ∈ bodies cs, 0 ≤ (nd N).ends ∧ (nd N).ends ≤ 1000000
/-- The address and the capacity of a slice. -/
def sa : Value → Option Addr
  | .slice a _ _ => a
  | _ => none
def sc : Value → Nat
  | .slice _ _ c => c
  | _ => 0
def ndsOf (nd : Nat → Nod) : Nds := ⟨fun N => sa (nd N).tv, fun N => sc (nd N).tv, fun N => (nd N).to_, fun N => sa (nd N).bv, fun N => sc (nd N).bv, fun N => (nd N).tab⟩
theorem bodies_at {cs : List Cell} {i N : Nat} (h : (cs.getD i (none, false)).1 = some N) : N ∈ bodies cs := by
  by_cases hi : i < cs.length
  · rw [List.getD_eq_getElem?_getD, List.getElem?_eq_getElem hi] at h
    exact List.mem_filterMap.2 ⟨_, List.getElem_mem hi, h⟩
  · rw [List.getD_eq_getElem?_getD, List.getElem?_eq_none (by omega)] at h
    cases h
section
variable {w W : World} {A B : Nat} {cv fv rv : Value} {cs : List Cell} {fr ro : List Int} {live : Int} {nd : Nat → Nod}
theorem NodR.ndr {N : Nat} {n : Nat} {xs : List Value} (h : NodR w B N (nd N)) (hc : w.ownsRow B 66 2 cv n xs) (h1 : (nd N).to_.length ≤ 100000) (h2 : (nd N).tab.length ≤ 100000) : NdR w w.heap.size cv (ndsOf nd) N := by
  obtain ⟨ta, tc, e1, ht⟩ := own_shape h.toR
  obtain ⟨pa, pc, e2, hp⟩ := own_shape h.tabR
  have hne1 := own_ne hc h.toR (by decide)
  have hne2 := own_ne hc h.tabR (by decide)
  have ho1 := h.toR
  have ho2 := h.tabR
  rw [e1] at ho1 hne1
  rw [e2] at ho2 hne2
  refine ⟨⟨?_, fun hn => ?_⟩, ⟨?_, fun hn => ?_⟩, h.blk.lt, own_blk hc h.blk (by decide), fun b hb => ?_, fun b hb => ?_, by show (nd N).to_.length ≤ _; omega, by show (nd N).tab.length ≤ _; omega⟩
  · show w.cell? ⟨N, 0, none⟩ = some (.slice (sa (nd N).tv) (nd N).to_.length (sc (nd N).tv))
    rw [h.blk.cell, e1]; rfl
  · obtain ⟨g, rfl⟩ := ht hn
    exact ⟨g, by show sa (nd N).tv = _; rw [e1]; rfl, fun i hi => (ho1.cellAt i (show i < (nd N).to_.length * 1 by have : i < (nd N).to_.length := hi; omega)).trans (numCells_get _ i hi)⟩
  · show w.cell? ⟨N, 1, none⟩ = some (.slice (sa (nd N).bv) (nd N).tab.length (sc (nd N).bv))
    rw [h.blk.cell, e2]; rfl
  · obtain ⟨g, rfl⟩ := hp hn
    refine ⟨g, by show sa (nd N).bv = _; rw [e2]; rfl, fun i hi => ?_⟩
    have := prCells_get (nd N).tab i hi
    have hi' : i < (nd N).tab.length := hi
    exact ⟨(ho2.cellAt _ (show i * 2 < (nd N).tab.length * 2 by omega)).trans this.1, (ho2.cellAt _ (show i * 2 + 1 < (nd N).tab.length * 2 by omega)).trans this.2⟩
  · have hb' : sa (nd N).tv = some b := hb
    rw [e1] at hb'
    have : ta = some b := hb'
    subst this
    rcases ho1.2 with ⟨q, _⟩ | ⟨g, cap, cur, q, _⟩
    · cases q
    · obtain ⟨⟩ := q
      refine ⟨(ho1.lt _ rfl).2, fun e => ?_⟩
      rcases hne1 with q | q
      · rw [q] at e; cases e
      · exact q e
  · have hb' : sa (nd N).bv = some b := hb
    rw [e2] at hb'
    have : pa = some b := hb'
    subst this
    rcases ho2.2 with ⟨q, _⟩ | ⟨g, cap, cur, q, _⟩
    · cases q
    · obtain ⟨⟩ := q
      refine ⟨(ho2.lt _ rfl).2, fun e => ?_⟩
      rcases hne2 with q | q
      · rw [q] at e; cases e
      · exact q e
theorem ArN.ndr (h : ArN w A B cv fv rv cs fr ro live nd) (hs : ∀ N ∈ bodies cs, (nd N).to_.length ≤ 100000 ∧ (nd N).tab.length ≤ 100000 ∧ (nd N).fa.length ≤ 100000) (i N : Nat) (hi : (cs.getD i (none, false)).1 = some N) : NdR w w.heap.size cv (ndsOf nd) N :=
  (h.nodes N (bodies_at hi)).ndr h.ar.cells (hs N (bodies_at hi)).1 (hs N (bodies_at hi)).2.1
theorem mark_start (h : Ar w A B cv fv rv cs fr ro live) :
    DrI w w A B w.heap.size w.heap.size (w.heap.size + 1) cv fv rv fr ro live [] cs [] [] ((w.alloc (.cells (mkA A) 70)).alloc (.cells #[.pointer (some ⟨w.heap.size, 0, none⟩)] 67)) := by
  have kx : Blk ((w.alloc (.cells (mkA A) 70)).alloc (.cells #[.pointer (some ⟨w.heap.size, 0, none⟩)] 67)) (w.heap.size + 1) 67 #[.pointer (some ⟨w.heap.size, 0, none⟩)] := by
    have := Blk.new (w.alloc (.cells (mkA A) 70)) 67 #[.pointer (some ⟨w.heap.size, 0, none⟩)]
    rwa [World.size_alloc] at this
  exact ⟨⟨.slice none 0 0, .slice none 0 0, ⟨⟨(h.blk.alloc _).alloc _, (h.cells.alloc _).alloc _, (h.free.alloc _).alloc _, (h.roots.alloc _).alloc _, h.apart⟩, (Blk.new w _ _).alloc _, World.ownsRow_nil _ _ _ _, World.ownsRow_nil _ _ _ _, fun g hg => (h.free.lt g hg).2, fun g hg => (h.roots.lt g hg).2⟩⟩,
    ((Upd.refl w _).alloc _).alloc _, (KeepsOthers.alloc w _).trans (KeepsOthers.alloc _ _), kx, fun D hD => (List.not_mem_nil hD).elim, List.nodup_nil, fun g xs hb => (hb.alloc _).alloc _⟩
end
theorem DrI.next {w0 w1 W W6 : World} {A B M B1 bx : Nat} {cv fv rv wv6 pv6 : Value} {fr ro : List Int} {live : Int} {Ds : List Nat} {cs cs' : List Cell} {wk wk' : List Int} {pr pr' : List Nat} (h : DrI w0 w1 A B M B1 bx cv fv rv fr ro live Ds cs wk pr W) (hm6 : MkS W6 A B M B1 cv fv rv wv6 pv6 cs' fr ro live wk' pr')
    (hu6 : Upd w0 W6 (fun k => cv.ownBlock = some k ∨ B1 ≤ k)) (hk6 : KeepsOthers W W6) (hb6 : ∀ g xs, Blk W g 67 xs → Blk W6 g 67 xs) : DrI w0 w1 A B M B1 bx cv fv rv fr ro live Ds cs' wk' pr' W6 :=
  ⟨⟨_, _, hm6⟩, hu6, h.ko.trans hk6, hb6 _ _ h.box, fun D hD => ⟨(h.ds D hD).1, hk6.same _ _ (h.ds D hD).2 rfl⟩, h.nd, fun g xs hb => hb6 _ _ (h.kb g xs hb)⟩
/-- What a collection marks. -/
def startP (cs : List Cell) (ro : List Int) : List Cell × List Int := ro.foldl reachP (cs, [])
def firstP (toF : Nat → List Int) (cs : List Cell) (ro : List Int) : List Cell × List Nat := drainP toF (dfu (startP cs ro)) (startP cs ro).1 (startP cs ro).2 []
def markP (toF : Nat → List Int) (tab : Nat → List Pr) (cs : List Cell) (ro : List Int) : List Cell := (settleP toF tab ((firstP toF cs ro).1.length + 1) (firstP toF cs ro).1 (firstP toF cs ro).2).1
theorem markP_se (toF : Nat → List Int) (tab : Nat → List Pr) (cs : List Cell) (ro : List Int) : Se cs (markP toF tab cs ro) := by
  have hk : Mk (cs, []) (startP cs ro) := foldl_mk _ reachP_mk _ _
  have hd : Dr (startP cs ro).1 (startP cs ro).2 [] (firstP toF cs ro) := drainP_dr toF _ _ _ _ (hk.ok (fun r hr => (List.not_mem_nil hr).elim)) (Nat.le_refl _)
  have hs := settleP_se toF tab ((firstP toF cs ro).1.length + 1) (firstP toF cs ro).1 (firstP toF cs ro).2
  exact ⟨hs.len.trans (hd.len.trans hk.len), fun i => (hs.body i).trans ((hd.body i).trans (hk.body i)), fun h => hs.some (hd.some (hk.some h))⟩
/-- What may turn in a collection. -/
def colT (w : World) (A : Nat) (cv fv : Value) (cs : List Cell) (nd : Nat → Nod) (k : Nat) : Prop := k = A ∨ cv.ownBlock = some k ∨ fv.ownBlock = some k ∨ k ∈ bodies cs ∨ (∃ N ∈ bodies cs, (nd N).fv.ownBlock = some k) ∨ w.heap.size ≤ k
def dropped (csM : List Cell) (l : List Pr) : List Pr := l.filter fun x => !deadP csM x.1
/-- What Collect leaves: cv, fv, rv: the values of the arena's slices; csM: the cells with their marks; the numbers of those that are gone. -/
def CoP (w : World) (A B : Nat) (cv fv rv : Value) (cs : List Cell) (fr ro : List Int) (live : Int) (nd : Nat → Nod) (csM : List Cell) (e : Ending) (w' : World) : Prop :=
  ∃ vg fv' nd', e = .returned vg ∧ w'.ownsRow w.heap.size 3 1 vg (goneL 0 csM).length (numCells (goneL 0 csM)) ∧
    ArN w' A B cv fv' rv (swL csM) (fr ++ (goneL 0 csM).reverse) ro (live - (goneL 0 csM).length) nd' ∧ Upd w w' (colT w A cv fv cs nd) ∧ (∀ N ∈ bodies (swL csM), (nd' N).to_ = (nd N).to_ ∧ (nd' N).tab = dropped csM (nd N).tab ∧ (nd' N).fa.length = (nd N).fa.length ∧ (nd' N).fv = (nd N).fv ∧ (nd' N).tv = (nd N).tv)
/-- The second loop of Collect: ahead of cell i. -/
structure Lp (w W : World) (A B : Nat) (cv fv rv : Value) (cs csM : List Cell) (fr ro : List Int) (live : Int) (nd ndi : Nat → Nod) (i : Nat) : Prop where
  ar : Ar W A B cv fv rv csM fr ro live
  nodes : ∀ N ∈ bodies cs, NodR W B N (ndi N)
  upd : Upd w W (colT w A cv fv cs nd)
  same : ∀ N ∈ bodies cs, (ndi N).tv = (nd N).tv ∧ (ndi N).fv = (nd N).fv ∧ (ndi N).to_ = (nd N).to_ ∧ (ndi N).ends = (nd N).ends ∧ (ndi N).fa.length = (nd N).fa.length
  tabs : ∀ j N, csM.getD j (none, false) = (some N, true) → (ndi N).tab = if j < i then dropped csM (nd N).tab else (nd N).tab
end Go.Proofs.Ythcdhiknjpfmhaa
