/- The heap: sweep over bodies of any type. -/
import Derived.Test.YtmimnaaofpkndaaDoorHqD
import Derived.Stop.Asserts
import Derived.Laws.BytesArg
set_option linter.unusedVariables false
set_option linter.unusedSimpArgs false
namespace Go.Proofs.YtmimnaaofpkndaaDoor.Hp
open Go.RowKit Go.Proofs.YtmimnaaofpkndaaDoor Go.Shelf

/-- What sweeping leaves of a cell; the numbers of the cells that go. -/
def swC (c : Cell) : Cell := match c with
  | (some n, true) => (some n, false)
  | _ => (none, false)
def swL (l : List Cell) : List Cell := l.map swC
def goes (c : Cell) : Bool := match c with
  | (some _, false) => true
  | _ => false
/-- The places, from k on, of the cells that go. -/
def goneL : Nat → List Cell → List Int
  | _, [] => []
  | k, c :: l => if goes c then ((k + 1 : Nat) : Int) :: goneL (k + 1) l else goneL (k + 1) l
theorem goneL_snoc (k : Nat) (l : List Cell) (c : Cell) : goneL k (l ++ [c]) = goneL k l ++ (if goes c then [((k + l.length + 1 : Nat) : Int)] else []) := by
  induction l generalizing k with
  | nil => simp [goneL]
  | cons d l ih =>
    rw [List.cons_append, goneL, goneL, ih]
    rw [show k + 1 + l.length + 1 = k + (d :: l).length + 1 by simp; omega]
    split <;> simp
theorem goneL_le (k : Nat) (l : List Cell) : (goneL k l).length ≤ l.length := by
  induction l generalizing k with
  | nil => simp [goneL]
  | cons d l ih =>
    have := ih (k + 1)
    rw [goneL]
    split <;> simp <;> omega
theorem swL_snoc (l : List Cell) (c : Cell) : swL (l ++ [c]) = swL l ++ [swC c] := by simp [swL]
theorem mid_set (l : List Cell) (i : Nat) (hi : i < l.length) (c : Cell) (d : Cell) : (swL (l.take i) ++ l.drop i).set i d = swL (l.take i) ++ [d] ++ l.drop (i + 1) := by
  have hl : (swL (l.take i)).length = i := by simp [swL]; omega
  rw [List.set_append_right _ _ (by omega), hl, Nat.sub_self, List.drop_eq_getElem_cons hi, List.set_cons_zero]
  simp
theorem mid_get (l : List Cell) (i : Nat) (hi : i < l.length) : (swL (l.take i) ++ l.drop i).getD i (none, false) = l[i] := by
  have hl : (swL (l.take i)).length = i := by simp [swL]; omega
  rw [List.getD_eq_getElem?_getD, List.getElem?_append_right (by omega), hl, Nat.sub_self, List.getElem?_drop, Nat.add_zero, List.getElem?_eq_getElem hi]; rfl
theorem mid_len (l : List Cell) (i : Nat) (hi : i ≤ l.length) : (swL (l.take i) ++ l.drop i).length = l.length := by simp [swL]; omega
/-- The bodies' state, to a sweep: it abides, its blocks are none of the arena's. -/
structure SwOk (S : World → Prop) (O : Nat → Prop) (A : Nat) (cv fv rv : Value) (w : World) : Prop where
  keep : ∀ {W W' : World} {P : Nat → Prop}, S W → Upd W W' P → (∀ k, O k → ¬ P k) → S W'
  lt : ∀ k, O k → k < w.heap.size
  a : ¬ O A
  c : ∀ g, cv.ownBlock = some g → ¬ O g
  f : ∀ g, fv.ownBlock = some g → ¬ O g
  r : ∀ g, rv.ownBlock = some g → ¬ O g

/-- Behind i cells. -/
structure SwI (S : World → Prop) (w wr : World) (A B : Nat) (cv fv rv : Value) (cs : List Cell) (fr ro : List Int) (live : Int) (i : Nat) (vg : Value) : Prop where
  ar : Ar wr A B cv fv rv (swL (cs.take i) ++ cs.drop i) fr ro (live - (goneL 0 (cs.take i)).length)
  gone : wr.ownsRow w.heap.size 3 1 vg (goneL 0 (cs.take i)).length (numCells (goneL 0 (cs.take i)))
  s : S wr
  upd : Upd w wr (fun k => k = A ∨ cv.ownBlock = some k ∨ w.heap.size ≤ k)
theorem SwI.skip {S : World → Prop} {O : Nat → Prop} {w wr : World} {A B : Nat} {fv rv : Value} {cs : List Cell} {fr ro : List Int} {live : Int} {i n gc cap : Nat} {vg : Value} (hS : SwOk S O A (.slice (some ⟨gc, 0, none⟩) n cap) fv rv w) (hn : cs.length = n)
    (h : SwI S w wr A B (.slice (some ⟨gc, 0, none⟩) n cap) fv rv cs fr ro live i vg) (hi : i < cs.length) (hg : goes cs[i] = false) :
    SwI S w (wr.setCell ⟨gc, i * 2 + 1, none⟩ (.bool false)) A B (.slice (some ⟨gc, 0, none⟩) n cap) fv rv cs fr ro live (i + 1) vg := by
  have htk : cs.take (i + 1) = cs.take i ++ [cs[i]] := List.take_succ_eq_append_getElem hi
  have hml := mid_len cs i (Nat.le_of_lt hi)
  have hml2 := mid_len cs (i + 1) hi
  have hgo : goneL 0 (cs.take (i + 1)) = goneL 0 (cs.take i) := by rw [htk, goneL_snoc, hg]; simp
  have hcell := h.ar.cells
  have u := setc_upd wr gc (i * 2 + 1) (.bool false)
  have hgb : (Value.slice (some ⟨gc, 0, none⟩) n cap).ownBlock = some gc := rfl
  have hA : gc ≠ A := fun e => own_blk_ne hcell h.ar.blk (by decide) (by rw [hgb, e])
  have hcell' : wr.ownsRow B 106 2 (.slice (some ⟨gc, 0, none⟩) n cap) n (clCells (swL (cs.take i) ++ cs.drop i)) := by
    have h1 := h.ar.cells
    rw [hml, hn] at h1
    exact h1
  have hst := hcell'.stored (i * 2 + 1) (.bool false)
  have hnew : swL (cs.take i) ++ [(cs[i].1, false)] ++ cs.drop (i + 1) = swL (cs.take (i + 1)) ++ cs.drop (i + 1) := by
    rw [htk, swL_snoc]
    congr 2
    unfold swC
    revert hg
    cases cs[i] with
    | mk a b => cases a <;> cases b <;> simp [goes]
  refine ⟨⟨by rw [hgo]; exact u.blk h.ar.blk (fun e => hA e.symm), ?_, u.own h.ar.free (fun k hk e => ?_), u.own h.ar.roots (fun k hk e => ?_), h.ar.apart⟩, ?_, hS.keep h.s u (fun k hk e => hS.c gc rfl (e ▸ hk)), ?_⟩
  · rw [hml2, hn, ← hnew, ← mid_set cs i hi cs[i] (cs[i].1, false)]
    have := clCells_set_mark (swL (cs.take i) ++ cs.drop i) i false
    rw [mid_get cs i hi] at this
    rw [← this]
    exact hst.1
  · rcases own_ne h.ar.free h.ar.cells (by decide) with h1 | h1
    · rw [h1] at hk; cases hk
    · exact h1 (by rw [hk, hgb, e])
  · rcases own_ne h.ar.roots h.ar.cells (by decide) with h1 | h1
    · rw [h1] at hk; cases hk
    · exact h1 (by rw [hk, hgb, e])
  · rw [hgo]
    refine u.own h.gone (fun k hk e => ?_)
    rcases own_ne h.gone h.ar.cells (by decide) with h1 | h1
    · rw [h1] at hk; cases hk
    · exact h1 (by rw [hk, hgb, e])
  · exact (h.upd).set gc (i * 2 + 1) (.bool false) (.inr (.inl rfl))
/-- A cell that goes: what has turned by then. -/
theorem SwI.go {S : World → Prop} {O : Nat → Prop} {w wr w3 : World} {A B : Nat} {fv rv : Value} {cs : List Cell} {fr ro : List Int} {live : Int} {i n gc cap g3 cap3 : Nat} {N : Nat × Nat} {vg : Value} {o : Obj} (hS : SwOk S O A (.slice (some ⟨gc, 0, none⟩) n cap) fv rv w) (hn : cs.length = n)
    (h : SwI S w wr A B (.slice (some ⟨gc, 0, none⟩) n cap) fv rv cs fr ro live i vg) (hi : i < cs.length) (hc : cs[i] = (some N, false))
    (hfw : ∀ g, fv.ownBlock = some g → g < w.heap.size) (hrw : ∀ g, rv.ownBlock = some g → g < w.heap.size) (hgw : gc < w.heap.size) (hAw : A < w.heap.size)
    (hgrow : ((wr.setCell ⟨gc, i * 2, none⟩ .nilIface).alloc o).grownBy w3 vg.ownBlock)
    (hown : w3.ownsRow w.heap.size 3 1 (.slice (some ⟨g3, 0, none⟩) ((goneL 0 (cs.take i)).length + 1) cap3) ((goneL 0 (cs.take i)).length + 1) (numCells (goneL 0 (cs.take i)) ++ [.int .i64 ((i + 1 : Nat) : Int)])) :
    SwI S w ((w3.setCell ⟨A, 3, none⟩ (.int .i64 (live - ((goneL 0 (cs.take i)).length : Int) - 1))).setCell ⟨gc, i * 2 + 1, none⟩ (.bool false)) A B (.slice (some ⟨gc, 0, none⟩) n cap) fv rv cs fr ro live (i + 1) (.slice (some ⟨g3, 0, none⟩) ((goneL 0 (cs.take i)).length + 1) cap3) := by
  have htk : cs.take (i + 1) = cs.take i ++ [cs[i]] := List.take_succ_eq_append_getElem hi
  have hml := mid_len cs i (Nat.le_of_lt hi)
  have hml2 := mid_len cs (i + 1) hi
  have hgo : goneL 0 (cs.take (i + 1)) = goneL 0 (cs.take i) ++ [((i + 1 : Nat) : Int)] := by
    rw [htk, goneL_snoc, hc, List.length_take, Nat.min_eq_left (Nat.le_of_lt hi)]
    simp [goes]
  have hgb : (Value.slice (some ⟨gc, 0, none⟩) n cap).ownBlock = some gc := rfl
  have hAg : A ≠ gc := fun e => own_blk_ne h.ar.cells h.ar.blk (by decide) (by rw [hgb, e])
  have hvA : vg.ownBlock ≠ some A := own_blk_ne h.gone h.ar.blk (by decide)
  have hvg : vg.ownBlock ≠ some gc := by
    rcases own_ne h.gone h.ar.cells (by decide) with h1 | h1
    · rw [h1]; simp
    · rwa [hgb] at h1
  have hvlt : ∀ k, vg.ownBlock = some k → w.heap.size ≤ k := fun k hk => (h.gone.lt k hk).1
  have u2 : Upd wr (wr.setCell ⟨gc, i * 2, none⟩ .nilIface) (fun k => k = gc) := setc_upd _ _ _ _
  have hcell' : wr.ownsRow B 106 2 (.slice (some ⟨gc, 0, none⟩) n cap) n (clCells (swL (cs.take i) ++ cs.drop i)) := by
    have h1 := h.ar.cells
    rw [hml, hn] at h1
    exact h1
  have hst := hcell'.stored (i * 2) .nilIface
  generalize hW2 : wr.setCell ⟨gc, i * 2, none⟩ .nilIface = W2 at *
  have u3 : Upd W2 w3 (fun k => vg.ownBlock = some k) := ((Upd.refl W2 _).alloc o).grown hgrow (fun k e => e)
  have u4 : Upd w3 (w3.setCell ⟨A, 3, none⟩ (.int .i64 (live - ((goneL 0 (cs.take i)).length : Int) - 1))) (fun k => k = A) := setc_upd _ _ _ _
  have hA3 : Blk w3 A 100 #[.slice (some ⟨gc, 0, none⟩) n cap, fv, rv, .int .i64 (live - (goneL 0 (cs.take i)).length)] := u3.blk (u2.blk h.ar.blk hAg) hvA
  have hA4 : Blk (w3.setCell ⟨A, 3, none⟩ (.int .i64 (live - ((goneL 0 (cs.take i)).length : Int) - 1))) A 100 #[.slice (some ⟨gc, 0, none⟩) n cap, fv, rv, .int .i64 (live - ((goneL 0 (cs.take i)).length : Int) - 1)] := hA3.set_ 3 _
  generalize hW4 : w3.setCell ⟨A, 3, none⟩ (.int .i64 (live - ((goneL 0 (cs.take i)).length : Int) - 1)) = W4 at *
  have u5 : Upd W4 (W4.setCell ⟨gc, i * 2 + 1, none⟩ (.bool false)) (fun k => k = gc) := setc_upd _ _ _ _
  have hcell4 := u4.own (u3.own hst.1 (fun k hk e => hvg (by rw [hgb] at hk; cases hk; exact e))) (fun k hk e => hAg (by rw [hgb] at hk; cases hk; exact e.symm))
  have hst5 := hcell4.stored (i * 2 + 1) (.bool false)
  have U : Upd wr (W4.setCell ⟨gc, i * 2 + 1, none⟩ (.bool false)) (fun k => k = gc ∨ vg.ownBlock = some k ∨ k = A) :=
    (((u2.mono fun k _ e => .inl e).trans (u3.mono fun k _ e => .inr (.inl e))).trans (u4.mono fun k _ e => .inr (.inr e))).trans (u5.mono fun k _ e => .inl e)
  have keepRow : ∀ {v : Value} {m : Nat} {xs : List Value}, wr.ownsRow B 3 1 v m xs → (∀ g, v.ownBlock = some g → g < w.heap.size) → (W4.setCell ⟨gc, i * 2 + 1, none⟩ (.bool false)).ownsRow B 3 1 v m xs := by
    intro v m xs hv hlt
    refine U.own hv (fun k hk e => ?_)
    rcases e with rfl | e | rfl
    · rcases own_ne hv h.ar.cells (by decide) with h1 | h1
      · rw [h1] at hk; cases hk
      · exact h1 (by rw [hk, hgb])
    · have := hvlt k e
      have := hlt k hk
      omega
    · exact own_blk_ne hv h.ar.blk (by decide) hk
  have hg3 : g3 ≠ A ∧ g3 ≠ gc := by
    constructor
    · rintro rfl
      obtain ⟨c1, f1, h1⟩ := own_kind hown g3 rfl
      rw [show w3.heap[g3]? = _ from hA3] at h1
      simp at h1
    · rintro rfl
      have h1 := u3.own hst.1 (fun k hk e => hvg (by rw [hgb] at hk; cases hk; exact e))
      rcases own_ne hown h1 (by decide) with h2 | h2
      · simp [Value.ownBlock] at h2
      · exact h2 rfl
  refine ⟨⟨?_, ?_, keepRow h.ar.free hfw, keepRow h.ar.roots hrw, h.ar.apart⟩, ?_, hS.keep h.s U (fun k hk e => ?_), ?_⟩
  · rw [hgo, List.length_append]
    have := u5.blk hA4 hAg
    rw [show live - (((goneL 0 (cs.take i)).length + [((i + 1 : Nat) : Int)].length : Nat) : Int) = live - ((goneL 0 (cs.take i)).length : Int) - 1 by simp; omega]
    exact this
  · rw [hml2, hn]
    have e1 : ((clCells (swL (cs.take i) ++ cs.drop i)).set (i * 2) .nilIface).set (i * 2 + 1) (.bool false) = clCells (swL (cs.take (i + 1)) ++ cs.drop (i + 1)) := by
      have := clCells_set (swL (cs.take i) ++ cs.drop i) i (none, false)
      rw [mid_set cs i hi cs[i]] at this
      rw [htk, swL_snoc, hc]
      exact this
    rw [← e1]
    exact hst5.1
  · rw [hgo, numCells_append, List.length_append]
    refine u5.own (u4.own hown (fun k hk e => ?_)) (fun k hk e => ?_)
    · have hk' : some g3 = some k := hk
      exact hg3.1 (by cases hk'; exact e)
    · have hk' : some g3 = some k := hk
      exact hg3.2 (by cases hk'; exact e)
  · rcases e with rfl | e | rfl
    · exact hS.c _ rfl hk
    · have := hvlt k e
      have := hS.lt k hk
      omega
    · exact hS.a hk
  · refine h.upd.trans (U.mono fun k _ e => ?_)
    rcases e with rfl | e | rfl
    · exact .inr (.inl rfl)
    · exact .inr (.inr (hvlt k e))
    · exact .inl rfl
/-- Behind j of the cells that go, laid among the free ones. -/
structure SwJ (S : World → Prop) (w wr : World) (A B : Nat) (cv fv rv vg : Value) (cs : List Cell) (fr ro : List Int) (live : Int) (j : Nat) (fv' : Value) : Prop where
  ar : Ar wr A B cv fv' rv (swL cs) (fr ++ (goneL 0 cs).reverse.take j) ro (live - (goneL 0 cs).length)
  gone : wr.ownsRow w.heap.size 3 1 vg (goneL 0 cs).length (numCells (goneL 0 cs))
  s : S wr
  upd : Upd w wr (fun k => k = A ∨ cv.ownBlock = some k ∨ fv.ownBlock = some k ∨ w.heap.size ≤ k)
  new : ∀ g, fv'.ownBlock = some g → fv.ownBlock = some g ∨ w.heap.size ≤ g
  far : ∀ g, vg.ownBlock = some g → fv'.ownBlock ≠ some g
theorem rev_take (G : List Int) (j : Nat) (hj : j < G.length) : G.reverse.take (j + 1) = G.reverse.take j ++ [G.getD (G.length - 1 - j) 0] := by
  have h : j < G.reverse.length := by rw [List.length_reverse]; exact hj
  rw [List.take_succ_eq_append_getElem h, List.getElem_reverse, List.getD_eq_getElem?_getD, List.getElem?_eq_getElem (by omega)]; rfl
theorem SwJ.mid {S : World → Prop} {w wr w1 : World} {A B : Nat} {cv fv rv vg : Value} {cs : List Cell} {fr ro : List Int} {live : Int} {j : Nat} {fv' : Value} {o : Obj} (h : SwJ S w wr A B cv fv rv vg cs fr ro live j fv') (hg : ((wr.alloc o).drew).grownBy w1 fv'.ownBlock) :
    Blk w1 A 100 #[cv, fv', rv, .int .i64 (live - (goneL 0 cs).length)] := Blk.grown ((h.ar.blk.alloc o).drew) hg (fun e => own_blk_ne h.ar.free h.ar.blk (by decide) e.symm)
theorem SwJ.step {S : World → Prop} {O : Nat → Prop} {w wr w1 : World} {A B : Nat} {cv fv rv vg : Value} {cs : List Cell} {fr ro : List Int} {live : Int} {j nf gq capq : Nat} {fv' : Value} {o : Obj} (hS : SwOk S O A cv fv rv w) (h : SwJ S w wr A B cv fv rv vg cs fr ro live j fv') (hj : j < (goneL 0 cs).length)
    (hnf : (fr ++ (goneL 0 cs).reverse.take j).length = nf) (hg : ((wr.alloc o).drew).grownBy w1 fv'.ownBlock)
    (hown : w1.ownsRow B 3 1 (.slice (some ⟨gq, 0, none⟩) (nf + 1) capq) (nf + 1) (numCells (fr ++ (goneL 0 cs).reverse.take j) ++ [.int .i64 ((goneL 0 cs).getD ((goneL 0 cs).length - 1 - j) 0)]))
    (hat : fv'.ownBlock = some gq ∨ gq = wr.heap.size + 1) :
    SwJ S w (w1.setCell ⟨A, 1, none⟩ (.slice (some ⟨gq, 0, none⟩) (nf + 1) capq)) A B cv fv rv vg cs fr ro live (j + 1) (.slice (some ⟨gq, 0, none⟩) (nf + 1) capq) := by
  have hA := h.mid hg
  have hA2 : Blk (w1.setCell ⟨A, 1, none⟩ (.slice (some ⟨gq, 0, none⟩) (nf + 1) capq)) A 100 #[cv, .slice (some ⟨gq, 0, none⟩) (nf + 1) capq, rv, .int .i64 (live - (goneL 0 cs).length)] := hA.set_ 1 _
  have u : Upd wr (w1.setCell ⟨A, 1, none⟩ (.slice (some ⟨gq, 0, none⟩) (nf + 1) capq)) (fun k => fv'.ownBlock = some k ∨ k = A) := (((Upd.refl wr _).alloc o).drew.grown hg (fun k e => .inl e)).set A 1 _ (.inr rfl)
  have hsz := h.upd.size
  have keep : ∀ {e size m : Nat} {b : Nat} {v : Value} {xs : List Value}, wr.ownsRow b e size v m xs → e ≠ 100 → (v.ownBlock = none ∨ v.ownBlock ≠ fv'.ownBlock) → (w1.setCell ⟨A, 1, none⟩ (.slice (some ⟨gq, 0, none⟩) (nf + 1) capq)).ownsRow b e size v m xs := by
    intro e size m b v xs hv he hne
    refine u.own hv (fun k hk e2 => ?_)
    rcases e2 with e2 | rfl
    · rcases hne with h1 | h1
      · rw [h1] at hk; cases hk
      · exact h1 (by rw [hk, e2])
    · exact own_blk_ne hv h.ar.blk he hk
  have hlen : (fr ++ (goneL 0 cs).reverse.take (j + 1)).length = nf + 1 := by
    rw [rev_take _ _ hj, ← List.append_assoc, List.length_append, hnf]; rfl
  have hrv : rv.ownBlock = none ∨ rv.ownBlock ≠ fv'.ownBlock := by
    cases hr : rv.ownBlock with
    | none => exact .inl rfl
    | some g => exact .inr fun e => h.ar.apart g e.symm hr
  have hvg : vg.ownBlock = none ∨ vg.ownBlock ≠ fv'.ownBlock := by
    cases hr : vg.ownBlock with
    | none => exact .inl rfl
    | some g => exact .inr fun e => h.far g hr e.symm
  refine ⟨⟨hA2, keep h.ar.cells (by decide) (own_ne h.ar.cells h.ar.free (by decide)), ?_, keep h.ar.roots (by decide) hrv, ?_⟩, keep h.gone (by decide) hvg, hS.keep h.s u (fun k hk e => ?_), ?_, ?_, ?_⟩
  · rw [hlen]
    have := own_set hown hA (by decide) 1 (.slice (some ⟨gq, 0, none⟩) (nf + 1) capq)
    rw [rev_take _ _ hj, ← List.append_assoc, numCells_append]
    exact this
  · intro g hg1 hr
    have hg2 : some gq = some g := hg1
    cases hg2
    rcases hat with h1 | h1
    · exact h.ar.apart gq h1 hr
    · have := (h.ar.roots.lt gq hr).2; omega
  · rcases e with e | rfl
    · rcases h.new k e with h1 | h1
      · exact hS.f k h1 hk
      · have := hS.lt k hk; omega
    · exact hS.a hk
  · refine h.upd.trans (u.mono fun k _ e => ?_)
    rcases e with e | rfl
    · rcases h.new k e with h1 | h1
      · exact .inr (.inr (.inl h1))
      · exact .inr (.inr (.inr h1))
    · exact .inl rfl
  · intro g hg1
    have hg2 : some gq = some g := hg1
    cases hg2
    rcases hat with h1 | h1
    · exact h.new gq h1
    · exact .inr (by omega)
  · intro g hg1 hf
    have hf2 : some gq = some g := hf
    cases hf2
    rcases hat with h1 | h1
    · exact h.far gq hg1 h1
    · have := (h.gone.lt gq hg1).2; omega
theorem swI_start {S : World → Prop} {w : World} {A B : Nat} {cv fv rv : Value} {cs : List Cell} {fr ro : List Int} {live : Int} (h : Ar w A B cv fv rv cs fr ro live) (hS : S w) : SwI S w w A B cv fv rv cs fr ro live 0 (.slice none 0 0) :=
  ⟨by simpa [swL, goneL] using h, World.ownsRow_nil _ _ _ _, hS, Upd.refl _ _⟩
theorem goner_of (N : Nat × Nat) (h : N.1 = tObj ∨ N.1 = tEnv ∨ N.1 = tMark) (v : Value) (w : World) : (Instr.typeAssert (.iface N.1 v) 90 144 true).run Tryd.prog w = .ok (.tuple #[if N.1 = tObj then .iface N.1 v else .nilIface, .bool (decide (N.1 = tObj))]) w := by
  obtain ⟨t, b⟩ := N
  dsimp only at h ⊢
  rcases h with rfl | rfl | rfl
  · exact isGoner_obj v w
  · exact noGoner_env v w
  · exact noGoner_mark v w
theorem methodGone (t : Nat) (ht : t = tObj) (p : Nat) (a : Addr) (w : World) : (method (p + 1) t (.pointer (some a)) "Gone").run Tryd.prog w = .ok (122, .pointer (some a)) w := by subst ht; kernel_rfl
/-- What sweep leaves. -/
def SwP (S : World → Prop) (w : World) (A B : Nat) (cv fv rv : Value) (cs : List Cell) (fr ro : List Int) (live : Int) (e : Ending) (w' : World) : Prop :=
  ∃ vg fv', e = .returned vg ∧ w'.ownsRow w.heap.size 3 1 vg (goneL 0 cs).length (numCells (goneL 0 cs)) ∧
    Ar w' A B cv fv' rv (swL cs) (fr ++ (goneL 0 cs).reverse) ro (live - (goneL 0 cs).length) ∧ S w' ∧
    Upd w w' (fun k => k = A ∨ cv.ownBlock = some k ∨ fv.ownBlock = some k ∨ w.heap.size ≤ k) ∧ (∀ g, fv'.ownBlock = some g → fv.ownBlock = some g ∨ w.heap.size ≤ g) ∧ (∀ g, vg.ownBlock = some g → fv'.ownBlock ≠ some g ∧ w.heap.size ≤ g)

set_option maxHeartbeats 4000000 in
set_option maxRecDepth 100000 in
theorem sweep_g {S : World → Prop} {O : Nat → Prop} {w : World} {A B : Nat} {cv fv rv : Value} {cs : List Cell} {fr ro : List Int} {live : Int} (h : Ar w A B cv fv rv cs fr ro live) (hS : S w) (hK : SwOk S O A cv fv rv w)
    (hN : ∀ N ∈ bodies cs, (N.1 = tObj ∨ N.1 = tEnv ∨ N.1 = tMark) ∧ (N.1 = tObj → ∀ W, S W → Calls Tryd.prog 122 #[.pointer (some ⟨N.2, 0, none⟩)] W fun e W' => (∃ v, e = .returned v) ∧ W' = W))
    (hl : cs.length ≤ 1000000) (hfl : fr.length ≤ 1000000) (hlv : 0 ≤ live ∧ live ≤ 1000000000) (hB : B ≤ w.heap.size) :
    Calls Tryd.prog 51 #[.pointer (some ⟨A, 0, none⟩)] w (SwP S w A B cv fv rv cs fr ro live) := by
  obtain ⟨i0, hi, hz0, hz1, hz2⟩ := info_parts infoInt
  have hst := swI_start h hS
  have hfw : ∀ g, fv.ownBlock = some g → g < w.heap.size := fun g hg => (h.free.lt g hg).2
  have hrw : ∀ g, rv.ownBlock = some g → g < w.heap.size := fun g hg => (h.roots.lt g hg).2
  have hcw : ∀ g, cv.ownBlock = some g → g < w.heap.size := fun g hg => (h.cells.lt g hg).2
  have hAw := h.blk.lt
  obtain ⟨ca, ccap, rfl, hca⟩ := own_shape h.cells
  have x0 : w.cell? ⟨A, 0, none⟩ = some (.slice ca cs.length ccap) := by rw [h.blk.cell]; rfl
  obtain ⟨n, hn⟩ : ∃ n, cs.length = n := ⟨_, rfl⟩
  rw [hn] at x0 hl hst hca hcw hK ⊢
  have HH := Lib.hid h
  have HN := Lib.hid hn
  have HK := Lib.hid hK
  have HW := Lib.hid (And.intro hfw (And.intro hrw (And.intro hAw (And.intro hcw hN))))
  clear h hN hfw hrw hn hcw hK hS
  go_enter Tryd.func51, Tryd.ntmps51
  go_wp2_with fail
  go_loopw [3, 14] (fun vg vi wr => ∃ i : Nat, i ≤ n ∧ vi = .int .i64 i ∧ SwI S w wr A B (.slice ca n ccap) fv rv cs fr ro live i vg) (fun _ vi _ => n - (intOf vi).toNat)
  case atStart => exact ⟨0, by omega, rfl, hst⟩
  case round =>
    obtain ⟨i, hin, rfl, hI⟩ := hrel
    by_cases hlt : i < n
    · have L1 : decide ((i : Int) < (n : Int)) = true := by simp; omega
      obtain ⟨gc, rfl⟩ := hca (by omega)
      have hiL : i < cs.length := by rw [HN.out]; exact hlt
      have y0 : (0 : Int) ≤ i := by omega
      have y1 : (i : Int) < n := by omega
      have y2 : (i : Int).toNat = i := by omega
      have a1 : IntKind.i64.wrap ((i : Int) + 1) = ((i + 1 : Nat) : Int) := by rw [IntWalk.i64_in _ (by omega)]; rfl
      have hml := mid_len cs i (Nat.le_of_lt hiL)
      have hcell' : wr.ownsRow B 106 2 (.slice (some ⟨gc, 0, none⟩) n ccap) n (clCells (swL (cs.take i) ++ cs.drop i)) := by
        have h1 := hI.ar.cells
        rw [hml, HN.out] at h1
        exact h1
      have hg := clCells_get (swL (cs.take i) ++ cs.drop i) i (by rw [hml]; exact hiL)
      rw [mid_get cs i hiL] at hg
      have c0 := (hcell'.cellAt (i * 2) (by omega)).trans hg.1
      have c1 := (hcell'.cellAt (i * 2 + 1) (by omega)).trans hg.2
      have fz0 := hcell'.frozenAt (i * 2)
      have fz1 := hcell'.frozenAt (i * 2 + 1)
      have xa : wr.cell? ⟨A, 0, none⟩ = some (.slice (some ⟨gc, 0, none⟩) n ccap) := by rw [hI.ar.blk.cell]; rfl
      have hgl := (hcell'.lt gc rfl).2
      have HI := Lib.hid hI
      obtain ⟨c, hc⟩ : ∃ c, cs[i] = c := ⟨_, rfl⟩
      rw [hc] at c0 c1
      have HC := Lib.hid hc
      obtain ⟨ob, mk⟩ := c
      simp only at c0 c1
      clear hg hcell' hml hI hc
      by_cases hgo : goes (ob, mk) = false
      · have hsk := SwI.skip HK.out HN.out HI.out hiL (by rw [HC.out]; exact hgo)
        have HSK := Lib.hid hsk
        clear hsk
        cases ob with
        | none =>
          simp only [bodyV] at c0
          go_wp2
          go_roundw
          case rel => exact ⟨i + 1, by omega, by first | rfl | rw [Int.natCast_add], HSK.out⟩
          case measure => simp only [intOf]; omega
        | some N =>
          cases mk with
          | false => simp [goes] at hgo
          | true =>
            simp only [bodyV] at c0
            go_wp2
            go_roundw
            case rel => exact ⟨i + 1, by omega, by first | rfl | rw [Int.natCast_add], HSK.out⟩
            case measure => simp only [intOf]; omega
      · obtain ⟨N, rfl, rfl⟩ : ∃ N, ob = some N ∧ mk = false := by
          cases ob <;> cases mk <;> simp [goes] at hgo ⊢
        simp only [bodyV] at c0
        have hNb : N ∈ bodies cs := by
          unfold bodies
          rw [List.mem_filterMap]
          exact ⟨cs[i], List.getElem_mem _, by rw [HC.out]⟩
        obtain ⟨hNt, hNg⟩ := HW.out.2.2.2.2 N hNb
        have HGC := Lib.hid (fun ht => hNg ht wr HI.out.s)
        clear hNg
        have hgn := goner_of N hNt
        clear hNt
        obtain ⟨m, hm⟩ : ∃ m, (goneL 0 (cs.take i)).length = m := ⟨_, rfl⟩
        have hmi : m ≤ i := by rw [← hm]; exact Nat.le_trans (goneL_le _ _) (List.length_take_le _ _)
        have hA := HI.out.ar.blk
        rw [hm] at hA
        have hAg : A ≠ gc := fun e => own_blk_ne HI.out.ar.cells hA (by decide) (by rw [← e]; rfl)
        have hcell1 : wr.ownsRow B 106 2 (.slice (some ⟨gc, 0, none⟩) n ccap) (swL (cs.take i) ++ cs.drop i).length (clCells (swL (cs.take i) ++ cs.drop i)) := HI.out.ar.cells
        have hgone1 := HI.out.gone
        have u2 := setc_upd wr gc (i * 2) .nilIface
        have hA2 := u2.blk hA hAg
        have hgone2 := u2.own hgone1 (fun k hk e => by
          rcases own_ne hgone1 hcell1 (by decide) with h1 | h1
          · rw [h1] at hk; cases hk
          · exact h1 (by rw [hk, e]; rfl))
        have hcs2 := (show wr.ownsRow B 106 2 (.slice (some ⟨gc, 0, none⟩) n ccap) n (clCells (swL (cs.take i) ++ cs.drop i)) by
          have h1 := hcell1
          rw [mid_len cs i (Nat.le_of_lt hiL), HN.out] at h1
          exact h1).stored (i * 2) .nilIface
        have hq1 : ((clCells (swL (cs.take i) ++ cs.drop i)).set (i * 2) Value.nilIface)[i * 2 + 1]? = some (.bool false) := by
          rw [List.getElem?_set_ne (by omega)]
          have hg := clCells_get (swL (cs.take i) ++ cs.drop i) i (by rw [mid_len cs i (Nat.le_of_lt hiL)]; exact hiL)
          rw [mid_get cs i hiL, HC.out] at hg
          exact hg.2
        have HQ := Lib.hid hq1
        have HS2 := Lib.hid hcs2.1
        have HG2 := Lib.hid hgone2
        clear hcs2 hq1
        have HM := Lib.hid hm
        rw [hm] at hgone2
        have hsz := HI.out.upd.size
        have hsz2 : w.heap.size ≤ (wr.setCell ⟨gc, i * 2, none⟩ .nilIface).heap.size := Nat.le_trans hsz u2.size
        clear hm hgone1 hcell1
        have hnews := World.news_of_block (cs := #[.int .i64 ((i : Int) + 1)]) (t := 3) (fr := (0, 0)) (heap_alloc_new (wr.setCell ⟨gc, i * 2, none⟩ .nilIface) (.cells #[.int .i64 ((i : Int) + 1)] 3))
        have hsz3 : (wr.setCell ⟨gc, i * 2, none⟩ .nilIface).heap.size = wr.heap.size := by simp
        rw [hsz3] at hnews
        have hor : ((∀ (v : Value) (w : World), (Instr.typeAssert (.iface N.1 v) 90 144 true).run Tryd.prog w = .ok (.tuple #[.iface N.1 v, .bool true]) w) ∧ (∀ (p : Nat) (a : Addr) (w : World), (method (p + 1) N.1 (.pointer (some a)) "Gone").run Tryd.prog w = .ok (122, .pointer (some a)) w) ∧ Hid (N.1 = tObj)) ∨
            ((∀ (v : Value) (w : World), (Instr.typeAssert (.iface N.1 v) 90 144 true).run Tryd.prog w = .ok (.tuple #[.nilIface, .bool false]) w) ∧ True ∧ True) := by
          by_cases ht : N.1 = tObj
          · exact .inl ⟨fun v w => by rw [hgn, if_pos ht, decide_eq_true ht], methodGone _ ht, Lib.hid ht⟩
          · exact .inr ⟨fun v w => by rw [hgn, if_neg ht, decide_eq_false ht], trivial, trivial⟩
        clear hgn
        rcases hor with ⟨hGo, hMe, hto⟩ | ⟨hGo, hMe, hto⟩
        all_goals
          go_wp2_with (first
            | (go_at_call 122; refine (HGC.out hto.out).mono ?_; rintro e w' ⟨⟨v, rfl⟩, rfl⟩)
            | (at_builtin; refine wpList_append_lies _ rfl _ _ 22 rfl w.heap.size 3 i0 (.int .i64 0) 1 8 Tryd.underlying22 hi hz0 hz1 hz2 rfl (by decide) _ _ _ rfl (hgone2.alloc _) ⟨_, 0, none⟩ 1 1 [.int .i64 ((i : Int) + 1)] rfl rfl hnews (by simp [Value.oneCell']) (by decide) (by unfold maxLen; omega) (by omega) (by simp; omega) _ rfl ?_))
          intro g3 cap3 w3 hown3 hgrow3 hat3 hlt3
          have hA3 := Blk.grown (hA2.alloc _) hgrow3 (fun e => own_blk_ne hgone2 hA2 (by decide) e.symm)
          have hcs3 := (HS2.out.alloc (.cells #[.int .i64 ((i : Int) + 1)] 3)).kept hgrow3 (own_ne HS2.out HG2.out (by decide))
          have hcs4 := own_set hcs3 hA3 (by decide) 3 (.int .i64 (live - (m : Int) - 1))
          have x3 : w3.cell? ⟨A, 3, none⟩ = some (.int .i64 (live - (m : Int))) := by rw [hA3.cell]; rfl
          have z3 := hA3.frozen 3
          have hAl := hA3.lt
          have hlv2 := hlv
          have wl : IntKind.i64.wrap (live - (m : Int) - 1) = live - (m : Int) - 1 := IntWalk.i64_in _ (by omega)
          have d1 := (hcs4.cellAt (i * 2 + 1) (by omega)).trans HQ.out
          have fd1 := hcs4.frozenAt (i * 2 + 1)
          have hgl4 := (hcs4.lt gc rfl).2
          have hgo := SwI.go (N := N) (o := .cells #[.int .i64 ((i : Int) + 1)] 3) HK.out HN.out HI.out hiL HC.out HW.out.1 HW.out.2.1 (HW.out.2.2.2.1 gc rfl) HW.out.2.2.1 hgrow3 (by rw [HM.out]; exact hown3)
          rw [HM.out] at hgo
          have HG := Lib.hid hgo
          clear hgo hcs3 hcs4 hA3 hA2 hgrow3 hown3 hat3 hlt3 hgone2 hnews c0 c1 fz0 fz1 xa hGo hMe hsz hsz2 hsz3
          go_wp2
          go_roundw
          case rel => exact ⟨i + 1, by omega, by first | rfl | rw [Int.natCast_add], HG.out⟩
          case measure => simp only [intOf]; omega
    · obtain rfl : i = n := by omega
      have L1 : decide ((i : Int) < (i : Int)) = false := by simp
      rw [show (i : Nat) = cs.length from HN.out.symm] at hI
      have hJ0 : SwJ S w wr A B (.slice ca cs.length ccap) fv rv u3 cs fr ro live 0 fv := by
        obtain ⟨h1, h2, h3, h4⟩ := hI
        rw [List.take_length] at h1 h2
        rw [List.drop_length, List.append_nil] at h1
        exact ⟨by rw [List.take_zero, List.append_nil]; exact h1, h2, h3, h4.mono fun k _ e => by
          rcases e with e | e | e
          · exact .inl e
          · exact .inr (.inl e)
          · exact .inr (.inr (.inr e)), fun g hg => .inl hg, fun g hg e => by have := (h2.lt g hg).1; have := HW.out.1 g e; omega⟩
      obtain ⟨ga, gcap, rfl, hga⟩ := own_shape hJ0.gone
      obtain ⟨m, hm⟩ : ∃ m, (goneL 0 cs).length = m := ⟨_, rfl⟩
      have hmn := goneL_le 0 cs
      have hnn := HN.out
      have HJ := Lib.hid hJ0
      have HM := Lib.hid hm
      rw [hm] at hga hmn ⊢
      have w1 : IntKind.i64.wrap ((m : Int) - 1) = (m : Int) - 1 := IntWalk.i64_in _ (by omega)
      clear hI hJ0 hm hst hca
      obtain ⟨wA, hwA⟩ : ∃ x, x = wr := ⟨_, rfl⟩
      subst hwA
      go_wp2_with fail
      go_loopw [8] (fun vi wr => ∃ (j : Nat) (fv' : Value), j ≤ m ∧ vi = .int .i64 ((m : Int) - 1 - j) ∧ SwJ S w wr A B (.slice ca cs.length ccap) fv rv (.slice ga (goneL 0 cs).length gcap) cs fr ro live j fv') (fun vi _ => (intOf vi + 1).toNat)
      case atStart => exact ⟨0, fv, by omega, by simp, HJ.out⟩
      case round =>
        obtain ⟨j, fv', hjm, rfl, hJ⟩ := hrel
        by_cases hlt2 : j < m
        · have L2 : decide ((0 : Int) ≤ (m : Int) - 1 - (j : Int)) = true := by simp; omega
          obtain ⟨gg, rfl⟩ := hga (by omega)
          obtain ⟨fa, fcap, rfl, _⟩ := own_shape hJ.ar.free
          obtain ⟨nf, hnf⟩ : ∃ nf, (fr ++ (goneL 0 cs).reverse.take j).length = nf := ⟨_, rfl⟩
          have hnfb : nf ≤ 2000000 := by
            rw [← hnf, List.length_append]
            have := List.length_take_le j (goneL 0 cs).reverse
            omega
          have hfree := hJ.ar.free
          have x1 : wr.cell? ⟨A, 1, none⟩ = some (.slice fa (fr ++ (goneL 0 cs).reverse.take j).length fcap) := by rw [hJ.ar.blk.cell]; rfl
          rw [hnf] at x1 hfree
          have z1 := hJ.ar.blk.frozen 1
          have hAl := hJ.ar.blk.lt
          obtain ⟨idx, hidx⟩ : ∃ k : Nat, m - 1 - j = k := ⟨_, rfl⟩
          have e1 : (m : Int) - 1 - (j : Int) = (idx : Int) := by omega
          obtain ⟨gv, hgv⟩ : ∃ gv, (goneL 0 cs).getD idx 0 = gv := ⟨_, rfl⟩
          have gc1 : wr.cell? ⟨gg, idx, none⟩ = some (.int .i64 gv) := by
            rw [hJ.gone.cellAt idx (by rw [HM.out]; omega), numCells_get _ _ (by rw [HM.out]; omega), hgv]
          have hggA : gg ≠ A := fun e => own_blk_ne hJ.gone hJ.ar.blk (by decide) (by rw [← e]; rfl)
          have y0 : (0 : Int) ≤ (idx : Int) := by omega
          have y1 : (idx : Int) < (m : Int) := by omega
          have y2 : ((idx : Int)).toNat = idx := by omega
          have w2 : IntKind.i64.wrap ((idx : Int) - 1) = (idx : Int) - 1 := IntWalk.i64_in _ (by omega)
          have hsz := hJ.upd.size
          rw [HM.out, e1]
          rw [e1] at L2
          have HJ2 := Lib.hid (And.intro hJ hnf)
          have HF2 := Lib.hid hfree
          clear hJ hnf
          go_upto_region 18 with fail
          go_region_law ((refine step_append_lies _ (by rfl) _ _ _ (by rfl) B 3 i0 _ 1 8 Tryd.underlying22 hi hz0 hz1 hz2 rfl (by omega) (.slice fa nf fcap) nf (numCells (fr ++ (goneL 0 cs).reverse.take j)) (by rfl) ((HF2.out.alloc _).drew) ⟨wr.heap.size, 0, none⟩ 1 1 [.int .i64 gv] (by rfl) (by rfl) (World.news_of_block (cs := #[.int .i64 gv]) (t := 3) (fr := (0, 0)) (heap_alloc_new wr _)) (by simp [Value.oneCell']) (by omega) (by unfold maxLen; omega) (by omega) (by simp; omega) (wr.heap.size + 1) (by simp) ?_; intro gq capq w1 hown1 hgrow hat hlt; have hA1 := HJ2.out.1.mid (by rw [HJ2.out.2]; exact hgrow); have d1 : w1.cell? ⟨A, 1, none⟩ = some (.slice fa nf fcap) := (by rw [hA1.cell]; simp [HJ2.out.2]); have e1 := hA1.frozen 1; have f1 := hA1.lt))
          all_goals
            have hst := SwJ.step (o := .cells #[.int .i64 gv] 3) (by rw [HN.out]; exact HK.out) HJ2.out.1 (by rw [HM.out]; exact hlt2) HJ2.out.2 (by rw [HJ2.out.2]; exact hgrow) (by rw [HM.out, hidx, hgv]; exact hown1) (by rw [HJ2.out.2]; exact hat)
            have HS := Lib.hid hst
            clear hst hown1 hgrow hat hlt hA1 d1 e1 f1 x1 z1 gc1
            go_wp2
            go_roundw
            case rel =>
              refine ⟨j + 1, .slice (some ⟨gq, 0, none⟩) (nf + 1) capq, by omega, by congr 1; omega, ?_⟩
              have hh := HS.out
              rw [HM.out] at hh
              exact hh
            case measure => simp only [intOf]; omega
        · obtain rfl : j = m := by omega
          have L2 : decide ((0 : Int) ≤ (j : Int) - 1 - (j : Int)) = false := by rw [decide_eq_false_iff_not]; omega
          have HJ2 := Lib.hid hJ
          clear hJ
          go_wp2
          have hJ := HJ2.out
          have hlen : (goneL 0 cs).length = j := HM.out
          rw [hlen] at hJ
          refine bodyPost_ret (v := .slice ga j gcap) (by simp [results, Tryd.results51, go_sem]) rfl ?_
          have h1 := hJ.ar
          have h2 := hJ.gone
          rw [List.take_of_length_le (by rw [List.length_reverse]; omega)] at h1
          rw [hlen] at h2
          refine ⟨_, fv', rfl, by rw [hlen]; exact h2, ?_, hJ.s, ?_, hJ.new, fun g hg => ⟨hJ.far g hg, (h2.lt g hg).1⟩⟩
          · rw [← HN.out]; exact h1
          · rw [← HN.out]; exact hJ.upd
end Go.Proofs.YtmimnaaofpkndaaDoor.Hp
