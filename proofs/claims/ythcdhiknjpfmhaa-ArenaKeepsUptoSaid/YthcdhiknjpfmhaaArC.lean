/- The arena: sweep's walk. -/
import Derived.Test.YthcdhiknjpfmhaaArB
set_option linter.unusedVariables false
set_option linter.unusedSimpArgs false
namespace Go.Proofs.Ythcdhiknjpfmhaa
open Go.RowKit

def bodies (l : List Cell) : List Nat := l.filterMap (·.1)
def freed (l : List Cell) : List Nat := (l.filter goes).filterMap (·.1)
def ndAt (l : List Cell) (nd : Nat → NodeF) (N : Nat) : NodeF := if N ∈ freed l then ended (nd N) else nd N
theorem freed_snoc (l : List Cell) (c : Cell) : freed (l ++ [c]) = freed l ++ (if goes c then c.1.toList else []) := by
  unfold freed
  rw [List.filter_append, List.filterMap_append]
  obtain ⟨a, b⟩ := c
  cases h : goes (a, b) <;> simp [List.filter, h]
  cases a <;> rfl
theorem freed_sub (l : List Cell) (N : Nat) (h : N ∈ freed l) : N ∈ bodies l := by
  unfold freed at h
  unfold bodies
  rw [List.mem_filterMap] at h ⊢
  obtain ⟨c, hc, h2⟩ := h
  exact ⟨c, (List.mem_filter.1 hc).1, h2⟩
theorem swL_snoc (l : List Cell) (c : Cell) : swL (l ++ [c]) = swL l ++ [swC c] := by simp [swL]
theorem mid_set (l : List Cell) (i : Nat) (hi : i < l.length) (c : Cell) (d : Cell) : (swL (l.take i) ++ l.drop i).set i d = swL (l.take i) ++ [d] ++ l.drop (i + 1) := by
  have hl : (swL (l.take i)).length = i := by simp [swL]; omega
  rw [List.set_append_right _ _ (by omega), hl, Nat.sub_self, List.drop_eq_getElem_cons hi, List.set_cons_zero]
  simp
theorem mid_get (l : List Cell) (i : Nat) (hi : i < l.length) : (swL (l.take i) ++ l.drop i).getD i (none, false) = l[i] := by
  have hl : (swL (l.take i)).length = i := by simp [swL]; omega
  rw [List.getD_eq_getElem?_getD, List.getElem?_append_right (by omega), hl, Nat.sub_self, List.getElem?_drop, Nat.add_zero, List.getElem?_eq_getElem hi]; rfl

/-- Behind i cells. -/
structure SwI (w wr : World) (A B : Nat) (cv fv rv : Value) (cs : List Cell) (fr ro : List Int) (live : Int) (nd : Nat → NodeF) (i : Nat) (vg : Value) : Prop where
  ar : Ar wr A B cv fv rv (swL (cs.take i) ++ cs.drop i) fr ro (live - (goneL 0 (cs.take i)).length)
  gone : wr.ownsRow w.heap.size 3 1 vg (goneL 0 (cs.take i)).length (numCells (goneL 0 (cs.take i)))
  nodes : ∀ N, N ∈ bodies cs → Blk wr N 30 (ndA (ndAt (cs.take i) nd N))
  upd : Upd w wr (fun k => k = A ∨ cv.ownBlock = some k ∨ k ∈ bodies cs ∨ w.heap.size ≤ k)
theorem mid_len (l : List Cell) (i : Nat) (hi : i ≤ l.length) : (swL (l.take i) ++ l.drop i).length = l.length := by simp [swL]; omega
theorem set_upd (w : World) (g i : Nat) (v : Value) : Upd w (w.setCell ⟨g, i, none⟩ v) (fun k => k = g) := (Upd.refl w _).set g i v rfl
theorem own_blk {w : World} {B size n : Nat} {v : Value} {xs : List Value} {t t' : TypeId} {g : Nat} {cs : Array Value} (h : w.ownsRow B t size v n xs) (hb : Blk w g t' cs) (ht : t ≠ t') : v.ownBlock ≠ some g := own_blk_ne h hb ht

theorem SwI.skip {w wr : World} {A B : Nat} {fv rv : Value} {cs : List Cell} {fr ro : List Int} {live : Int} {nd : Nat → NodeF} {i n gc cap : Nat} {vg : Value} (hn : cs.length = n)
    (h : SwI w wr A B (.slice (some ⟨gc, 0, none⟩) n cap) fv rv cs fr ro live nd i vg) (hi : i < cs.length) (hg : goes cs[i] = false) :
    SwI w (wr.setCell ⟨gc, i * 2 + 1, none⟩ (.bool false)) A B (.slice (some ⟨gc, 0, none⟩) n cap) fv rv cs fr ro live nd (i + 1) vg := by
  have htk : cs.take (i + 1) = cs.take i ++ [cs[i]] := List.take_succ_eq_append_getElem hi
  have hml := mid_len cs i (Nat.le_of_lt hi)
  have hml2 := mid_len cs (i + 1) hi
  have hgo : goneL 0 (cs.take (i + 1)) = goneL 0 (cs.take i) := by rw [htk, goneL_snoc, hg]; simp
  have hfr : freed (cs.take (i + 1)) = freed (cs.take i) := by rw [htk, freed_snoc, hg]; simp
  have hcell := h.ar.cells
  have u := set_upd wr gc (i * 2 + 1) (.bool false)
  have hgb : (Value.slice (some ⟨gc, 0, none⟩) n cap).ownBlock = some gc := rfl
  have hA : gc ≠ A := fun e => own_blk hcell h.ar.blk (by decide) (by rw [hgb, e])
  have hcell' : wr.ownsRow B 66 2 (.slice (some ⟨gc, 0, none⟩) n cap) n (clCells (swL (cs.take i) ++ cs.drop i)) := by
    have h1 := h.ar.cells
    rw [hml, hn] at h1
    exact h1
  have hst := hcell'.stored (i * 2 + 1) (.bool false)
  have hnew : swL (cs.take i) ++ [(cs[i].1, false)] ++ cs.drop (i + 1) = swL (cs.take (i + 1)) ++ cs.drop (i + 1) := by
    rw [htk, swL_snoc]
    congr 2
    unfold swC
    revert hg
    cases cs[i] with
    | mk a b => cases a <;> cases b <;> simp [goes]
  refine ⟨⟨by rw [hgo]; exact u.blk h.ar.blk (fun e => hA e.symm), ?_, u.own h.ar.free (fun k hk e => ?_), u.own h.ar.roots (fun k hk e => ?_), h.ar.apart⟩, ?_, fun N hN => ?_, ?_⟩
  · rw [hml2, hn, ← hnew, ← mid_set cs i hi cs[i] (cs[i].1, false)]
    have := clCells_set_mark (swL (cs.take i) ++ cs.drop i) i false
    rw [mid_get cs i hi] at this
    rw [← this]
    exact hst.1
  · rcases own_ne h.ar.free h.ar.cells (by decide) with h1 | h1
    · rw [h1] at hk; cases hk
    · exact h1 (by rw [hk, hgb, e])
  · rcases own_ne h.ar.roots h.ar.cells (by decide) with h1 | h1
    · rw [h1] at hk; cases hk
    · exact h1 (by rw [hk, hgb, e])
  · rw [hgo]
    refine u.own h.gone (fun k hk e => ?_)
    rcases own_ne h.gone h.ar.cells (by decide) with h1 | h1
    · rw [h1] at hk; cases hk
    · exact h1 (by rw [hk, hgb, e])
  · have hb := h.nodes N hN
    unfold ndAt at hb ⊢
    rw [hfr]
    exact u.blk hb fun e => own_blk h.ar.cells hb (by decide) (by rw [hgb, e])
  · exact (h.upd).set gc (i * 2 + 1) (.bool false) (.inr (.inl rfl))
/-- A cell that goes: what has turned by then. -/
theorem SwI.go {w wr w3 : World} {A B : Nat} {fv rv : Value} {cs : List Cell} {fr ro : List Int} {live : Int} {nd : Nat → NodeF} {i n gc cap N g3 cap3 : Nat} {vg : Value} {o : Obj} (hn : cs.length = n) (hnd : (bodies cs).Nodup)
    (h : SwI w wr A B (.slice (some ⟨gc, 0, none⟩) n cap) fv rv cs fr ro live nd i vg) (hi : i < cs.length) (hc : cs[i] = (some N, false))
    (hfw : ∀ g, fv.ownBlock = some g → g < w.heap.size) (hrw : ∀ g, rv.ownBlock = some g → g < w.heap.size) (hNw : ∀ N ∈ bodies cs, N < w.heap.size) (hgw : gc < w.heap.size) (hAw : A < w.heap.size)
    (hgrow : (((wr.setCell ⟨N, 3, none⟩ (.int .i64 ((nd N).2.2.2 + 1))).setCell ⟨gc, i * 2, none⟩ .nilIface).alloc o).grownBy w3 vg.ownBlock)
    (hown : w3.ownsRow w.heap.size 3 1 (.slice (some ⟨g3, 0, none⟩) ((goneL 0 (cs.take i)).length + 1) cap3) ((goneL 0 (cs.take i)).length + 1) (numCells (goneL 0 (cs.take i)) ++ [.int .i64 ((i + 1 : Nat) : Int)])) :
    SwI w ((w3.setCell ⟨A, 3, none⟩ (.int .i64 (live - ((goneL 0 (cs.take i)).length : Int) - 1))).setCell ⟨gc, i * 2 + 1, none⟩ (.bool false)) A B (.slice (some ⟨gc, 0, none⟩) n cap) fv rv cs fr ro live nd (i + 1) (.slice (some ⟨g3, 0, none⟩) ((goneL 0 (cs.take i)).length + 1) cap3) := by
  have htk : cs.take (i + 1) = cs.take i ++ [cs[i]] := List.take_succ_eq_append_getElem hi
  have hml := mid_len cs i (Nat.le_of_lt hi)
  have hml2 := mid_len cs (i + 1) hi
  have hgo : goneL 0 (cs.take (i + 1)) = goneL 0 (cs.take i) ++ [((i + 1 : Nat) : Int)] := by
    rw [htk, goneL_snoc, hc, List.length_take, Nat.min_eq_left (Nat.le_of_lt hi)]
    simp [goes]
  have hfr : freed (cs.take (i + 1)) = freed (cs.take i) ++ [N] := by rw [htk, freed_snoc, hc]; simp [goes]
  have hNb : N ∈ bodies cs := by
    unfold bodies
    rw [List.mem_filterMap]
    exact ⟨cs[i], List.getElem_mem _, by rw [hc]⟩
  have hNf : N ∉ freed (cs.take i) := by
    intro hm
    have h1 := freed_sub _ _ hm
    have h2 : bodies cs = bodies (cs.take i) ++ bodies (cs.drop i) := by
      conv => lhs; rw [← List.take_append_drop i cs]
      unfold bodies; rw [List.filterMap_append]
    have h3 : N ∈ bodies (cs.drop i) := by
      rw [List.drop_eq_getElem_cons hi, hc]
      unfold bodies; simp
    rw [h2, List.nodup_append] at hnd
    exact hnd.2.2 N h1 N h3 rfl
  have hgb : (Value.slice (some ⟨gc, 0, none⟩) n cap).ownBlock = some gc := rfl
  have hAg : A ≠ gc := fun e => own_blk h.ar.cells h.ar.blk (by decide) (by rw [hgb, e])
  have hbN := h.nodes N hNb
  have hNg : N ≠ gc := fun e => own_blk h.ar.cells hbN (by decide) (by rw [hgb, e])
  have hNA : N ≠ A := hbN.ne_ h.ar.blk (by decide)
  have hvN : ∀ M, M ∈ bodies cs → vg.ownBlock ≠ some M := fun M hM => own_blk h.gone (h.nodes M hM) (by decide)
  have hvA : vg.ownBlock ≠ some A := own_blk h.gone h.ar.blk (by decide)
  have hvg : vg.ownBlock ≠ some gc := by
    rcases own_ne h.gone h.ar.cells (by decide) with h1 | h1
    · rw [h1]; simp
    · rwa [hgb] at h1
  have hvlt : ∀ k, vg.ownBlock = some k → w.heap.size ≤ k := fun k hk => (h.gone.lt k hk).1
  -- all that has turned
  have u1 : Upd wr (wr.setCell ⟨N, 3, none⟩ (.int .i64 ((nd N).2.2.2 + 1))) (fun k => k = N) := set_upd _ _ _ _
  have u2 : Upd (wr.setCell ⟨N, 3, none⟩ (.int .i64 ((nd N).2.2.2 + 1))) ((wr.setCell ⟨N, 3, none⟩ (.int .i64 ((nd N).2.2.2 + 1))).setCell ⟨gc, i * 2, none⟩ .nilIface) (fun k => k = gc) := set_upd _ _ _ _
  generalize hW1 : wr.setCell ⟨N, 3, none⟩ (.int .i64 ((nd N).2.2.2 + 1)) = W1 at *
  have hcell' : W1.ownsRow B 66 2 (.slice (some ⟨gc, 0, none⟩) n cap) n (clCells (swL (cs.take i) ++ cs.drop i)) := by
    have h1 := h.ar.cells
    rw [hml, hn] at h1
    exact u1.own h1 (fun k hk e => hNg (by rw [hgb] at hk; cases hk; exact e.symm))
  have hst := hcell'.stored (i * 2) .nilIface
  generalize hW2 : W1.setCell ⟨gc, i * 2, none⟩ .nilIface = W2 at *
  have u3 : Upd W2 w3 (fun k => vg.ownBlock = some k) := ((Upd.refl W2 _).alloc o).grown hgrow (fun k e => e)
  have u4 : Upd w3 (w3.setCell ⟨A, 3, none⟩ (.int .i64 (live - ((goneL 0 (cs.take i)).length : Int) - 1))) (fun k => k = A) := set_upd _ _ _ _
  have hA3 : Blk w3 A 64 #[.slice (some ⟨gc, 0, none⟩) n cap, fv, rv, .int .i64 (live - (goneL 0 (cs.take i)).length)] := u3.blk (u2.blk (u1.blk h.ar.blk (fun e => hNA e.symm)) hAg) hvA
  have hA4 : Blk (w3.setCell ⟨A, 3, none⟩ (.int .i64 (live - ((goneL 0 (cs.take i)).length : Int) - 1))) A 64 #[.slice (some ⟨gc, 0, none⟩) n cap, fv, rv, .int .i64 (live - ((goneL 0 (cs.take i)).length : Int) - 1)] := hA3.set_ 3 _
  generalize hW4 : w3.setCell ⟨A, 3, none⟩ (.int .i64 (live - ((goneL 0 (cs.take i)).length : Int) - 1)) = W4 at *
  have u5 : Upd W4 (W4.setCell ⟨gc, i * 2 + 1, none⟩ (.bool false)) (fun k => k = gc) := set_upd _ _ _ _
  have hcell4 := u4.own (u3.own hst.1 (fun k hk e => hvg (by rw [hgb] at hk; cases hk; exact e))) (fun k hk e => hAg (by rw [hgb] at hk; cases hk; exact e.symm))
  have hst5 := hcell4.stored (i * 2 + 1) (.bool false)
  have U : Upd wr (W4.setCell ⟨gc, i * 2 + 1, none⟩ (.bool false)) (fun k => k = N ∨ k = gc ∨ vg.ownBlock = some k ∨ k = A) :=
    ((((u1.mono fun k _ e => .inl e).trans (u2.mono fun k _ e => .inr (.inl e))).trans (u3.mono fun k _ e => .inr (.inr (.inl e)))).trans (u4.mono fun k _ e => .inr (.inr (.inr e)))).trans (u5.mono fun k _ e => .inr (.inl e))
  have keepRow : ∀ {v : Value} {m : Nat} {xs : List Value}, wr.ownsRow B 3 1 v m xs → (∀ g, v.ownBlock = some g → g < w.heap.size) → (W4.setCell ⟨gc, i * 2 + 1, none⟩ (.bool false)).ownsRow B 3 1 v m xs := by
    intro v m xs hv hlt
    refine U.own hv (fun k hk e => ?_)
    rcases e with rfl | rfl | e | rfl
    · exact own_blk hv hbN (by decide) hk
    · rcases own_ne hv h.ar.cells (by decide) with h1 | h1
      · rw [h1] at hk; cases hk
      · exact h1 (by rw [hk, hgb])
    · have := hvlt k e
      have := hlt k hk
      omega
    · exact own_blk hv h.ar.blk (by decide) hk
  have hg3 : g3 ≠ A ∧ g3 ≠ gc := by
    constructor
    · rintro rfl
      obtain ⟨c1, f1, h1⟩ := own_kind hown g3 rfl
      rw [show w3.heap[g3]? = _ from hA3] at h1
      simp at h1
    · rintro rfl
      have h1 := u3.own hst.1 (fun k hk e => hvg (by rw [hgb] at hk; cases hk; exact e))
      rcases own_ne hown h1 (by decide) with h2 | h2
      · simp [Value.ownBlock] at h2
      · exact h2 rfl
  refine ⟨⟨?_, ?_, keepRow h.ar.free hfw, keepRow h.ar.roots hrw, h.ar.apart⟩, ?_, fun M hM => ?_, ?_⟩
  · rw [hgo, List.length_append]
    have := u5.blk hA4 hAg
    rw [show live - (((goneL 0 (cs.take i)).length + [((i + 1 : Nat) : Int)].length : Nat) : Int) = live - ((goneL 0 (cs.take i)).length : Int) - 1 by simp; omega]
    exact this
  · rw [hml2, hn]
    have e1 : ((clCells (swL (cs.take i) ++ cs.drop i)).set (i * 2) .nilIface).set (i * 2 + 1) (.bool false) = clCells (swL (cs.take (i + 1)) ++ cs.drop (i + 1)) := by
      have := clCells_set (swL (cs.take i) ++ cs.drop i) i (none, false)
      rw [mid_set cs i hi cs[i]] at this
      rw [htk, swL_snoc, hc]
      exact this
    rw [← e1]
    exact hst5.1
  · rw [hgo, numCells_append, List.length_append]
    refine u5.own (u4.own hown (fun k hk e => ?_)) (fun k hk e => ?_)
    · have hk' : some g3 = some k := hk
      exact hg3.1 (by cases hk'; exact e)
    · have hk' : some g3 = some k := hk
      exact hg3.2 (by cases hk'; exact e)
  · unfold ndAt
    rw [hfr]
    by_cases hMN : M = N
    · subst hMN
      rw [if_pos (by simp)]
      have hb := h.nodes M hM
      unfold ndAt at hb
      rw [if_neg hNf] at hb
      have hb1 : Blk W1 M 30 (ndA (ended (nd M))) := by rw [← hW1]; exact hb.set_ 3 _
      exact u5.blk (u4.blk (u3.blk (u2.blk hb1 hNg) (hvN M hM)) hNA) hNg
    · have hb := h.nodes M hM
      unfold ndAt at hb
      have he : (M ∈ freed (cs.take i) ++ [N]) ↔ M ∈ freed (cs.take i) := by simp [hMN]
      simp only [he]
      refine U.blk hb (fun e => ?_)
      rcases e with rfl | rfl | e | rfl
      · exact hMN rfl
      · exact own_blk h.ar.cells hb (by decide) hgb
      · exact hvN M hM e
      · exact (hb.ne_ h.ar.blk (by decide)) rfl
  · refine h.upd.trans (U.mono fun k _ e => ?_)
    rcases e with rfl | rfl | e | rfl
    · exact .inr (.inr (.inl hNb))
    · exact .inr (.inl rfl)
    · exact .inr (.inr (.inr (hvlt k e)))
    · exact .inl rfl
/-- Behind j of the cells that go, laid among the free ones. -/
structure SwJ (w wr : World) (A B : Nat) (cv fv rv vg : Value) (cs : List Cell) (fr ro : List Int) (live : Int) (nd : Nat → NodeF) (j : Nat) (fv' : Value) : Prop where
  ar : Ar wr A B cv fv' rv (swL cs) (fr ++ (goneL 0 cs).reverse.take j) ro (live - (goneL 0 cs).length)
  gone : wr.ownsRow w.heap.size 3 1 vg (goneL 0 cs).length (numCells (goneL 0 cs))
  nodes : ∀ N, N ∈ bodies cs → Blk wr N 30 (ndA (ndAt cs nd N))
  upd : Upd w wr (fun k => k = A ∨ cv.ownBlock = some k ∨ fv.ownBlock = some k ∨ k ∈ bodies cs ∨ w.heap.size ≤ k)
  new : ∀ g, fv'.ownBlock = some g → fv.ownBlock = some g ∨ w.heap.size ≤ g
  far : ∀ g, vg.ownBlock = some g → fv'.ownBlock ≠ some g
theorem rev_take (G : List Int) (j : Nat) (hj : j < G.length) : G.reverse.take (j + 1) = G.reverse.take j ++ [G.getD (G.length - 1 - j) 0] := by
  have h : j < G.reverse.length := by rw [List.length_reverse]; exact hj
  rw [List.take_succ_eq_append_getElem h, List.getElem_reverse, List.getD_eq_getElem?_getD, List.getElem?_eq_getElem (by omega)]; rfl
theorem SwJ.mid {w wr w1 : World} {A B : Nat} {cv fv rv vg : Value} {cs : List Cell} {fr ro : List Int} {live : Int} {nd : Nat → NodeF} {j : Nat} {fv' : Value} {o : Obj} (h : SwJ w wr A B cv fv rv vg cs fr ro live nd j fv') (hg : ((wr.alloc o).drew).grownBy w1 fv'.ownBlock) :
    Blk w1 A 64 #[cv, fv', rv, .int .i64 (live - (goneL 0 cs).length)] := Blk.grown ((h.ar.blk.alloc o).drew) hg (fun e => own_blk_ne h.ar.free h.ar.blk (by decide) e.symm)
theorem SwJ.step {w wr w1 : World} {A B : Nat} {cv fv rv vg : Value} {cs : List Cell} {fr ro : List Int} {live : Int} {nd : Nat → NodeF} {j nf gq capq : Nat} {fv' : Value} {o : Obj} (h : SwJ w wr A B cv fv rv vg cs fr ro live nd j fv') (hj : j < (goneL 0 cs).length)
    (hnf : (fr ++ (goneL 0 cs).reverse.take j).length = nf) (hg : ((wr.alloc o).drew).grownBy w1 fv'.ownBlock)
    (hown : w1.ownsRow B 3 1 (.slice (some ⟨gq, 0, none⟩) (nf + 1) capq) (nf + 1) (numCells (fr ++ (goneL 0 cs).reverse.take j) ++ [.int .i64 ((goneL 0 cs).getD ((goneL 0 cs).length - 1 - j) 0)]))
    (hat : fv'.ownBlock = some gq ∨ gq = wr.heap.size + 1) :
    SwJ w (w1.setCell ⟨A, 1, none⟩ (.slice (some ⟨gq, 0, none⟩) (nf + 1) capq)) A B cv fv rv vg cs fr ro live nd (j + 1) (.slice (some ⟨gq, 0, none⟩) (nf + 1) capq) := by
  have hA := h.mid hg
  have hA2 : Blk (w1.setCell ⟨A, 1, none⟩ (.slice (some ⟨gq, 0, none⟩) (nf + 1) capq)) A 64 #[cv, .slice (some ⟨gq, 0, none⟩) (nf + 1) capq, rv, .int .i64 (live - (goneL 0 cs).length)] := hA.set_ 1 _
  have u : Upd wr (w1.setCell ⟨A, 1, none⟩ (.slice (some ⟨gq, 0, none⟩) (nf + 1) capq)) (fun k => fv'.ownBlock = some k ∨ k = A) := (((Upd.refl wr _).alloc o).drew.grown hg (fun k e => .inl e)).set A 1 _ (.inr rfl)
  have hsz := h.upd.size
  have keep : ∀ {e size m : Nat} {b : Nat} {v : Value} {xs : List Value}, wr.ownsRow b e size v m xs → e ≠ 64 → (v.ownBlock = none ∨ v.ownBlock ≠ fv'.ownBlock) → (w1.setCell ⟨A, 1, none⟩ (.slice (some ⟨gq, 0, none⟩) (nf + 1) capq)).ownsRow b e size v m xs := by
    intro e size m b v xs hv he hne
    refine u.own hv (fun k hk e2 => ?_)
    rcases e2 with e2 | rfl
    · rcases hne with h1 | h1
      · rw [h1] at hk; cases hk
      · exact h1 (by rw [hk, e2])
    · exact own_blk hv h.ar.blk he hk
  have hlen : (fr ++ (goneL 0 cs).reverse.take (j + 1)).length = nf + 1 := by
    rw [rev_take _ _ hj, ← List.append_assoc, List.length_append, hnf]; rfl
  have hrv : rv.ownBlock = none ∨ rv.ownBlock ≠ fv'.ownBlock := by
    cases hr : rv.ownBlock with
    | none => exact .inl rfl
    | some g => exact .inr fun e => h.ar.apart g e.symm hr
  have hvg : vg.ownBlock = none ∨ vg.ownBlock ≠ fv'.ownBlock := by
    cases hr : vg.ownBlock with
    | none => exact .inl rfl
    | some g => exact .inr fun e => h.far g hr e.symm
  refine ⟨⟨hA2, keep h.ar.cells (by decide) (own_ne h.ar.cells h.ar.free (by decide)), ?_, keep h.ar.roots (by decide) hrv, ?_⟩, keep h.gone (by decide) hvg, fun N hN => ?_, ?_, ?_, ?_⟩
  · rw [hlen]
    have := own_set hown hA (by decide) 1 (.slice (some ⟨gq, 0, none⟩) (nf + 1) capq)
    rw [rev_take _ _ hj, ← List.append_assoc, numCells_append]
    exact this
  · intro g hg1 hr
    have hg2 : some gq = some g := hg1
    cases hg2
    rcases hat with h1 | h1
    · exact h.ar.apart gq h1 hr
    · have := (h.ar.roots.lt gq hr).2; omega
  · have hb := h.nodes N hN
    refine u.blk hb (fun e => ?_)
    rcases e with e | rfl
    · exact own_blk h.ar.free hb (by decide) e
    · exact (hb.ne_ h.ar.blk (by decide)) rfl
  · refine h.upd.trans (u.mono fun k _ e => ?_)
    rcases e with e | rfl
    · rcases h.new k e with h1 | h1
      · exact .inr (.inr (.inl h1))
      · exact .inr (.inr (.inr (.inr h1)))
    · exact .inl rfl
  · intro g hg1
    have hg2 : some gq = some g := hg1
    cases hg2
    rcases hat with h1 | h1
    · exact h.new gq h1
    · exact .inr (by omega)
  · intro g hg1 hf
    have hf2 : some gq = some g := hf
    cases hf2
    rcases hat with h1 | h1
    · exact h.far gq hg1 h1
    · have := (h.gone.lt gq hg1).2; omega
end Go.Proofs.Ythcdhiknjpfmhaa
