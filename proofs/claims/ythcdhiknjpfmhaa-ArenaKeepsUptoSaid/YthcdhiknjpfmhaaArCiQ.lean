/- ArenaCircles: the nodes and the slice of their addresses. -/
import Derived.Test.YthcdhiknjpfmhaaArCiP
set_option linter.unusedVariables false
set_option linter.unusedSimpArgs false
namespace Go.Proofs.Ythcdhiknjpfmhaa
open Go.RowKit

/-- The pairs of an argument, cell by cell. -/
def ArgP (w : World) (a : Option Addr) (n : Nat) (l : List Pr) : Prop :=
  l.length = n ∧ (0 < n → ∃ b off, a = some ⟨b, off, none⟩ ∧ b < w.heap.size ∧ ∀ i, i < n → w.cell? ⟨b, off + i * 2, none⟩ = some (.int .i64 (l.getD i (0, 0)).1) ∧ w.cell? ⟨b, off + i * 2 + 1, none⟩ = some (.int .i64 (l.getD i (0, 0)).2))
def ptrV (N : Nat) : Value := .pointer (some ⟨N, 0, none⟩)
/-- The nodes so far: k of them; the slice of their addresses. -/
structure Ci (w1 W : World) (A n lg : Nat) (cv : Value) (cs : List Cell) (nd : Nat → Nod) (ts : List (List Int)) : Prop where
  arn : ArN W A A cv nil0 nil0 cs [] [] cs.length nd
  desc : Desc False cs nd (circDs ts)
  ge : ∀ N ∈ bodies cs, A ≤ N
  row : W.ownsRow A 27 1 (.slice (some ⟨lg, 0, none⟩) n n) n ((bodies cs).map ptrV ++ List.replicate (n - cs.length) (.pointer none))
  bel : Below A w1 W

theorem Desc.bodies_len {tn : Prop} {cs : List Cell} {nd : Nat → Nod} {ds : List De} (h : Desc tn cs nd ds) : (bodies cs).length = cs.length := by
  have : ∀ l : List Cell, (∀ c ∈ l, ∃ N, c.1 = some N) → (bodies l).length = l.length := by
    intro l
    induction l with
    | nil => exact fun _ => rfl
    | cons c l ih =>
      intro hc
      obtain ⟨N, e⟩ := hc c (List.mem_cons_self ..)
      have hb : bodies (c :: l) = c.1.toList ++ bodies l := by
        obtain ⟨o, m⟩ := c
        cases o <;> simp [bodies]
      rw [hb, e, List.length_append, ih (fun d hd => hc d (List.mem_cons_of_mem _ hd))]
      simp; omega
  refine this cs fun c hc => ?_
  obtain ⟨j, hj, e⟩ := mem_get hc
  obtain ⟨N, e2, _⟩ := h.at_ j (by rw [← h.len]; exact hj)
  exact ⟨N, by rw [← e, e2]⟩
theorem bodies_getD {cs : List Cell} (h : ∀ j, j < cs.length → ∃ N, (cs.getD j (none, false)).1 = some N) (j : Nat) (hj : j < cs.length) : (cs.getD j (none, false)).1 = some ((bodies cs).getD j 0) := by
  induction cs generalizing j with
  | nil => simp at hj
  | cons c l ih =>
    obtain ⟨N, e⟩ := h 0 (by simp)
    have e' : c.1 = some N := by simpa using e
    have hb : bodies (c :: l) = N :: bodies l := by
      obtain ⟨o, m⟩ := c
      simp only at e'
      subst e'
      simp [bodies]
    rw [hb]
    cases j with
    | zero => simpa using e'
    | succ j => simpa using ih (fun j hj => by simpa using h (j + 1) (by simpa using hj)) j (by simpa using hj)
theorem ArN.ptrs {W W' : World} {A B n : Nat} {cv fv rv v : Value} {cs : List Cell} {fr ro : List Int} {live : Int} {nd : Nat → Nod} {xs : List Value} (h : ArN W A B cv fv rv cs fr ro live nd) (hv : W.ownsRow B 27 1 v n xs) (u : Upd W W' (fun k => v.ownBlock = some k)) : ArN W' A B cv fv rv cs fr ro live nd := by
  have typ : ∀ {t : TypeId} {s n : Nat} {v' : Value} {xs : List Value}, W.ownsRow B t s v' n xs → t ≠ 27 → ∀ g, v'.ownBlock = some g → ¬ v.ownBlock = some g := by
    intro t s n v' xs hv' t1 g hg e
    rcases own_ne hv' hv t1 with q | q
    · rw [q] at hg; cases hg
    · exact q (by rw [hg, e])
  refine h.upd u (fun e => own_blk hv h.ar.blk (by decide) e) (typ h.ar.cells (by decide)) (fun N hN e => own_blk hv (h.nodes N hN).blk (by decide) e) (fun N hN => typ (h.nodes N hN).tabR (by decide)) (fun s g ho hg => ?_)
  cases s with
  | free => exact typ h.ar.free (by decide) g hg
  | roots => exact typ h.ar.roots (by decide) g hg
  | tos N => exact typ (h.nodes N ho).toR (by decide) g hg
  | fa N => exact typ (h.nodes N ho).faR (by decide) g hg
theorem ci_make {w1 wr : World} {A n lg : Nat} {cv : Value} {cs : List Cell} {nd : Nat → Nod} {ts : List (List Int)} (h : Ci w1 wr A n lg cv cs nd ts) (hk : cs.length < n) (hn : n ≤ 1000) :
    Calls Try.prog 10 #[.pointer (some ⟨A, 0, none⟩), .iface 27 (.pointer (some ⟨wr.heap.size, 0, none⟩))] ((wr.alloc (.cells (ndC nil0 nil0 nil0 0) 30)).setCell ⟨lg, cs.length, none⟩ (ptrV wr.heap.size)) fun e w' => (∃ v, e = .returned v) ∧
      ∃ cv' cs' nd', Ci w1 w' A n lg cv' cs' nd' (ts ++ [[]]) ∧ cs'.length = cs.length + 1 := by
  have bD := (Below.refl wr.heap.size wr).alloc (Nat.le_refl _) (.cells (ndC nil0 nil0 nil0 0) 30)
  have hrow0 := h.row.alloc (.cells (ndC nil0 nil0 nil0 0) 30)
  have us := set_upd (wr.alloc (.cells (ndC nil0 nil0 nil0 0) 30)) lg cs.length (ptrV wr.heap.size)
  have h1 := (h.arn.below bD).ptrs hrow0 (us.mono fun k _ e => by rw [e]; rfl)
  have hlg := h.row.lt lg rfl
  have hblk := us.blk (Blk.new wr 30 (ndC nil0 nil0 nil0 0)) (fun e => by omega)
  have hN' : wr.heap.size ∉ bodies cs := fun hc => absurd (h.arn.nodes _ hc).blk.lt (Nat.lt_irrefl _)
  have hst := (hrow0.stored cs.length (ptrV wr.heap.size)).1
  refine (make_new wr.heap.size h1.ar (by omega) (by omega) (by omega) (Nat.le_of_lt h1.ar.blk.lt)).mono ?_
  rintro e w' ⟨rfl, cv', har, hu, _⟩
  have eb : bodies (cs ++ [(some wr.heap.size, false)]) = bodies cs ++ [wr.heap.size] := by simp [bodies]
  refine ⟨⟨_, rfl⟩, cv', cs ++ [(some wr.heap.size, false)], (fun K => if K = wr.heap.size then emptyN else nd K), ⟨?_, ?_, fun K hK => ?_, ?_, ?_⟩, by simp⟩
  · have := h1.add (x := emptyN) hN' (emptyN_R hblk) ⟨Int.le_refl 0, by show (0 : Int) ≤ 1000000; decide⟩ (fun s g _ _ => ⟨(by simp [emptyN, Value.ownBlock]), (by simp [emptyN, Value.ownBlock])⟩) (fun g hg => by simp [emptyN, Value.ownBlock] at hg) har hu (fun g hg => hg) (fun K hK => by
      rw [eb] at hK
      rcases List.mem_append.1 hK with q | q
      · exact .inl q
      · exact .inr (List.mem_singleton.1 q)) (by
      rw [eb]
      refine List.nodup_append.2 ⟨h1.nodup, by simp, fun a ha b hb => ?_⟩
      rw [List.mem_singleton.1 hb]
      exact fun e => hN' (e ▸ ha))
    rw [List.length_append, List.length_cons, List.length_nil]
    simpa using this
  · have := h.desc.snoc hN' emptyN rfl rfl (fun hf => hf.elim)
    rw [show circDs (ts ++ [[]]) = circDs ts ++ [(emptyN.to_, emptyN.tab)] by simp [circDs, emptyN]]
    exact this
  · rw [eb] at hK
    rcases List.mem_append.1 hK with q | q
    · exact h.ge K q
    · rw [List.mem_singleton.1 q]; exact Nat.le_of_lt h.arn.ar.blk.lt
  · have hbl := h.desc.bodies_len
    have e3 : ((bodies cs).map ptrV ++ List.replicate (n - cs.length) (Value.pointer none)).set cs.length (ptrV wr.heap.size) = (bodies (cs ++ [(some wr.heap.size, false)])).map ptrV ++ List.replicate (n - (cs ++ [(some wr.heap.size, false)]).length) (Value.pointer none) := by
      rw [eb, List.set_append_right _ _ (by rw [List.length_map, hbl]; exact Nat.le_refl _), List.length_map, hbl, Nat.sub_self, show n - cs.length = (n - (cs.length + 1)) + 1 by omega, List.replicate_succ, List.set_cons_zero, List.map_append, List.append_assoc]
      simp
    rw [← e3]
    refine hu.own hst (fun g hg e => ?_)
    obtain rfl : lg = g := by simpa [Value.ownBlock] using hg
    rcases e with e | e
    · exact own_blk hst h1.ar.blk (by decide) (by rw [← e]; rfl)
    · rcases own_ne hst h1.ar.cells (by decide) with q | q
      · cases q
      · exact q e.symm
  · refine ((h.bel.trans (bD.mono (Nat.le_of_lt h.arn.ar.blk.lt))).trans (us.below ?_ (fun k e => by rw [e]; exact hlg.1))).trans (hu.below (Nat.le_of_lt h1.ar.blk.lt) (fun k e => ?_))
    · have := h.arn.ar.blk.lt; simp; omega
    · rcases e with rfl | e
      · exact Nat.le_refl _
      · exact (h1.ar.cells.lt k e).1
/-- Node i. -/
def nodeAt (cs : List Cell) (i : Nat) : Nat := (bodies cs).getD i 0
theorem ci_node {w1 W : World} {A n lg i : Nat} {cv : Value} {cs : List Cell} {nd : Nat → Nod} {ts : List (List Int)} (h : Ci w1 W A n lg cv cs nd ts) (hc : cs.length = n) (hi : i < n) :
    nodeAt cs i ∈ bodies cs ∧ (nd (nodeAt cs i)).to_ = ts.getD i [] ∧ W.cell? ⟨lg, i, none⟩ = some (ptrV (nodeAt cs i)) ∧ (cs.getD i (none, false)).1 = some (nodeAt cs i) := by
  have hl : (circDs ts).length = n := h.desc.len.symm.trans hc
  have hb := bodies_getD (fun j hj => by
    obtain ⟨N, e, _⟩ := h.desc.at_ j (by rw [← h.desc.len]; exact hj)
    exact ⟨N, by rw [e]⟩) i (by omega)
  obtain ⟨N, e1, e2, _⟩ := h.desc.at_ i (by omega)
  have hN : N = nodeAt cs i := by
    rw [e1] at hb
    have hb' : some N = some ((bodies cs).getD i 0) := hb
    exact Option.some.inj hb'
  have hbl := h.desc.bodies_len
  have hib : i < (bodies cs).length := by omega
  rw [circDs_get] at e2
  refine ⟨bodies_at hb, by rw [← hN]; exact e2, ?_, hb⟩
  rw [h.row.cellAt i (by omega), List.getElem?_append_left (by rw [List.length_map]; exact hib), List.getElem?_map, List.getElem?_eq_getElem hib, nodeAt, List.getD_eq_getElem?_getD, List.getElem?_eq_getElem hib]
  rfl
theorem ci_to {w1 W W2 : World} {A n lg i gq capq : Nat} {cv : Value} {cs : List Cell} {nd : Nat → Nod} {ts : List (List Int)} {o : Obj} {v : Int} (h : Ci w1 W A n lg cv cs nd ts) (hc : cs.length = n) (hi : i < n)
    (hg : (W.alloc o).grownBy W2 (nd (nodeAt cs i)).tv.ownBlock) (own2 : W2.ownsRow A 3 1 (.slice (some ⟨gq, 0, none⟩) ((nd (nodeAt cs i)).to_.length + 1) capq) ((nd (nodeAt cs i)).to_.length + 1) (numCells ((nd (nodeAt cs i)).to_ ++ [v]))) (hat : (nd (nodeAt cs i)).tv.ownBlock = some gq ∨ W.heap.size ≤ gq) :
    Ci w1 (W2.setCell ⟨nodeAt cs i, 0, none⟩ (.slice (some ⟨gq, 0, none⟩) ((nd (nodeAt cs i)).to_.length + 1) capq)) A n lg cv cs (toApp nd (nodeAt cs i) gq capq v) (ts.set i (ts.getD i [] ++ [v])) := by
  obtain ⟨hN, hto, _, hci⟩ := ci_node h hc hi
  obtain ⟨hA, U⟩ := h.arn.toapp hN hg own2 hat
  have hl : (circDs ts).length = n := h.desc.len.symm.trans hc
  have hts : ts.length = n := by simpa [circDs] using hl
  refine ⟨hA, ⟨by rw [h.desc.len]; simp [circDs], fun j hj => ?_⟩, h.ge, U.own h.row (fun g hgg e => ?_), h.bel.trans (U.below (Nat.le_of_lt h.arn.ar.blk.lt) (fun k e => ?_))⟩
  · have hj' : j < (circDs ts).length := by simpa [circDs] using hj
    obtain ⟨M, e1, e2, e3, e4, e5, e6⟩ := h.desc.at_ j hj'
    rw [circDs_get] at e2 e3 ⊢
    refine ⟨M, e1, ?_⟩
    by_cases e : j = i
    · subst e
      have hM : M = nodeAt cs j := by
        rw [e1] at hci
        have hb' : some M = some (nodeAt cs j) := hci
        exact Option.some.inj hb'
      rw [toApp, if_pos hM]
      refine ⟨?_, by rw [← hM]; exact e3, by rw [← hM]; exact e4, by rw [← hM]; exact e5, fun hf => hf.elim⟩
      show (nd (nodeAt cs j)).to_ ++ [v] = _
      rw [hto, List.getD_eq_getElem?_getD (l := ts.set j _), List.getElem?_set, if_pos rfl, if_pos (by omega)]
      rfl
    · have hM : M ≠ nodeAt cs i := fun q => e (bodies_inj h.arn.nodup (N := M) (by rw [e1]) (by rw [q]; exact hci))
      rw [toApp, if_neg hM, List.getD_eq_getElem?_getD (l := ts.set i _), List.getElem?_set, if_neg (fun q => e q.symm), ← List.getD_eq_getElem?_getD]
      exact ⟨e2, e3, e4, e5, fun hf => hf.elim⟩
  · rcases e with e | e
    · rcases own_ne h.row (h.arn.nodes _ hN).toR (by decide) with q | q
      · cases q
      · exact q (by rw [hgg, e])
    · exact own_blk h.row (h.arn.nodes _ hN).blk (by decide) (by rw [hgg, e])
  · rcases e with e | e
    · exact ((h.arn.nodes _ hN).toR.lt k e).1
    · rw [e]; exact h.ge _ hN
theorem Ci.below {w1 W W' : World} {A n lg : Nat} {cv : Value} {cs : List Cell} {nd : Nat → Nod} {ts : List (List Int)} (h : Ci w1 W A n lg cv cs nd ts) (b : Below W.heap.size W W') : Ci w1 W' A n lg cv cs nd ts :=
  ⟨h.arn.below b, h.desc, h.ge, own_below h.row b, h.bel.trans (b.mono (Nat.le_of_lt h.arn.ar.blk.lt))⟩
theorem Ci.built {w1 W : World} {A n lg : Nat} {cv : Value} {cs : List Cell} {nd : Nat → Nod} {ts : List (List Int)} (h : Ci w1 W A n lg cv cs nd ts) : Built False W A cv nil0 nil0 (circDs ts) [] :=
  ⟨cs, nd, by rw [← h.desc.len]; exact h.arn, h.desc, h.ge⟩
end Go.Proofs.Ythcdhiknjpfmhaa
