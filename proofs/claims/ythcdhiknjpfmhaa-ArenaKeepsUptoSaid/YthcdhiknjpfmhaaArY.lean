/- The arena as the statements build it: cells that are described by what their nodes hold. -/
import Derived.Test.YthcdhiknjpfmhaaArQ
import Derived.Test.YthcdhiknjpfmhaaArW
import Derived.Test.YthcdhiknjpfmhaaArX
set_option linter.unusedVariables false
set_option linter.unusedSimpArgs false
namespace Go.Proofs.Ythcdhiknjpfmhaa
open Go.RowKit

abbrev nil0 : Value := .slice none 0 0
/-- What a node holds: To, Table. -/
abbrev De := List Int × List Pr
/-- The cells: not marked, each with a node that holds what the list says. -/
structure Desc (tn : Prop) (cs : List Cell) (nd : Nat → Nod) (ds : List De) : Prop where
  len : cs.length = ds.length
  at_ : ∀ j, j < ds.length → ∃ N, cs.getD j (none, false) = (some N, false) ∧ (nd N).to_ = (ds.getD j ([], [])).1 ∧ (nd N).tab = (ds.getD j ([], [])).2 ∧ (nd N).fa = [] ∧ (nd N).fv = nil0 ∧ (tn → (nd N).tv = nil0)
theorem Desc.unmarked {tn : Prop} {cs : List Cell} {nd : Nat → Nod} {ds : List De} (h : Desc tn cs nd ds) : ∀ c ∈ cs, c.2 = false := by
  intro c hc
  obtain ⟨j, hj, e⟩ := mem_get hc
  obtain ⟨N, e2, _⟩ := h.at_ j (by rw [← h.len]; exact hj)
  rw [e2] at e
  rw [← e]
theorem Desc.mem {tn : Prop} {cs : List Cell} {nd : Nat → Nod} {ds : List De} (h : Desc tn cs nd ds) {N : Nat} (hN : N ∈ bodies cs) : ∃ j, j < ds.length ∧ cs.getD j (none, false) = (some N, false) ∧ (nd N).to_ = (ds.getD j ([], [])).1 ∧ (nd N).tab = (ds.getD j ([], [])).2 ∧ (nd N).fa = [] ∧ (nd N).fv = nil0 ∧ (tn → (nd N).tv = nil0) := by
  obtain ⟨c, hc, e⟩ := List.mem_filterMap.1 hN
  obtain ⟨j, hj, e2⟩ := mem_get hc
  rw [h.len] at hj
  obtain ⟨M, e3, h1⟩ := h.at_ j hj
  rw [e2] at e3
  subst e3
  cases e
  exact ⟨j, hj, e2, h1⟩
theorem Desc.snoc {tn : Prop} {cs : List Cell} {nd : Nat → Nod} {ds : List De} (h : Desc tn cs nd ds) {N : Nat} (hN : N ∉ bodies cs) (x : Nod) (hf : x.fa = []) (hf2 : x.fv = nil0) (hf3 : tn → x.tv = nil0) : Desc tn (cs ++ [(some N, false)]) (fun K => if K = N then x else nd K) (ds ++ [(x.to_, x.tab)]) := by
  refine ⟨by simp [h.len], fun j hj => ?_⟩
  simp only [List.length_append, List.length_cons, List.length_nil] at hj
  by_cases e : j = ds.length
  · subst e
    refine ⟨N, ?_, ?_⟩
    · rw [List.getD_eq_getElem?_getD, List.getElem?_append_right (by rw [h.len]; exact Nat.le_refl _), h.len, Nat.sub_self]; rfl
    · rw [if_pos rfl]
      refine ⟨?_, ?_, hf, hf2, hf3⟩ <;> simp
  · obtain ⟨M, e1, e2, e3, e4⟩ := h.at_ j (by omega)
    have hM : M ≠ N := by
      rintro rfl
      exact hN (bodies_at (i := j) (by rw [e1]))
    refine ⟨M, ?_, ?_⟩
    · rw [List.getD_eq_getElem?_getD, List.getElem?_append_left (by rw [h.len]; omega), ← List.getD_eq_getElem?_getD]; exact e1
    · rw [if_neg hM, List.getD_eq_getElem?_getD, List.getElem?_append_left (by omega), ← List.getD_eq_getElem?_getD]
      exact ⟨e2, e3, e4⟩
/-- An arena as it is built. -/
def Built (tn : Prop) (W : World) (A : Nat) (cv fv rv : Value) (ds : List De) (ro : List Int) : Prop := ∃ cs nd, ArN W A A cv fv rv cs [] ro ds.length nd ∧ Desc tn cs nd ds ∧ ∀ N ∈ bodies cs, A ≤ N
theorem built_new (tn : Prop) (w : World) : Built tn (w.alloc (.cells #[nil0, nil0, nil0, .int .i64 0] 64)) w.heap.size nil0 nil0 nil0 [] [] :=
  ⟨[], fun _ => ⟨nil0, nil0, nil0, [], [], [], 0⟩, ArN.new w, ⟨rfl, fun j hj => absurd hj (Nat.not_lt_zero _)⟩, fun N hN => (List.not_mem_nil hN).elim⟩
theorem Built.below {tn : Prop} {W W' : World} {A : Nat} {cv fv rv : Value} {ds : List De} {ro : List Int} (h : Built tn W A cv fv rv ds ro) (b : Below W.heap.size W W') : Built tn W' A cv fv rv ds ro := by
  obtain ⟨cs, nd, h1, h2, h3⟩ := h
  exact ⟨cs, nd, h1.below b, h2, h3⟩
/-- What was allocated is kept by the turn of what is listed. -/
theorem Built.alloc {tn : Prop} {W : World} {A : Nat} {cv fv rv : Value} {ds : List De} {ro : List Int} (h : Built tn W A cv fv rv ds ro) (o : Obj) : Built tn (W.alloc o) A cv fv rv ds ro := h.below ((Below.refl _ _).alloc (Nat.le_refl _) o)
theorem own_int_lt {w : World} {B n : Nat} {v : Value} {xs : List Value} {t : TypeId} {s : Nat} (h : w.ownsRow B t s v n xs) : ∀ g, v.ownBlock = some g → B ≤ g ∧ g < w.heap.size := fun g hg => h.lt g hg
/-- Make: a node with a table. -/
theorem built_make {tn : Prop} {W0 W : World} {A : Nat} {cv fv rv : Value} {ds : List De} {ro : List Int} (h : Built tn W0 A cv fv rv ds ro) (b0 : Below W0.heap.size W0 W) (N : Nat) (bv : Value) (tab : List Pr) (hb : Blk W N 30 (ndC nil0 bv nil0 0)) (ht : W.ownsRow A 32 2 bv tab.length (prCells tab)) (hN : W0.heap.size ≤ N) (hd : ds.length ≤ 100000) :
    Calls Try.prog 10 #[.pointer (some ⟨A, 0, none⟩), .iface 27 (.pointer (some ⟨N, 0, none⟩))] W fun e w' => e = .returned (.int .i64 ((ds.length + 1 : Nat) : Int)) ∧
      ∃ cv', Built tn w' A cv' fv rv (ds ++ [([], tab)]) ro ∧ Upd W w' (fun k => k = A ∨ cv.ownBlock = some k) ∧ (∀ g, cv.ownBlock = some g → A ≤ g ∧ ∃ c fz, W.heap[g]? = some (.cells c 66 fz)) := by
  obtain ⟨cs, nd, h0, h2, h3⟩ := h
  have hN' : N ∉ bodies cs := fun hc => absurd (h0.nodes N hc).blk.lt (Nat.not_lt_of_le hN)
  have h1 := h0.below b0
  refine (make_new N h1.ar (by omega) (by omega) (by rw [h2.len]; omega) (Nat.le_of_lt h1.ar.blk.lt)).mono ?_
  rintro e w' ⟨rfl, cv', har, hu, hc⟩
  refine ⟨by rw [h2.len], cv', ⟨_, _, ?_, h2.snoc hN' ⟨nil0, bv, nil0, [], tab, [], 0⟩ rfl rfl (fun _ => rfl), fun K hK => ?_⟩, hu, fun g hg => ⟨(h1.ar.cells.lt g hg).1, own_kind h1.ar.cells g hg⟩⟩
  · have := h1.add (x := ⟨nil0, bv, nil0, [], tab, [], 0⟩) hN' ⟨hb, World.ownsRow_nil _ _ _ _, ht, World.ownsRow_nil _ _ _ _⟩ ⟨Int.le_refl 0, by show (0 : Int) ≤ 1000000; decide⟩ (fun s g _ _ => ⟨(by simp [Value.ownBlock]), (by simp [Value.ownBlock])⟩) (fun g hg => by simp [Value.ownBlock] at hg) har hu (fun g hg => hg) (fun K hK => by
      have e : bodies (cs ++ [(some N, false)]) = bodies cs ++ [N] := by simp [bodies]
      rw [e] at hK
      rcases List.mem_append.1 hK with q | q
      · exact .inl q
      · exact .inr (List.mem_singleton.1 q)) (by
      have e : bodies (cs ++ [(some N, false)]) = bodies cs ++ [N] := by simp [bodies]
      rw [e]
      refine List.nodup_append.2 ⟨h1.nodup, by simp, fun a ha b hb => ?_⟩
      rw [List.mem_singleton.1 hb]
      exact fun e => hN' (e ▸ ha))
    rw [List.length_append, List.length_cons, List.length_nil]
    simpa using this
  · have e : bodies (cs ++ [(some N, false)]) = bodies cs ++ [N] := by simp [bodies]
    rw [e] at hK
    rcases List.mem_append.1 hK with q | q
    · exact h3 K q
    · rw [List.mem_singleton.1 q]; exact Nat.le_trans (Nat.le_of_lt h0.ar.blk.lt) hN
/-- Push. -/
theorem built_push {tn : Prop} {W : World} {A : Nat} {cv fv rv : Value} {ds : List De} {ro : List Int} (h : Built tn W A cv fv rv ds ro) (x : Int) (ad : Addr) (c : Nat) (hx : W.cell? (ad.add 0) = some (.int .i64 x)) (hro : ro.length ≤ 1000000) :
    Calls Try.prog 11 #[.pointer (some ⟨A, 0, none⟩), .slice (some ad) 1 c] W fun e w' => (∃ v, e = .returned v) ∧
      ∃ rv', Built tn w' A cv fv rv' ds (ro ++ [x]) ∧ Upd W w' (fun k => k = A ∨ rv.ownBlock = some k) ∧ (∀ g, rv'.ownBlock = some g → rv.ownBlock = some g ∨ W.heap.size ≤ g) := by
  obtain ⟨cs, nd, h1, h2, h3⟩ := h
  refine (push_any [x] ad c h1.ar (by simp) (fun j u hj => ?_) hro (by simp) (Nat.le_of_lt h1.ar.blk.lt)).mono ?_
  · cases j with
    | zero =>
      obtain rfl : Value.int .i64 x = u := by simpa [numCells] using hj
      exact hx
    | succ j => simp [numCells] at hj
  · rintro e w' ⟨hv, rv', har, hu, hr⟩
    exact ⟨hv, rv', ⟨cs, nd, h1.turn har (hu.mono fun k _ e => by
      rcases e with e | e
      · exact .inl e
      · exact .inr (.inr e)) (fun g hg => hg) hr rfl, h2, h3⟩, hu, hr⟩
theorem Built.blkA {tn : Prop} {W : World} {A : Nat} {cv fv rv : Value} {ds : List De} {ro : List Int} (h : Built tn W A cv fv rv ds ro) : ∃ c, Blk W A 64 c := by
  obtain ⟨cs, nd, h1, _⟩ := h
  exact ⟨_, h1.ar.blk⟩
/-- A row of numbers beside turns. -/
theorem Built.row {W W' : World} {A n : Nat} {cv fv rv v : Value} {ds : List De} {ro : List Int} {xs : List Value} (h : Built True W A cv fv rv ds ro) (hv : W.ownsRow A 3 1 v n xs) (u : Upd W W' (fun k => v.ownBlock = some k)) (h1 : ∀ g, v.ownBlock = some g → fv.ownBlock ≠ some g ∧ rv.ownBlock ≠ some g) : Built True W' A cv fv rv ds ro := by
  obtain ⟨cs, nd, a1, a2, a3⟩ := h
  refine ⟨cs, nd, a1.upd u (fun e => own_blk hv a1.ar.blk (by decide) e) (fun g hg e => ?_) (fun N hN e => own_blk hv (a1.nodes N hN).blk (by decide) e) (fun N hN g hg e => ?_) (fun s g ho hg e => ?_), a2, a3⟩
  · rcases own_ne a1.ar.cells hv (by decide) with q | q
    · rw [q] at hg; cases hg
    · exact q (by rw [hg, e])
  · rcases own_ne (a1.nodes N hN).tabR hv (by decide) with q | q
    · rw [q] at hg; cases hg
    · exact q (by rw [hg, e])
  · cases s with
    | free => exact (h1 g e).1 hg
    | roots => exact (h1 g e).2 hg
    | tos N =>
      obtain ⟨j, hj, _, _, _, _, _, e3⟩ := a2.mem ho
      have hg' : (nd N).tv.ownBlock = some g := hg
      rw [e3 trivial] at hg'; cases hg'
    | fa N =>
      obtain ⟨j, hj, _, _, _, _, e3, _⟩ := a2.mem ho
      have hg' : (nd N).fv.ownBlock = some g := hg
      rw [e3] at hg'; cases hg'
/-! Marks -/
/-- The numbers of those not marked. -/
def goneB : Nat → List Bool → List Int
  | _, [] => []
  | k, b :: l => if b then goneB (k + 1) l else ((k + 1 : Nat) : Int) :: goneB (k + 1) l
structure Marks (ds : List De) (ro : List Int) (ms : List Bool) : Prop where
  len : ms.length = ds.length
  root : ∀ j, j < ds.length → ((j : Int) + 1) ∈ ro → ms.getD j false = true
  to_ : ∀ j, ms.getD j false = true → ∀ i, i < ds.length → ((i : Int) + 1) ∈ (ds.getD j ([], [])).1 → ms.getD i false = true
  pair : ∀ j, ms.getD j false = true → ∀ p ∈ (ds.getD j ([], [])).2, (∀ i, i < ds.length → p.1 = (i : Int) + 1 → ms.getD i false = true) → ∀ i, i < ds.length → p.2 = (i : Int) + 1 → ms.getD i false = true
  least : ∀ S : Nat → Prop, (∀ j, j < ds.length → ((j : Int) + 1) ∈ ro → S j) → (∀ j, j < ds.length → S j → ∀ i, i < ds.length → ((i : Int) + 1) ∈ (ds.getD j ([], [])).1 → S i) →
    (∀ j, j < ds.length → S j → ∀ p ∈ (ds.getD j ([], [])).2, (∀ i, i < ds.length → p.1 = (i : Int) + 1 → S i) → ∀ i, i < ds.length → p.2 = (i : Int) + 1 → S i) → ∀ j, ms.getD j false = true → S j
theorem goneL_B (k : Nat) (l : List Cell) (h : ∀ c ∈ l, ∃ N, c.1 = some N) : goneL k l = goneB k (l.map (·.2)) := by
  induction l generalizing k with
  | nil => rfl
  | cons c l ih =>
    have h1 := ih (k + 1) (fun d hd => h d (List.mem_cons_of_mem _ hd))
    obtain ⟨N, hN⟩ := h c (List.mem_cons_self ..)
    obtain ⟨o, m⟩ := c
    dsimp only at hN
    subst hN
    cases m <;> simp [goneL, goneB, goes, h1]
theorem marks_of {tn : Prop} {cs : List Cell} {nd : Nat → Nod} {ds : List De} (ro : List Int) (h : Desc tn cs nd ds) : Marks ds ro ((markP (ndsOf nd).to_ (ndsOf nd).tab cs ro).map (·.2)) ∧ goneL 0 (markP (ndsOf nd).to_ (ndsOf nd).tab cs ro) = goneB 0 ((markP (ndsOf nd).to_ (ndsOf nd).tab cs ro).map (·.2)) := by
  have hse := markP_se (ndsOf nd).to_ (ndsOf nd).tab cs ro
  have hcl := markP_closed (ndsOf nd).to_ (ndsOf nd).tab cs ro h.unmarked
  have hin := fun S => markP_in (S := S) (toF := (ndsOf nd).to_) (tab := (ndsOf nd).tab) cs ro h.unmarked
  generalize markP (ndsOf nd).to_ (ndsOf nd).tab cs ro = M at *
  have hlen : M.length = ds.length := hse.len.trans h.len
  have hget : ∀ j, (M.map (·.2)).getD j false = (M.getD j (none, false)).2 := fun j => by
    simp only [List.getD_eq_getElem?_getD, List.getElem?_map]
    cases M[j]? <;> rfl
  have hbody : ∀ j, j < ds.length → ∃ N, (M.getD j (none, false)).1 = some N ∧ (cs.getD j (none, false)).1 = some N ∧ (nd N).to_ = (ds.getD j ([], [])).1 ∧ (nd N).tab = (ds.getD j ([], [])).2 := fun j hj => by
    obtain ⟨N, e, e1, e2, _⟩ := h.at_ j hj
    exact ⟨N, by rw [hse.body, e], by rw [e], e1, e2⟩
  have hvalid : ∀ r, Valid cs r ↔ ∃ j, j < ds.length ∧ r = (j : Int) + 1 := fun r => by
    constructor
    · rintro ⟨i, N, e, hb⟩
      exact ⟨i, by rw [← h.len]; exact get_lt hb, e⟩
    · rintro ⟨j, hj, e⟩
      obtain ⟨N, _, e2, _⟩ := hbody j hj
      exact ⟨j, N, e, e2⟩
  have hmark : ∀ j, (M.getD j (none, false)).2 = true → j < ds.length := fun j hj => by
    apply Decidable.byContradiction
    intro hc
    rw [List.getD_eq_getElem?_getD, List.getElem?_eq_none (by omega)] at hj
    cases hj
  have hlive : ∀ j, j < ds.length → deadP M ((j : Int) + 1) = false → (M.getD j (none, false)).2 = true := fun j hj hd => by
    obtain ⟨N, e1, _⟩ := hbody j hj
    exact live_of e1 hd
  have hdead : ∀ r, (∀ i, i < ds.length → r = (i : Int) + 1 → (M.getD i (none, false)).2 = true) → deadP M r = false := fun r hr => by
    apply Bool.eq_false_iff.2
    intro hc
    obtain ⟨i, N, e, h1, h2⟩ := Valid.iff.1 hc
    rw [hr i (by rw [← hlen]; exact get_lt h1) e] at h2
    cases h2
  refine ⟨⟨by rw [List.length_map, hlen], fun j hj hr => ?_, fun j hj i hi hr => ?_, fun j hj p hp hk i hi hr => ?_, fun S hR hT hP j hj => ?_⟩, goneL_B 0 M fun c hc => ?_⟩
  · rw [hget]; exact hlive j hj (hcl.2 _ hr)
  · rw [hget] at hj ⊢
    obtain ⟨N, e1, _, e3, _⟩ := hbody j (hmark j hj)
    exact hlive i hi (hcl.1.to_ j N (Prod.ext e1 hj) _ (by show _ ∈ (nd N).to_; rw [e3]; exact hr))
  · rw [hget] at hj ⊢
    obtain ⟨N, e1, _, _, e4⟩ := hbody j (hmark j hj)
    have := hcl.1.pair j N (Prod.ext e1 hj) p (by show p ∈ (nd N).tab; rw [e4]; exact hp) (hdead p.1 (fun i' hi' e => by rw [← hget]; exact hk i' hi' e))
    rw [hr] at this
    exact hlive i hi this
  · rw [hget] at hj
    have hjl := hmark j hj
    have := hin (fun r => ∃ i, i < ds.length ∧ r = (i : Int) + 1 ∧ S i) (fun r hr hv => by
        obtain ⟨i, hi, e⟩ := (hvalid r).1 hv
        exact ⟨i, hi, e, hR i hi (e ▸ hr)⟩) (fun i N hN hS r hr hv => by
        obtain ⟨i', hi', e', hS'⟩ := hS
        have : i' = i := by omega
        subst this
        obtain ⟨k, hk, e⟩ := (hvalid r).1 hv
        obtain ⟨N', _, e2, e3, _⟩ := hbody i' hi'
        rw [hN] at e2; cases e2
        exact ⟨k, hk, e, hT i' hi' hS' k hk (by rw [← e3, ← e]; exact hr)⟩) (fun i N hN hS p hp hpk hv => by
        obtain ⟨i', hi', e', hS'⟩ := hS
        have : i' = i := by omega
        subst this
        obtain ⟨k, hk, e⟩ := (hvalid p.2).1 hv
        obtain ⟨N', _, e2, _, e4⟩ := hbody i' hi'
        rw [hN] at e2; cases e2
        refine ⟨k, hk, e, hP i' hi' hS' p (by rw [← e4]; exact hp) (fun q hq eq => ?_) k hk e⟩
        obtain ⟨q', hq', eq', hS2⟩ := hpk ((hvalid p.1).2 ⟨q, hq, eq⟩)
        have : q' = q := by omega
        subst this
        exact hS2) j hj
    obtain ⟨i, _, e, hS⟩ := this
    have : i = j := by omega
    subst this
    exact hS
  · obtain ⟨j, hj, e⟩ := mem_get hc
    obtain ⟨N, e1, _⟩ := hbody j (by omega)
    exact ⟨N, by rw [← e]; exact e1⟩
/-- What may turn. -/
def colB (W : World) (A : Nat) (cv fv : Value) (k : Nat) : Prop := k = A ∨ cv.ownBlock = some k ∨ fv.ownBlock = some k ∨ (A ≤ k ∧ ∃ c, Blk W k 30 c) ∨ W.heap.size ≤ k
theorem built_collect {tn : Prop} {W : World} {A : Nat} {cv fv rv : Value} {ds : List De} {ro : List Int} (h : Built tn W A cv fv rv ds ro) (hd : ds.length ≤ 10000) (hro : ro.length ≤ 100000) (hs : ∀ d ∈ ds, d.1.length ≤ 100000 ∧ d.2.length ≤ 100000) :
    Calls Try.prog 12 #[.pointer (some ⟨A, 0, none⟩), .nilFunc] W fun e w' => ∃ ms vg fv' cs' nd', Marks ds ro ms ∧ e = .returned vg ∧ w'.ownsRow W.heap.size 3 1 vg (goneB 0 ms).length (numCells (goneB 0 ms)) ∧
      Upd W w' (colB W A cv fv) ∧ ArN w' A A cv fv' rv cs' (goneB 0 ms).reverse ro ((ds.length : Int) - (goneB 0 ms).length) nd' ∧ cs'.length = ds.length ∧ ((∀ j, j < ds.length → ms.getD j false = true) → (∀ d ∈ ds, d.2 = []) → Desc tn cs' nd' ds ∧ ∀ N ∈ bodies cs', A ≤ N) := by
  obtain ⟨cs, nd, h1, h2, h3⟩ := h
  obtain ⟨k1, k2⟩ := marks_of ro h2
  have hse := markP_se (ndsOf nd).to_ (ndsOf nd).tab cs ro
  refine (collect_any nd h1 (by rw [h2.len]; omega) (by simp) hro h2.unmarked (by omega) (Nat.le_of_lt h1.ar.blk.lt) (fun N hN => ?_)).mono ?_
  · obtain ⟨j, hj, _, e1, e2, e3, _⟩ := h2.mem hN
    have := hs (ds.getD j ([], [])) (by rw [List.getD_eq_getElem?_getD, List.getElem?_eq_getElem hj]; exact List.getElem_mem hj)
    rw [e1, e2, e3]
    exact ⟨this.1, this.2, by simp⟩
  · rintro e w' ⟨vg, fv', nd', rfl, hvg, hA, hu, hn⟩
    rw [k2] at hvg hA
    refine ⟨_, vg, fv', _, nd', k1, rfl, hvg, hu.mono fun k hk e => ?_, by simpa using hA, ?_, fun hm ht => ?_⟩
    · rcases e with e | e | e | e | e | e
      · exact .inl e
      · exact .inr (.inl e)
      · exact .inr (.inr (.inl e))
      · exact .inr (.inr (.inr (.inl ⟨h3 k e, _, (h1.nodes k e).blk⟩)))
      · obtain ⟨N, hN, e2⟩ := e
        obtain ⟨j, hj, _, _, _, _, e3, _⟩ := h2.mem hN
        rw [e3] at e2; cases e2
      · exact .inr (.inr (.inr (.inr e)))
    · rw [show (swL (markP (ndsOf nd).to_ (ndsOf nd).tab cs ro)).length = (markP (ndsOf nd).to_ (ndsOf nd).tab cs ro).length by simp [swL], hse.len, h2.len]
    · generalize markP (ndsOf nd).to_ (ndsOf nd).tab cs ro = M at *
      have hlen : M.length = ds.length := hse.len.trans h2.len
      refine ⟨⟨by simp [swL, hlen], fun j hj => ?_⟩, fun N hN => h3 N (by rw [← bodies_ext hse.len hse.body]; exact swL_sub hN)⟩
      obtain ⟨N, e1, e2, e3, e4, e5, e6⟩ := h2.at_ j hj
      have hmj := hm j hj
      have hMj : M.getD j (none, false) = (some N, true) := by
        refine Prod.ext ?_ ?_
        · rw [hse.body, e1]
        · simp only [List.getD_eq_getElem?_getD, List.getElem?_map] at hmj ⊢
          cases hq : M[j]? with
          | none => rw [hq] at hmj; cases hmj
          | some c => rw [hq] at hmj; exact hmj
      have hsw : (swL M).getD j (none, false) = (some N, false) := by
        simp only [swL, List.getD_eq_getElem?_getD, List.getElem?_map] at hMj ⊢
        cases hq : M[j]? with
        | none => rw [hq] at hMj; cases hMj
        | some c => rw [hq] at hMj; simp only [Option.getD_some] at hMj; subst hMj; rfl
      obtain ⟨q1, q2, q3, q4, q5⟩ := hn N (bodies_at (i := j) (by rw [hsw]))
      refine ⟨N, hsw, q1.trans e2, ?_, ?_, q4.trans e5, fun h => q5.trans (e6 h)⟩
      · have hde : (ds.getD j ([], [])).2 = [] := ht _ (by rw [List.getD_eq_getElem?_getD, List.getElem?_eq_getElem hj]; exact List.getElem_mem hj)
        rw [q2, e3, hde]; rfl
      · rw [e4] at q3
        exact List.eq_nil_of_length_eq_zero q3
theorem ne_cells {w : World} {B n s : Nat} {t : TypeId} {v : Value} {xs : List Value} (h : w.ownsRow B t s v n xs) {g : Nat} {t' : TypeId} (hg : ∃ c fz, w.heap[g]? = some (.cells c t' fz)) (ht : t ≠ t') : v.ownBlock ≠ some g := fun e => by
  obtain ⟨c, f, h1⟩ := own_kind h g e
  obtain ⟨c2, f2, h2⟩ := hg
  rw [h1] at h2
  simp at h2
  exact ht h2.2.1
theorem Built.col_ge {tn : Prop} {W : World} {A : Nat} {cv fv rv : Value} {ds : List De} {ro : List Int} (h : Built tn W A cv fv rv ds ro) {k : Nat} (hk : colB W A cv fv k) : A ≤ k := by
  obtain ⟨cs, nd, h1, _, _⟩ := h
  rcases hk with rfl | e | e | e | e
  · exact Nat.le_refl _
  · exact (h1.ar.cells.lt k e).1
  · exact (h1.ar.free.lt k e).1
  · exact e.1
  · exact Nat.le_trans (Nat.le_of_lt h1.ar.blk.lt) e
theorem Built.col_below {tn : Prop} {w1 W W' : World} {A : Nat} {cv fv rv : Value} {ds : List De} {ro : List Int} (h : Built tn W A cv fv rv ds ro) (b : Below A w1 W) (u : Upd W W' (colB W A cv fv)) : Below A w1 W' := by
  obtain ⟨c, hb⟩ := h.blkA
  exact b.trans (u.below (Nat.le_of_lt hb.lt) (fun k hk => h.col_ge hk))
/-- A row of numbers beside lives through a collection. -/
theorem col_row {W W' : World} {A B n : Nat} {cv fv v : Value} {xs : List Value} (h : W.ownsRow B 3 1 v n xs) (u : Upd W W' (colB W A cv fv)) (hA : ∃ c, Blk W A 64 c) (hc : ∀ g, cv.ownBlock = some g → ∃ c fz, W.heap[g]? = some (.cells c 66 fz)) (hf : ∀ g, v.ownBlock = some g → fv.ownBlock ≠ some g) : W'.ownsRow B 3 1 v n xs := by
  refine u.own h (fun g hg e => ?_)
  rcases e with rfl | e | e | ⟨_, c, hb⟩ | e
  · obtain ⟨c, hb⟩ := hA
    exact own_blk h hb (by decide) hg
  · exact ne_cells h (hc g e) (by decide) hg
  · exact hf g hg e
  · exact own_blk h hb (by decide) hg
  · exact absurd (h.lt g hg).2 (Nat.not_lt_of_le e)
theorem Built.cells_kind {tn : Prop} {W : World} {A : Nat} {cv fv rv : Value} {ds : List De} {ro : List Int} (h : Built tn W A cv fv rv ds ro) : ∀ g, cv.ownBlock = some g → ∃ c fz, W.heap[g]? = some (.cells c 66 fz) := by
  obtain ⟨cs, nd, h1, _, _⟩ := h
  exact fun g hg => own_kind h1.ar.cells g hg
theorem norm_mod (n m : Int) (hm : 0 < m) (h9 : m < 1000000000) : ∃ N : Nat, (wrap64 (n.tmod m + m)).tmod m = (N : Int) ∧ (N : Int) < m := by
  have h1 := Int.tmod_lt_of_pos n hm
  have h2 := Int.lt_tmod_of_pos n hm
  rw [IntWalk.wrap64_in _ (by omega)]
  rw [Int.tmod_eq_emod_of_nonneg (by omega)]
  have h3 := Int.emod_nonneg (n.tmod m + m) (by omega : m ≠ 0)
  have h4 := Int.emod_lt_of_pos (n.tmod m + m) hm
  exact ⟨((n.tmod m + m) % m).toNat, by omega, by omega⟩
theorem own_below {w w' : World} {B n s : Nat} {t : TypeId} {v : Value} {xs : List Value} (h : w.ownsRow B t s v n xs) (b : Below w.heap.size w w') : w'.ownsRow B t s v n xs := (Upd.of_below_all (M := fun _ => False) b).own h (fun _ _ e => e)
def upto (k : Nat) : List Int := (List.range k).map fun i : Nat => (i : Int) + 1
theorem upto_succ (k : Nat) : upto (k + 1) = upto k ++ [(k : Int) + 1] := by simp [upto, List.range_succ]
theorem upto_len (k : Nat) : (upto k).length = k := by simp [upto]
end Go.Proofs.Ythcdhiknjpfmhaa
