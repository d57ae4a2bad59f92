/- The arena: what Collect leaves, out of its second loop's end and of sweep. -/
import Derived.Test.YthcdhiknjpfmhaaArS
set_option linter.unusedVariables false
set_option linter.unusedSimpArgs false
namespace Go.Proofs.Ythcdhiknjpfmhaa
open Go.RowKit Go.Shelf

theorem mem_get {cs : List Cell} {c : Cell} (h : c ∈ cs) : ∃ j, j < cs.length ∧ cs.getD j (none, false) = c := by
  obtain ⟨j, hj, e⟩ := List.getElem_of_mem h
  exact ⟨j, hj, by rw [List.getD_eq_getElem?_getD, List.getElem?_eq_getElem hj]; exact e⟩
theorem swL_bodies {cs : List Cell} {N : Nat} (h : N ∈ bodies (swL cs)) : ∃ j, j < cs.length ∧ cs.getD j (none, false) = (some N, true) := by
  obtain ⟨c, hc, e⟩ := List.mem_filterMap.1 h
  obtain ⟨d, hd, rfl⟩ := List.mem_map.1 hc
  obtain ⟨j, hj, hj2⟩ := mem_get hd
  refine ⟨j, hj, ?_⟩
  rw [hj2]
  obtain ⟨o, m⟩ := d
  cases o <;> cases m <;> simp [swC] at e ⊢
  exact e
theorem swL_sub {cs : List Cell} {N : Nat} (h : N ∈ bodies (swL cs)) : N ∈ bodies cs := by
  obtain ⟨j, _, e⟩ := swL_bodies h
  exact bodies_at (by rw [e])
theorem not_freed {cs : List Cell} (hnd : (bodies cs).Nodup) {N : Nat} (h : N ∈ bodies (swL cs)) : N ∉ freed cs := by
  intro hf
  obtain ⟨j, _, e⟩ := swL_bodies h
  obtain ⟨c, hc, e2⟩ := List.mem_filterMap.1 hf
  obtain ⟨hc1, hc2⟩ := List.mem_filter.1 hc
  obtain ⟨k, _, e3⟩ := mem_get hc1
  have : j = k := bodies_inj hnd (N := N) (by rw [e]) (by rw [e3]; exact e2)
  subst this
  rw [e] at e3
  subst e3
  simp [goes] at hc2
theorem swL_nodup {cs : List Cell} (hnd : (bodies cs).Nodup) : (bodies (swL cs)).Nodup := by
  have : bodies (swL cs) = (cs.filter (·.2)).filterMap (·.1) := by
    clear hnd
    induction cs with
    | nil => rfl
    | cons c l ih =>
      have hb : ∀ (c : Cell) l, bodies (c :: l) = c.1.toList ++ bodies l := by
        rintro ⟨o, m⟩ l
        cases o <;> simp [bodies]
      rw [show swL (c :: l) = swC c :: swL l from rfl, hb, ih]
      obtain ⟨o, m⟩ := c
      cases o <;> cases m <;> simp [swC]
  rw [this]
  exact (List.Sublist.filterMap (fun c : Cell => c.1) (List.filter_sublist (l := cs) (p := fun c : Cell => c.2))).nodup hnd
section
variable {w W w' : World} {A B : Nat} {cv fv rv : Value} {cs csM : List Cell} {fr ro : List Int} {live : Int} {nd ndi : Nat → Nod}
def vals (nd : Nat → Nod) (N : Nat) : NodeF := ((nd N).tv, (nd N).bv, (nd N).fv, (nd N).ends)
theorem col_end (h : ArN w A B cv fv rv cs fr ro live nd) (hL : Lp w W A B cv fv rv cs csM fr ro live nd ndi csM.length) (hb : bodies csM = bodies cs) {e : Ending} (hs : SwP W A B cv fv rv csM fr ro live (vals ndi) e w') : CoP w A B cv fv rv cs fr ro live nd csM e w' := by
  obtain ⟨vg, fv', rfl, hvg, har, hbl, hu, hf', hv'⟩ := hs
  have hnM : (bodies csM).Nodup := by rw [hb]; exact h.nodup
  have hnode : ∀ N ∈ bodies (swL csM), NodR w' B N (ndi N) := fun N hN => by
    have hN2 := swL_sub hN
    have hN3 : N ∈ bodies cs := by rw [← hb]; exact hN2
    have hR := hL.nodes N hN3
    have sN := hL.same N hN3
    have hk := hbl N hN2
    rw [ndAt, if_neg (not_freed hnM hN)] at hk
    have far : ∀ {t : TypeId} {s n : Nat} {v : Value} {xs : List Value}, W.ownsRow B t s v n xs → t ≠ 64 → t ≠ 66 → t ≠ 30 → (∀ g, v.ownBlock = some g → fv.ownBlock ≠ some g) → w'.ownsRow B t s v n xs := by
      intro t s n v xs hv t1 t2 t3 hfr
      refine hu.own hv (fun g hg e => ?_)
      rcases e with rfl | e | e | e | e
      · exact own_blk hv hL.ar.blk t1 hg
      · rcases own_ne hv hL.ar.cells t2 with q | q
        · rw [q] at hg; cases hg
        · exact q (by rw [hg, e])
      · exact hfr g hg e
      · exact own_blk hv (hL.nodes g (by rw [← hb]; exact e)).blk t3 hg
      · exact absurd (hv.lt g hg).2 (Nat.not_lt_of_le e)
    refine ⟨hk, far hR.toR (by decide) (by decide) (by decide) (fun g hg e => ?_), far hR.tabR (by decide) (by decide) (by decide) (fun g hg e => ?_), far hR.faR (by decide) (by decide) (by decide) (fun g hg e => ?_)⟩
    · have := h.sep (.tos N) .free g hN3 trivial (by show (nd N).tv.ownBlock = some g; rw [← sN.1]; exact hg) e
      cases this
    · rcases own_ne hR.tabR hL.ar.free (by decide) with q | q
      · rw [q] at hg; cases hg
      · exact q (by rw [hg, e])
    · have := h.sep (.fa N) .free g hN3 trivial (by show (nd N).fv.ownBlock = some g; rw [← sN.2.1]; exact hg) e
      cases this
  have hin : ∀ N ∈ bodies (swL csM), N ∈ bodies cs := fun N hN => by rw [← hb]; exact swL_sub hN
  have hlab : ∀ s : Slot, s ≠ .free → s.ok (bodies (swL csM)) → lab fv' rv ndi s = lab fv rv nd s ∧ s.ok (bodies cs) ∧ ∀ g, lab fv' rv ndi s = some g → g < W.heap.size := by
    intro s hs ho
    cases s with
    | free => exact absurd rfl hs
    | roots => exact ⟨rfl, trivial, fun g hg => (hL.ar.roots.lt g hg).2⟩
    | tos N => exact ⟨by show (ndi N).tv.ownBlock = _; rw [(hL.same N (hin N ho)).1]; rfl, hin N ho, fun g hg => ((hL.nodes N (hin N ho)).toR.lt g hg).2⟩
    | fa N => exact ⟨by show (ndi N).fv.ownBlock = _; rw [(hL.same N (hin N ho)).2.1]; rfl, hin N ho, fun g hg => ((hL.nodes N (hin N ho)).faR.lt g hg).2⟩
  have hfree : ∀ s : Slot, s ≠ .free → s.ok (bodies (swL csM)) → ∀ g, lab fv' rv ndi s = some g → fv'.ownBlock ≠ some g := by
    intro s hs ho g hg e
    obtain ⟨l1, l2, l3⟩ := hlab s hs ho
    rcases hf' g e with q | q
    · exact hs (h.sep s .free g l2 trivial (l1 ▸ hg) q)
    · exact absurd (l3 g hg) (Nat.not_lt_of_le q)
  refine ⟨vg, fv', ndi, rfl, own_mono hvg hL.upd.size, ⟨har, hnode, ?_, swL_nodup hnM, fun N hN => ?_⟩, hL.upd.trans (hu.mono fun k _ e => ?_), fun N hN => ?_⟩
  · intro s s' g ho ho' hs hs'
    by_cases e : s = .free
    · by_cases e' : s' = .free
      · rw [e, e']
      · subst e
        exact absurd hs (hfree s' e' ho' g hs')
    · by_cases e' : s' = .free
      · subst e'
        exact absurd hs' (hfree s e ho g hs)
      · obtain ⟨l1, l2, _⟩ := hlab s e ho
        obtain ⟨m1, m2, _⟩ := hlab s' e' ho'
        exact h.sep s s' g l2 m2 (l1 ▸ hs) (m1 ▸ hs')
  · rw [(hL.same N (hin N hN)).2.2.2.1]; exact h.ends N (hin N hN)
  · rcases e with e | e | e | e | e
    · exact .inl e
    · exact .inr (.inl e)
    · exact .inr (.inr (.inl e))
    · exact .inr (.inr (.inr (.inl (by rw [← hb]; exact e))))
    · exact .inr (.inr (.inr (.inr (.inr (Nat.le_trans hL.upd.size e)))))
  · have sN := hL.same N (hin N hN)
    obtain ⟨j, hj, e⟩ := swL_bodies hN
    have := hL.tabs j N e
    rw [if_pos hj] at this
    exact ⟨sN.2.2.1, this, sN.2.2.2.2, sN.2.1, sN.1⟩
theorem ArN.loop (h : ArN w A B cv fv rv cs fr ro live nd) (ha : Ar W A B cv fv rv csM fr ro live) (hu : Upd w W (fun k => cv.ownBlock = some k ∨ w.heap.size ≤ k)) : Lp w W A B cv fv rv cs csM fr ro live nd nd 0 := by
  refine ⟨ha, fun N hN => ?_, hu.mono fun k _ e => ?_, fun N hN => ⟨rfl, rfl, rfl, rfl, rfl⟩, fun j N hj => by rw [if_neg (by omega)]⟩
  · have hR := h.nodes N hN
    have far : ∀ {t : TypeId} {s n : Nat} {v : Value} {xs : List Value}, w.ownsRow B t s v n xs → t ≠ 66 → ∀ g, v.ownBlock = some g → ¬ (cv.ownBlock = some g ∨ w.heap.size ≤ g) := by
      intro t s n v xs hv t2 g hg e
      rcases e with e | e
      · rcases own_ne hv h.ar.cells t2 with q | q
        · rw [q] at hg; cases hg
        · exact q (by rw [hg, e])
      · exact absurd (hv.lt g hg).2 (Nat.not_lt_of_le e)
    exact hR.upd hu (fun e => by
      rcases e with e | e
      · exact own_blk h.ar.cells hR.blk (by decide) e
      · exact absurd hR.blk.lt (Nat.not_lt_of_le e)) (far hR.toR (by decide)) (far hR.tabR (by decide)) (far hR.faR (by decide))
  · rcases e with e | e
    · exact .inr (.inl e)
    · exact .inr (.inr (.inr (.inr (.inr e))))
end
end Go.Proofs.Ythcdhiknjpfmhaa
