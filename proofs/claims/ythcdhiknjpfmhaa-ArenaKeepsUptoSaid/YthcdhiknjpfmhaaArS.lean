/- The arena: the second loop of Collect, a step of it. -/
import Derived.Test.YthcdhiknjpfmhaaArO
import Derived.Test.YthcdhiknjpfmhaaArP
set_option linter.unusedVariables false
set_option linter.unusedSimpArgs false
namespace Go.Proofs.Ythcdhiknjpfmhaa
open Go.RowKit Go.Shelf

theorem bodies_inj {cs : List Cell} (h : (bodies cs).Nodup) {i j N : Nat} (hi : (cs.getD i (none, false)).1 = some N) (hj : (cs.getD j (none, false)).1 = some N) : i = j := by
  induction cs generalizing i j with
  | nil => simp at hi
  | cons c l ih =>
    have hb : bodies (c :: l) = c.1.toList ++ bodies l := by
      obtain ⟨o, m⟩ := c
      cases o <;> simp [bodies]
    rw [hb] at h
    have hn := (List.nodup_append.1 h)
    cases i with
    | zero =>
      cases j with
      | zero => rfl
      | succ j =>
        have e1 : c.1 = some N := by simpa using hi
        have e2 : (l.getD j (none, false)).1 = some N := by simpa using hj
        exact absurd rfl (hn.2.2 N (by simp [e1]) N (bodies_at e2))
    | succ i =>
      cases j with
      | zero =>
        have e1 : c.1 = some N := by simpa using hj
        have e2 : (l.getD i (none, false)).1 = some N := by simpa using hi
        exact absurd rfl (hn.2.2 N (by simp [e1]) N (bodies_at e2))
      | succ j => exact congrArg (· + 1) (ih (i := i) (j := j) hn.2.1 (by simpa using hi) (by simpa using hj))
section
variable {w W W1 W2 : World} {A B : Nat} {cv fv rv : Value} {cs csM : List Cell} {fr ro : List Int} {live : Int} {nd ndi : Nat → Nod} {i N : Nat}
theorem Lp.skip (h : Lp w W A B cv fv rv cs csM fr ro live nd ndi i) (hm : (csM.getD i (none, false)).2 = false) : Lp w W A B cv fv rv cs csM fr ro live nd ndi (i + 1) := by
  refine ⟨h.ar, h.nodes, h.upd, h.same, fun j N hj => ?_⟩
  have := h.tabs j N hj
  rw [this]
  by_cases e : j = i
  · subst e
    rw [hj] at hm; cases hm
  · by_cases e2 : j < i
    · rw [if_pos e2, if_pos (by omega)]
    · rw [if_neg e2, if_neg (by omega)]
theorem NodR.upd {x : Nod} {M : Nat → Prop} (h : NodR W B N x) (u : Upd W W1 M) (h1 : ¬ M N) (h2 : ∀ g, x.tv.ownBlock = some g → ¬ M g) (h3 : ∀ g, x.bv.ownBlock = some g → ¬ M g) (h4 : ∀ g, x.fv.ownBlock = some g → ¬ M g) : NodR W1 B N x :=
  ⟨u.blk h.blk h1, u.own h.toR h2, u.own h.tabR h3, u.own h.faR h4⟩
theorem Lp.step (h : Lp w W A B cv fv rv cs csM fr ro live nd ndi i) (hb : bodies csM = bodies cs) (hnd : (bodies cs).Nodup) (hsep : Sep fv rv nd (bodies cs)) (hB : B ≤ w.heap.size) (hi : csM.getD i (none, false) = (some N, true)) {v' : Value}
    (o1 : W1.ownsRow W.heap.size 32 2 v' (dropped csM (ndi N).tab).length (prCells (dropped csM (ndi N).tab))) (k1 : Blk W1 N 30 (ndC (ndi N).tv v' (ndi N).fv (ndi N).ends)) (u1 : Upd W W1 (fun k => k = N))
    (o2 : W2.ownsRow B 3 1 (ndi N).fv (ndi N).fa.length (numCells ((ndi N).fa.map fun k => if deadP csM k then 0 else k))) (u2 : Upd W1 W2 (fun k => (ndi N).fv.ownBlock = some k)) :
    Lp w W2 A B cv fv rv cs csM fr ro live nd (fun K => if K = N then { ndi N with bv := v', tab := dropped csM (ndi N).tab, fa := (ndi N).fa.map fun k => if deadP csM k then 0 else k } else ndi K) (i + 1) := by
  have hN : N ∈ bodies cs := by rw [← hb]; exact bodies_at (by rw [hi])
  have hNN := h.nodes N hN
  have sN := h.same N hN
  have hfa : ∀ s, s.ok (bodies cs) → s ≠ .fa N → ∀ g, lab fv rv nd s = some g → (ndi N).fv.ownBlock ≠ some g := fun s hs hne g hg e => by
    rw [sN.2.1] at e
    exact hne (hsep s (.fa N) g hs hN hg e)
  have ar1 := h.ar.upd u1 (fun e => h.ar.blk.ne_ hNN.blk (by decide) e) (fun g hg e => own_blk h.ar.cells hNN.blk (by decide) (by rw [hg, e])) (fun g hg e => own_blk h.ar.free hNN.blk (by decide) (by rw [hg, e])) (fun g hg e => own_blk h.ar.roots hNN.blk (by decide) (by rw [hg, e]))
  have f1 := u1.own hNN.faR (fun g hg e => own_blk hNN.faR hNN.blk (by decide) (by rw [hg, e]))
  have ar2 := ar1.upd u2 (fun e => own_blk f1 ar1.blk (by decide) e) (fun g hg e => by
      rcases own_ne ar1.cells f1 (by decide) with q | q
      · rw [q] at hg; cases hg
      · exact q (by rw [hg, e])) (fun g hg e => hfa .free trivial (by simp) g hg e) (fun g hg e => hfa .roots trivial (by simp) g hg e)
  refine ⟨ar2, fun K hK => ?_, (h.upd.trans (u1.mono fun k _ e => ?_)).trans (u2.mono fun k _ e => ?_), fun K hK => ?_, fun j K hj => ?_⟩
  · dsimp only
    split
    · rename_i e
      subst e
      have t1 := u1.own hNN.toR (fun g hg e => own_blk hNN.toR hNN.blk (by decide) (by rw [hg, e]))
      refine ⟨u2.blk k1 (fun e => own_blk f1 k1 (by decide) e), u2.own t1 (fun g hg e => hfa (.tos K) hN (by simp) g (by show (nd K).tv.ownBlock = some g; rw [← sN.1]; exact hg) e), ?_, ?_⟩
      · refine u2.own (own_mono o1 (Nat.le_trans hB h.upd.size)) (fun g hg e => ?_)
        rcases own_ne o1 f1 (by decide) with q | q
        · rw [q] at hg; cases hg
        · exact q (by rw [hg, e])
      · dsimp only
        rw [List.length_map]
        exact o2
    · rename_i e
      have hKK := h.nodes K hK
      have sK := h.same K hK
      have n1 := hKK.upd u1 e (fun g hg e => own_blk hKK.toR hNN.blk (by decide) (by rw [hg, e])) (fun g hg e => own_blk hKK.tabR hNN.blk (by decide) (by rw [hg, e])) (fun g hg e => own_blk hKK.faR hNN.blk (by decide) (by rw [hg, e]))
      refine n1.upd u2 (fun e => own_blk f1 n1.blk (by decide) e) (fun g hg e => hfa (.tos K) hK (by simp) g (by show (nd K).tv.ownBlock = some g; rw [← sK.1]; exact hg) e) (fun g hg e => ?_) (fun g hg e' => hfa (.fa K) hK (by simpa using e) g (by show (nd K).fv.ownBlock = some g; rw [← sK.2.1]; exact hg) e')
      rcases own_ne n1.tabR f1 (by decide) with q | q
      · rw [q] at hg; cases hg
      · exact q (by rw [hg, e])
  · exact .inr (.inr (.inr (.inl (by rw [e]; exact hN))))
  · exact .inr (.inr (.inr (.inr (.inl ⟨N, hN, by rw [← sN.2.1]; exact e⟩))))
  · dsimp only
    split
    · rename_i e
      subst e
      exact ⟨sN.1, sN.2.1, sN.2.2.1, sN.2.2.2.1, by simp [sN.2.2.2.2]⟩
    · exact h.same K hK
  · dsimp only
    split
    · rename_i e
      subst e
      have : j = i := bodies_inj (by rw [hb]; exact hnd) (N := K) (by rw [hj]) (by rw [hi])
      subst this
      rw [if_pos (by omega)]
      have := h.tabs j K hi
      rw [if_neg (by omega)] at this
      rw [this]
    · rename_i e
      have hji : j ≠ i := by
        rintro rfl
        rw [hi] at hj
        exact e (by cases hj; rfl)
      rw [h.tabs j K hj]
      by_cases e2 : j < i
      · rw [if_pos e2, if_pos (by omega)]
      · rw [if_neg e2, if_neg (by omega)]
end
end Go.Proofs.Ythcdhiknjpfmhaa
