/- The arena: settling, purely. -/
import Derived.Test.YthcdhiknjpfmhaaArK
set_option linter.unusedVariables false
set_option linter.unusedSimpArgs false
namespace Go.Proofs.Ythcdhiknjpfmhaa
open Go.RowKit Go.Shelf

/-- A pair: its value is come to if its key is no dead cell. -/
def prF (s : List Cell × List Int) (p : Pr) : List Cell × List Int := if deadP s.1 p.1 then s else reachP s p.2
def ndF (tab : Nat → List Pr) (s : List Cell × List Int) (N : Nat) : List Cell × List Int := (tab N).foldl prF s
/-- All pairs of all bodies, once. -/
def pairsP (tab : Nat → List Pr) (pr : List Nat) (s : List Cell × List Int) : List Cell × List Int := pr.foldl (ndF tab) s
/-- How much fuel draining wants. -/
def dfu (s : List Cell × List Int) : Nat := s.2.length + (s.1.length - mc s.1)
def settleP (toF : Nat → List Int) (tab : Nat → List Pr) : Nat → List Cell → List Nat → List Cell × List Nat
  | 0, cs, pr => (cs, pr)
  | f + 1, cs, pr => if (pairsP tab pr (cs, [])).2 = [] then ((pairsP tab pr (cs, [])).1, pr)
    else settleP toF tab f (drainP toF (dfu (pairsP tab pr (cs, []))) (pairsP tab pr (cs, [])).1 (pairsP tab pr (cs, [])).2 pr).1 (drainP toF (dfu (pairsP tab pr (cs, []))) (pairsP tab pr (cs, [])).1 (pairsP tab pr (cs, [])).2 pr).2
/-- Only cells with a body are marked. -/
def Somes (cs : List Cell) : Prop := ∀ i, (cs.getD i (none, false)).2 = true → ∃ N, (cs.getD i (none, false)).1 = some N
theorem reachP_somes (s : List Cell × List Int) (r : Int) (h : Somes s.1) : Somes (reachP s r).1 := by
  intro i hi
  unfold reachP at hi ⊢
  split at hi
  · rename_i hd
    rw [if_pos hd]
    obtain ⟨j, N, rfl, hj, h1, h2⟩ := dead_ix hd
    rw [show ((j : Int) + 1 - 1).toNat = j by omega] at hi ⊢
    simp only [List.getD_eq_getElem?_getD, List.getElem?_set] at hi h1 ⊢
    by_cases e : j = i
    · subst e
      rw [if_pos rfl, if_pos hj]
      exact ⟨N, h1⟩
    · rw [if_neg e] at hi ⊢
      have := h i
      simp only [List.getD_eq_getElem?_getD] at this
      exact this hi
  · rename_i hd
    rw [if_neg hd]
    exact h i hi
/-- What every step of marking keeps. -/
structure Mk (s s' : List Cell × List Int) : Prop where
  len : s'.1.length = s.1.length
  cnt : s'.2.length + mc s.1 = s.2.length + mc s'.1
  body : ∀ i, (s'.1.getD i (none, false)).1 = (s.1.getD i (none, false)).1
  ok : WorkOk s.1 s.2 → WorkOk s'.1 s'.2
  mono : mc s.1 ≤ mc s'.1
  some : Somes s.1 → Somes s'.1
theorem Mk.refl (s : List Cell × List Int) : Mk s s := ⟨rfl, rfl, fun _ => rfl, id, Nat.le_refl _, id⟩
theorem Mk.trans {a b c : List Cell × List Int} (h : Mk a b) (k : Mk b c) : Mk a c :=
  ⟨k.len.trans h.len, by have := h.cnt; have := k.cnt; omega, fun i => (k.body i).trans (h.body i), fun o => k.ok (h.ok o), Nat.le_trans h.mono k.mono, fun o => k.some (h.some o)⟩
theorem reachP_mono (s : List Cell × List Int) (r : Int) : mc s.1 ≤ mc (reachP s r).1 := by
  have := reachP_mc s r
  unfold reachP at *
  split at this <;> simp_all <;> omega
theorem reachP_mk (s : List Cell × List Int) (r : Int) : Mk s (reachP s r) := ⟨reachP_len s r, reachP_mc s r, reachP_body s r, fun h => h.reach r, reachP_mono s r, reachP_somes s r⟩
theorem foldl_mk {α : Type} (f : List Cell × List Int → α → List Cell × List Int) (hf : ∀ s x, Mk s (f s x)) (l : List α) (s : List Cell × List Int) : Mk s (l.foldl f s) := by
  induction l generalizing s with
  | nil => exact Mk.refl s
  | cons x l ih => exact (hf s x).trans (ih _)
theorem prF_mk (s : List Cell × List Int) (p : Pr) : Mk s (prF s p) := by
  unfold prF; split
  · exact Mk.refl s
  · exact reachP_mk s _
theorem ndF_mk (tab : Nat → List Pr) (s : List Cell × List Int) (N : Nat) : Mk s (ndF tab s N) := foldl_mk prF prF_mk _ _
theorem pairsP_mk (tab : Nat → List Pr) (pr : List Nat) (s : List Cell × List Int) : Mk s (pairsP tab pr s) := foldl_mk _ (ndF_mk tab) _ _
def PrOk (cs : List Cell) (pr : List Nat) : Prop := ∀ N ∈ pr, ∃ i, (cs.getD i (none, false)).1 = some N
theorem PrOk.body {cs cs' : List Cell} {pr : List Nat} (h : PrOk cs pr) (hb : ∀ i, (cs'.getD i (none, false)).1 = (cs.getD i (none, false)).1) : PrOk cs' pr := fun N hN => by
  obtain ⟨i, hi⟩ := h N hN
  exact ⟨i, (hb i).trans hi⟩
/-- What draining leaves. -/
structure Dr (cs : List Cell) (wk : List Int) (pr : List Nat) (r : List Cell × List Nat) : Prop where
  len : r.1.length = cs.length
  cnt : r.2.length + mc cs = pr.length + wk.length + mc r.1
  body : ∀ i, (r.1.getD i (none, false)).1 = (cs.getD i (none, false)).1
  ok : PrOk cs pr → PrOk r.1 r.2
  mono : mc cs ≤ mc r.1
  some : Somes cs → Somes r.1
theorem drainP_dr (toF : Nat → List Int) (f : Nat) (cs : List Cell) (wk : List Int) (pr : List Nat) (hok : WorkOk cs wk) (hf : wk.length + (cs.length - mc cs) ≤ f) : Dr cs wk pr (drainP toF f cs wk pr) := by
  induction f generalizing cs wk pr with
  | zero =>
    obtain rfl : wk = [] := List.eq_nil_of_length_eq_zero (by omega)
    exact ⟨rfl, rfl, fun _ => rfl, id, Nat.le_refl _, id⟩
  | succ f ih =>
    rcases snoc_cases wk with rfl | ⟨wk2, r, rfl⟩
    · exact ⟨rfl, rfl, fun _ => rfl, id, Nat.le_refl _, id⟩
    · obtain ⟨i, N, rfl, hi, hN⟩ := hok r (by simp)
      rw [drainP]
      simp only [List.getLast?_append, List.getLast?_singleton, Option.some_or, List.dropLast_concat]
      rw [show ((i : Int) + 1 - 1).toNat = i by omega, hN]
      dsimp only
      have hk : Mk (cs, wk2) ((toF N).foldl reachP (cs, wk2)) := foldl_mk _ reachP_mk _ _
      generalize (toF N).foldl reachP (cs, wk2) = s at *
      have hl := hk.len
      have hc := hk.cnt
      have hm := hk.mono
      have hle := mc_le s.1
      dsimp only at hl hc hm
      have hlen : (wk2 ++ [(i : Int) + 1]).length = wk2.length + 1 := by simp
      rw [hlen] at hf
      have := ih s.1 s.2 (pr ++ [N]) (hk.ok (fun r hr => hok r (List.mem_append_left _ hr))) (by omega)
      refine ⟨this.len.trans hl, ?_, fun j => (this.body j).trans (hk.body j), fun hp => this.ok ?_, Nat.le_trans hm this.mono, fun h => this.some (hk.some h)⟩
      · have h1 := this.cnt
        rw [List.length_append, List.length_cons, List.length_nil] at h1
        rw [hlen]; omega
      · intro N' hN'
        rcases List.mem_append.1 hN' with h | h
        · exact (PrOk.body hp hk.body) N' h
        · rw [List.mem_singleton.1 h]; exact ⟨i, (hk.body i).trans hN⟩
/-- What settling keeps. -/
structure Se (cs : List Cell) (r : List Cell) : Prop where
  len : r.length = cs.length
  body : ∀ i, (r.getD i (none, false)).1 = (cs.getD i (none, false)).1
  some : Somes cs → Somes r
theorem settleP_se (toF : Nat → List Int) (tab : Nat → List Pr) (f : Nat) (cs : List Cell) (pr : List Nat) : Se cs (settleP toF tab f cs pr).1 := by
  induction f generalizing cs pr with
  | zero => exact ⟨rfl, fun _ => rfl, id⟩
  | succ f ih =>
    have hp := pairsP_mk tab pr (cs, [])
    rw [settleP]
    split
    · exact ⟨hp.len, hp.body, hp.some⟩
    · have hd := drainP_dr toF (dfu (pairsP tab pr (cs, []))) (pairsP tab pr (cs, [])).1 (pairsP tab pr (cs, [])).2 pr (hp.ok (fun r hr => (List.not_mem_nil hr).elim)) (Nat.le_refl _)
      have hi := ih (drainP toF (dfu (pairsP tab pr (cs, []))) (pairsP tab pr (cs, [])).1 (pairsP tab pr (cs, [])).2 pr).1 (drainP toF (dfu (pairsP tab pr (cs, []))) (pairsP tab pr (cs, [])).1 (pairsP tab pr (cs, [])).2 pr).2
      exact ⟨hi.len.trans (hd.len.trans hp.len), fun i => (hi.body i).trans ((hd.body i).trans (hp.body i)), fun h => hi.some (hd.some (hp.some h))⟩
theorem bodies_ext {cs cs' : List Cell} (hl : cs'.length = cs.length) (hb : ∀ i, (cs'.getD i (none, false)).1 = (cs.getD i (none, false)).1) : bodies cs' = bodies cs := by
  have : cs'.map (·.1) = cs.map (·.1) := by
    refine List.ext_getElem (by simp [hl]) (fun i h1 h2 => ?_)
    have := hb i
    simp only [List.length_map] at h1 h2
    simpa [List.getD_eq_getElem?_getD, List.getElem?_eq_getElem h1, List.getElem?_eq_getElem h2] using this
  have e : ∀ l : List Cell, bodies l = (l.map (·.1)).filterMap id := fun l => by rw [List.filterMap_map]; rfl
  rw [e, e, this]
end Go.Proofs.Ythcdhiknjpfmhaa
