/- The arena: what is marked is closed, and no more than must be. No program in sight. -/
import Derived.Test.YthcdhiknjpfmhaaArT
set_option linter.unusedVariables false
set_option linter.unusedSimpArgs false
namespace Go.Proofs.Ythcdhiknjpfmhaa
open Go.RowKit

/-- r is the number of a cell with a body. -/
def Valid (cs : List Cell) (r : Int) : Prop := ∃ (i N : Nat), r = (i : Int) + 1 ∧ (cs.getD i (none, false)).1 = some N
theorem get_lt {cs : List Cell} {i N : Nat} (h : (cs.getD i (none, false)).1 = some N) : i < cs.length := by
  apply Decidable.byContradiction
  intro hi
  rw [List.getD_eq_getElem?_getD, List.getElem?_eq_none (by omega)] at h
  cases h
theorem Valid.iff {cs : List Cell} {r : Int} : deadP cs r = true ↔ ∃ (i N : Nat), r = (i : Int) + 1 ∧ (cs.getD i (none, false)).1 = some N ∧ (cs.getD i (none, false)).2 = false := by
  constructor
  · intro h
    obtain ⟨i, N, e, _, h1, h2⟩ := dead_ix h
    exact ⟨i, N, e, h1, h2⟩
  · rintro ⟨i, N, rfl, h1, h2⟩
    rw [deadP_at cs i (get_lt h1), h1, h2]
    rfl
theorem live_of {cs : List Cell} {i N : Nat} (h1 : (cs.getD i (none, false)).1 = some N) (h : deadP cs ((i : Int) + 1) = false) : (cs.getD i (none, false)).2 = true := by
  rw [deadP_at cs i (get_lt h1), h1] at h
  simpa using h
/-- What no more is dead. -/
structure Go2 (s s' : List Cell × List Int) : Prop where
  live : ∀ r, deadP s.1 r = false → deadP s'.1 r = false
  keep : ∀ i, (s.1.getD i (none, false)).2 = true → (s'.1.getD i (none, false)).2 = true
  new : ∀ i, (s'.1.getD i (none, false)).2 = true → (s.1.getD i (none, false)).2 = true ∨ ((i : Int) + 1) ∈ s'.2
  work : ∀ r ∈ s.2, r ∈ s'.2
  more : s.2.length ≤ s'.2.length
  same : s'.2.length = s.2.length → s' = s
theorem Go2.refl (s : List Cell × List Int) : Go2 s s := ⟨fun _ h => h, fun _ h => h, fun _ h => .inl h, fun _ h => h, Nat.le_refl _, fun _ => rfl⟩
theorem Go2.trans {a b c : List Cell × List Int} (h : Go2 a b) (k : Go2 b c) : Go2 a c :=
  ⟨fun r hr => k.live r (h.live r hr), fun i hi => k.keep i (h.keep i hi), fun i hi => by
    rcases k.new i hi with q | q
    · rcases h.new i q with q' | q'
      · exact .inl q'
      · exact .inr (k.work _ q')
    · exact .inr q, fun r hr => k.work r (h.work r hr), Nat.le_trans h.more k.more, fun e => by
    have := h.more; have := k.more
    rw [k.same (by omega), h.same (by omega)]⟩
theorem reachP_go (s : List Cell × List Int) (r : Int) : Go2 s (reachP s r) ∧ deadP (reachP s r).1 r = false := by
  by_cases hd : deadP s.1 r = true
  · have e : reachP s r = (s.1.set (r - 1).toNat ((s.1.getD (r - 1).toNat (none, false)).1, true), s.2 ++ [r]) := by unfold reachP; rw [if_pos hd]
    obtain ⟨j, N, rfl, hj, h1, h2⟩ := dead_ix hd
    rw [show ((j : Int) + 1 - 1).toNat = j by omega] at e
    have hg : ∀ i, ((s.1.set j ((s.1.getD j (none, false)).1, true)).getD i (none, false)) = if i = j then ((s.1.getD j (none, false)).1, true) else s.1.getD i (none, false) := by
      intro i
      simp only [List.getD_eq_getElem?_getD, List.getElem?_set]
      by_cases e2 : j = i
      · subst e2
        rw [if_pos rfl, if_pos hj, if_pos rfl]; rfl
      · rw [if_neg e2, if_neg (fun q => e2 q.symm)]
    have hlive : ∀ r', deadP s.1 r' = false → deadP (s.1.set j ((s.1.getD j (none, false)).1, true)) r' = false := by
      intro r' hr'
      apply Bool.eq_false_iff.2
      intro hc
      obtain ⟨i, N', e3, q1, q2⟩ := Valid.iff.1 hc
      rw [hg] at q1 q2
      by_cases e2 : i = j
      · rw [if_pos e2] at q2; cases q2
      · rw [if_neg e2] at q1 q2
        rw [Valid.iff.2 ⟨i, N', e3, q1, q2⟩] at hr'
        cases hr'
    rw [e]
    refine ⟨⟨hlive, fun i hi => ?_, fun i hi => ?_, fun r' hr' => List.mem_append_left _ hr', by simp, fun q => by simp at q⟩, ?_⟩
    · dsimp only; rw [hg]; split
      · rfl
      · exact hi
    · dsimp only at hi; rw [hg] at hi
      by_cases e2 : i = j
      · subst e2; exact .inr (by simp)
      · rw [if_neg e2] at hi; exact .inl hi
    · apply Bool.eq_false_iff.2
      intro hc
      obtain ⟨i, N', e3, q1, q2⟩ := Valid.iff.1 hc
      have : j = i := by omega
      subst this
      dsimp only at q2
      rw [hg, if_pos rfl] at q2; cases q2
  · have e : reachP s r = s := by unfold reachP; rw [if_neg hd]
    rw [e]
    exact ⟨Go2.refl s, by simpa using hd⟩
theorem foldl_go {α : Type} (f : List Cell × List Int → α → List Cell × List Int) (hf : ∀ s x, Go2 s (f s x)) (l : List α) (s : List Cell × List Int) : Go2 s (l.foldl f s) := by
  induction l generalizing s with
  | nil => exact Go2.refl s
  | cons x l ih => exact (hf s x).trans (ih _)
theorem reach_all (l : List Int) (s : List Cell × List Int) : ∀ r ∈ l, deadP (l.foldl reachP s).1 r = false := by
  induction l generalizing s with
  | nil => exact fun r hr => (List.not_mem_nil hr).elim
  | cons x l ih =>
    intro r hr
    rw [List.foldl_cons]
    rcases List.mem_cons.1 hr with rfl | hr
    · exact (foldl_go reachP (fun s x => (reachP_go s x).1) l _).live _ (reachP_go s r).2
    · exact ih _ r hr
theorem prF_go (s : List Cell × List Int) (p : Pr) : Go2 s (prF s p) := by
  unfold prF; split
  · exact Go2.refl s
  · exact (reachP_go s _).1
theorem foldl_same {α : Type} (f : List Cell × List Int → α → List Cell × List Int) (hf : ∀ s x, Go2 s (f s x)) (l : List α) (s : List Cell × List Int) (h : (l.foldl f s).2.length = s.2.length) : l.foldl f s = s ∧ ∀ x ∈ l, f s x = s := by
  induction l generalizing s with
  | nil => exact ⟨rfl, fun x hx => (List.not_mem_nil hx).elim⟩
  | cons x l ih =>
    rw [List.foldl_cons] at h ⊢
    have h1 := (hf s x).more
    have h2 := (foldl_go f hf l (f s x)).more
    have e := (hf s x).same (by omega)
    rw [e] at h ⊢
    obtain ⟨i1, i2⟩ := ih s h
    exact ⟨i1, fun y hy => by
      rcases List.mem_cons.1 hy with rfl | hy
      · exact e
      · exact i2 y hy⟩
/-- Where draining stands. -/
structure DInv (toF : Nat → List Int) (cs : List Cell) (wk : List Int) (pr : List Nat) : Prop where
  all : ∀ i N, (cs.getD i (none, false)) = (some N, true) → ((i : Int) + 1) ∈ wk ∨ N ∈ pr
  done : ∀ N ∈ pr, ∀ r ∈ toF N, deadP cs r = false
theorem drainP_inv (toF : Nat → List Int) (f : Nat) (cs : List Cell) (wk : List Int) (pr : List Nat) (hok : WorkOk cs wk) (hf : wk.length + (cs.length - mc cs) ≤ f) (hs : Somes cs) (h : DInv toF cs wk pr) :
    DInv toF (drainP toF f cs wk pr).1 [] (drainP toF f cs wk pr).2 ∧ (∀ r, deadP cs r = false → deadP (drainP toF f cs wk pr).1 r = false) ∧ (∀ i, (cs.getD i (none, false)).2 = true → ((drainP toF f cs wk pr).1.getD i (none, false)).2 = true) := by
  induction f generalizing cs wk pr with
  | zero =>
    obtain rfl : wk = [] := List.eq_nil_of_length_eq_zero (by omega)
    exact ⟨h, fun _ h => h, fun _ h => h⟩
  | succ f ih =>
    rcases snoc_cases wk with rfl | ⟨wk2, r, rfl⟩
    · exact ⟨h, fun _ h => h, fun _ h => h⟩
    · obtain ⟨i, N, rfl, hi, hN⟩ := hok r (by simp)
      rw [drainP]
      simp only [List.getLast?_append, List.getLast?_singleton, Option.some_or, List.dropLast_concat]
      rw [show ((i : Int) + 1 - 1).toNat = i by omega, hN]
      dsimp only
      have hk : Mk (cs, wk2) ((toF N).foldl reachP (cs, wk2)) := foldl_mk _ reachP_mk _ _
      have hg : Go2 (cs, wk2) ((toF N).foldl reachP (cs, wk2)) := foldl_go _ (fun s x => (reachP_go s x).1) _ _
      have ha := reach_all (toF N) (cs, wk2)
      generalize (toF N).foldl reachP (cs, wk2) = s at *
      have hl := hk.len
      have hc := hk.cnt
      have hm := hk.mono
      have hle := mc_le s.1
      dsimp only at hl hc hm
      have hlen : (wk2 ++ [(i : Int) + 1]).length = wk2.length + 1 := by simp
      rw [hlen] at hf
      have := ih s.1 s.2 (pr ++ [N]) (hk.ok (fun r hr => hok r (List.mem_append_left _ hr))) (by omega) (hk.some hs) ⟨fun j M hj => ?_, fun M hM r hr => ?_⟩
      · exact ⟨this.1, fun r hr => this.2.1 r (hg.live r hr), fun j hj => this.2.2 j (hg.keep j hj)⟩
      · rcases hg.new j (by rw [hj]) with q | q
        · have hb := hk.body j
          dsimp only at q hb
          rw [hj] at hb
          rcases h.all j M (Prod.ext hb.symm q) with q2 | q2
          · rcases List.mem_append.1 q2 with q3 | q3
            · exact .inl (hg.work _ q3)
            · have : j = i := by have := List.mem_singleton.1 q3; omega
              subst this
              rw [hN] at hb
              cases hb
              exact .inr (by simp)
          · exact .inr (List.mem_append_left _ q2)
        · exact .inl q
      · rcases List.mem_append.1 hM with q | q
        · exact hg.live r (h.done M q r hr)
        · rw [List.mem_singleton.1 q] at hr
          exact ha r hr
/-- What is settled. -/
structure SInv (toF : Nat → List Int) (tab : Nat → List Pr) (cs : List Cell) : Prop where
  to_ : ∀ i N, (cs.getD i (none, false)) = (some N, true) → ∀ r ∈ toF N, deadP cs r = false
  pair : ∀ i N, (cs.getD i (none, false)) = (some N, true) → ∀ p ∈ tab N, deadP cs p.1 = false → deadP cs p.2 = false
theorem settleP_inv (toF : Nat → List Int) (tab : Nat → List Pr) (f : Nat) (cs : List Cell) (pr : List Nat) (hf : cs.length - mc cs < f) (hs : Somes cs) (h : DInv toF cs [] pr) :
    SInv toF tab (settleP toF tab f cs pr).1 ∧ (∀ r, deadP cs r = false → deadP (settleP toF tab f cs pr).1 r = false) := by
  induction f generalizing cs pr with
  | zero => omega
  | succ f ih =>
    have hk := pairsP_mk tab pr (cs, [])
    have hg : Go2 (cs, []) (pairsP tab pr (cs, [])) := foldl_go _ (fun s N => foldl_go prF prF_go (tab N) s) pr _
    have hsame := foldl_same (ndF tab) (fun s N => foldl_go prF prF_go (tab N) s) pr (cs, [])
    rw [show pr.foldl (ndF tab) (cs, []) = pairsP tab pr (cs, []) from rfl] at hsame
    rw [settleP]
    split
    · rename_i he
      obtain ⟨e1, e2⟩ := hsame (by rw [he])
      rw [e1]
      dsimp only
      refine ⟨⟨fun i N hi r hr => ?_, fun i N hi p hp hd => ?_⟩, fun r hr => hr⟩
      · rcases h.all i N hi with q | q
        · exact (List.not_mem_nil q).elim
        · exact h.done N q r hr
      · rcases h.all i N hi with q | q
        · exact (List.not_mem_nil q).elim
        · obtain ⟨f1, f2⟩ := foldl_same prF prF_go (tab N) (cs, []) (by rw [show (tab N).foldl prF (cs, []) = ndF tab (cs, []) N from rfl, e2 N q])
          have := f2 p hp
          unfold prF at this
          dsimp only at this
          rw [if_neg (by rw [hd]; decide)] at this
          have h2 := (reachP_go (cs, []) p.2).2
          rw [this] at h2
          exact h2
    · rename_i hne
      generalize pairsP tab pr (cs, []) = s at *
      have hl := hk.len
      have hc := hk.cnt
      dsimp only at hl hc
      have hpos : 0 < s.2.length := List.length_pos_iff.2 hne
      have hle := mc_le s.1
      have hwk : WorkOk s.1 s.2 := hk.ok (fun r hr => (List.not_mem_nil hr).elim)
      have hd := drainP_dr toF (dfu s) s.1 s.2 pr hwk (Nat.le_refl _)
      have hi := drainP_inv toF (dfu s) s.1 s.2 pr hwk (Nat.le_refl _) (hk.some hs) ⟨fun i N hiN => ?_, fun N hN r hr => hg.live r (h.done N hN r hr)⟩
      · have := ih _ _ (by rw [hd.len]; have := hd.mono; simp only [List.length_nil] at hc; omega) (hd.some (hk.some hs)) hi.1
        exact ⟨this.1, fun r hr => this.2 r (hi.2.1 r (hg.live r hr))⟩
      · rcases hg.new i (by rw [hiN]) with q | q
        · have hb := hk.body i
          dsimp only at q hb
          rw [hiN] at hb
          rcases h.all i N (Prod.ext hb.symm q) with q2 | q2
          · exact (List.not_mem_nil q2).elim
          · exact .inr q2
        · exact .inl q
/-- Marking is closed. -/
theorem markP_closed (toF : Nat → List Int) (tab : Nat → List Pr) (cs : List Cell) (ro : List Int) (hum : ∀ c ∈ cs, c.2 = false) :
    SInv toF tab (markP toF tab cs ro) ∧ (∀ r ∈ ro, deadP (markP toF tab cs ro) r = false) := by
  have hun : ∀ i, (cs.getD i (none, false)).2 = false := fun i => by
    by_cases hi : i < cs.length
    · rw [List.getD_eq_getElem?_getD, List.getElem?_eq_getElem hi]; exact hum _ (List.getElem_mem hi)
    · rw [List.getD_eq_getElem?_getD, List.getElem?_eq_none (by omega)]; rfl
  have hs0 : Somes cs := fun i hi => by rw [hun i] at hi; cases hi
  have hk : Mk (cs, []) (startP cs ro) := foldl_mk _ reachP_mk _ _
  have hg : Go2 (cs, []) (startP cs ro) := foldl_go _ (fun s x => (reachP_go s x).1) _ _
  have hr0 : ∀ r ∈ ro, deadP (startP cs ro).1 r = false := reach_all ro (cs, [])
  have hwk : WorkOk (startP cs ro).1 (startP cs ro).2 := hk.ok (fun r hr => (List.not_mem_nil hr).elim)
  have hd : Dr (startP cs ro).1 (startP cs ro).2 [] (firstP toF cs ro) := drainP_dr toF _ _ _ _ hwk (Nat.le_refl _)
  have hi := drainP_inv toF (dfu (startP cs ro)) (startP cs ro).1 (startP cs ro).2 [] hwk (Nat.le_refl _) (hk.some hs0) ⟨fun i N hiN => by
    rcases hg.new i (by rw [hiN]) with q | q
    · dsimp only at q; rw [hun i] at q; cases q
    · exact .inl q, fun N hN => (List.not_mem_nil hN).elim⟩
  have hse := settleP_inv toF tab ((firstP toF cs ro).1.length + 1) (firstP toF cs ro).1 (firstP toF cs ro).2 (by omega) (hd.some (hk.some hs0)) hi.1
  exact ⟨hse.1, fun r hr => hse.2 r (hi.2.1 r (hr0 r hr))⟩
/-! No more is marked than must be -/
structure Inn (S : Int → Prop) (cs0 : List Cell) (s : List Cell × List Int) : Prop where
  body : ∀ i, (s.1.getD i (none, false)).1 = (cs0.getD i (none, false)).1
  mark : ∀ i, (s.1.getD i (none, false)).2 = true → S ((i : Int) + 1)
  work : ∀ r ∈ s.2, S r
theorem Inn.reach {S : Int → Prop} {cs0 : List Cell} {s : List Cell × List Int} (h : Inn S cs0 s) (r : Int) (hr : Valid cs0 r → S r) : Inn S cs0 (reachP s r) := by
  refine ⟨fun i => (reachP_body s r i).trans (h.body i), fun i hi => ?_, fun q hq => ?_⟩
  · unfold reachP at hi
    split at hi
    · rename_i hd
      obtain ⟨j, N, rfl, hj, h1, h2⟩ := dead_ix hd
      rw [show ((j : Int) + 1 - 1).toNat = j by omega] at hi
      by_cases e : j = i
      · subst e
        exact hr ⟨j, N, rfl, (h.body j).symm.trans h1⟩
      · apply h.mark i
        simp only [List.getD_eq_getElem?_getD, List.getElem?_set, if_neg e] at hi ⊢
        exact hi
    · exact h.mark i hi
  · unfold reachP at hq
    split at hq
    · rename_i hd
      rcases List.mem_append.1 hq with hq | hq
      · exact h.work q hq
      · rw [List.mem_singleton.1 hq]
        obtain ⟨j, N, e, hj, h1, h2⟩ := dead_ix hd
        exact hr ⟨j, N, e, (h.body j).symm.trans h1⟩
    · exact h.work q hq
theorem Inn.reaches {S : Int → Prop} {cs0 : List Cell} (l : List Int) {s : List Cell × List Int} (h : Inn S cs0 s) (hl : ∀ r ∈ l, Valid cs0 r → S r) : Inn S cs0 (l.foldl reachP s) := by
  induction l generalizing s with
  | nil => exact h
  | cons r l ih => exact ih (h.reach r (hl r (List.mem_cons_self ..))) (fun q hq => hl q (List.mem_cons_of_mem _ hq))
theorem Inn.pair {S : Int → Prop} {cs0 : List Cell} {s : List Cell × List Int} (h : Inn S cs0 s) (p : Pr) (hp : (Valid cs0 p.1 → S p.1) → Valid cs0 p.2 → S p.2) : Inn S cs0 (prF s p) := by
  unfold prF
  split
  · exact h
  · rename_i hd
    refine h.reach p.2 (hp ?_)
    rintro ⟨i, N, e, hb⟩
    rw [e] at hd ⊢
    exact h.mark i (live_of ((h.body i).trans hb) (by simpa using hd))
theorem Inn.pairs {S : Int → Prop} {cs0 : List Cell} (l : List Pr) {s : List Cell × List Int} (h : Inn S cs0 s) (hl : ∀ p ∈ l, (Valid cs0 p.1 → S p.1) → Valid cs0 p.2 → S p.2) : Inn S cs0 (l.foldl prF s) := by
  induction l generalizing s with
  | nil => exact h
  | cons p l ih => exact ih (h.pair p (hl p (List.mem_cons_self ..))) (fun q hq => hl q (List.mem_cons_of_mem _ hq))
def PrIn (S : Int → Prop) (cs0 : List Cell) (pr : List Nat) : Prop := ∀ N ∈ pr, ∃ i, (cs0.getD i (none, false)).1 = some N ∧ S ((i : Int) + 1)
section
variable {S : Int → Prop} {cs0 : List Cell} {toF : Nat → List Int} {tab : Nat → List Pr}
theorem drainP_in (hT : ∀ i N, (cs0.getD i (none, false)).1 = some N → S ((i : Int) + 1) → ∀ r ∈ toF N, Valid cs0 r → S r) (f : Nat) (cs : List Cell) (wk : List Int) (pr : List Nat) (h : Inn S cs0 (cs, wk)) (hp : PrIn S cs0 pr) (hok : WorkOk cs wk) :
    Inn S cs0 ((drainP toF f cs wk pr).1, []) ∧ PrIn S cs0 (drainP toF f cs wk pr).2 := by
  induction f generalizing cs wk pr with
  | zero => exact ⟨⟨h.body, h.mark, fun r hr => (List.not_mem_nil hr).elim⟩, hp⟩
  | succ f ih =>
    rcases snoc_cases wk with rfl | ⟨wk2, r, rfl⟩
    · exact ⟨h, hp⟩
    · obtain ⟨i, N, rfl, hi, hN⟩ := hok r (by simp)
      have hN0 : (cs0.getD i (none, false)).1 = some N := (h.body i).symm.trans hN
      have hS : S ((i : Int) + 1) := h.work _ (by simp)
      rw [drainP]
      simp only [List.getLast?_append, List.getLast?_singleton, Option.some_or, List.dropLast_concat]
      rw [show ((i : Int) + 1 - 1).toNat = i by omega, hN]
      dsimp only
      have hk : Mk (cs, wk2) ((toF N).foldl reachP (cs, wk2)) := foldl_mk _ reachP_mk _ _
      refine ih _ _ _ (Inn.reaches (toF N) (s := (cs, wk2)) ⟨h.body, h.mark, fun r hr => h.work r (List.mem_append_left _ hr)⟩ (hT i N hN0 hS)) (fun M hM => ?_) (hk.ok (fun r hr => hok r (List.mem_append_left _ hr)))
      rcases List.mem_append.1 hM with q | q
      · exact hp M q
      · rw [List.mem_singleton.1 q]; exact ⟨i, hN0, hS⟩
theorem pairsP_in (hP : ∀ i N, (cs0.getD i (none, false)).1 = some N → S ((i : Int) + 1) → ∀ p ∈ tab N, (Valid cs0 p.1 → S p.1) → Valid cs0 p.2 → S p.2) (pr : List Nat) (s : List Cell × List Int) (h : Inn S cs0 s) (hp : PrIn S cs0 pr) : Inn S cs0 (pairsP tab pr s) := by
  unfold pairsP
  induction pr generalizing s with
  | nil => exact h
  | cons N pr ih =>
    obtain ⟨i, h1, h2⟩ := hp N (List.mem_cons_self ..)
    exact ih _ (Inn.pairs (tab N) h (hP i N h1 h2)) (fun M hM => hp M (List.mem_cons_of_mem _ hM))
theorem settleP_in (hT : ∀ i N, (cs0.getD i (none, false)).1 = some N → S ((i : Int) + 1) → ∀ r ∈ toF N, Valid cs0 r → S r) (hP : ∀ i N, (cs0.getD i (none, false)).1 = some N → S ((i : Int) + 1) → ∀ p ∈ tab N, (Valid cs0 p.1 → S p.1) → Valid cs0 p.2 → S p.2)
    (f : Nat) (cs : List Cell) (pr : List Nat) (h : Inn S cs0 (cs, [])) (hp : PrIn S cs0 pr) : Inn S cs0 ((settleP toF tab f cs pr).1, []) := by
  induction f generalizing cs pr with
  | zero => exact h
  | succ f ih =>
    have hk := pairsP_mk tab pr (cs, [])
    have hi := pairsP_in hP pr (cs, []) h hp
    rw [settleP]
    split
    · exact ⟨hi.body, hi.mark, fun r hr => (List.not_mem_nil hr).elim⟩
    · obtain ⟨d1, d2⟩ := drainP_in hT (dfu (pairsP tab pr (cs, []))) (pairsP tab pr (cs, [])).1 (pairsP tab pr (cs, [])).2 pr hi hp (hk.ok (fun r hr => (List.not_mem_nil hr).elim))
      exact ih _ _ d1 d2
/-- Whatever is closed holds all that is marked. -/
theorem markP_in (cs : List Cell) (ro : List Int) (hum : ∀ c ∈ cs, c.2 = false) (hR : ∀ r ∈ ro, Valid cs r → S r) (hT : ∀ i N, (cs.getD i (none, false)).1 = some N → S ((i : Int) + 1) → ∀ r ∈ toF N, Valid cs r → S r)
    (hP : ∀ i N, (cs.getD i (none, false)).1 = some N → S ((i : Int) + 1) → ∀ p ∈ tab N, (Valid cs p.1 → S p.1) → Valid cs p.2 → S p.2) : ∀ i, ((markP toF tab cs ro).getD i (none, false)).2 = true → S ((i : Int) + 1) := by
  have hun : ∀ i, (cs.getD i (none, false)).2 = false := fun i => by
    by_cases hi : i < cs.length
    · rw [List.getD_eq_getElem?_getD, List.getElem?_eq_getElem hi]; exact hum _ (List.getElem_mem hi)
    · rw [List.getD_eq_getElem?_getD, List.getElem?_eq_none (by omega)]; rfl
  have h0 : Inn S cs (startP cs ro) := Inn.reaches ro (s := (cs, [])) ⟨fun _ => rfl, fun i hi => (by dsimp only at hi; rw [hun i] at hi; cases hi), fun r hr => (List.not_mem_nil hr).elim⟩ hR
  have hk : Mk (cs, []) (startP cs ro) := foldl_mk _ reachP_mk _ _
  obtain ⟨d1, d2⟩ := drainP_in hT (dfu (startP cs ro)) (startP cs ro).1 (startP cs ro).2 [] h0 (fun N hN => (List.not_mem_nil hN).elim) (hk.ok (fun r hr => (List.not_mem_nil hr).elim))
  exact (settleP_in hT hP ((firstP toF cs ro).1.length + 1) _ _ d1 d2).mark
end
end Go.Proofs.Ythcdhiknjpfmhaa
