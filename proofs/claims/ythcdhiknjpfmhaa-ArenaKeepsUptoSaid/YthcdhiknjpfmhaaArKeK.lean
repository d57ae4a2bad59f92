/- ArenaKeeps, the plain law: a collection straight behind another one takes nothing more. -/
import Derived.Test.YthcdhiknjpfmhaaArX
set_option linter.unusedVariables false
set_option linter.unusedSimpArgs false
namespace Go.Proofs.Ythcdhiknjpfmhaa
open Go.RowKit
theorem sw_at (cs : List Cell) (i : Nat) : (swL cs).getD i (none, false) = swC (cs.getD i (none, false)) := by
  simp only [swL, List.getD_eq_getElem?_getD, List.getElem?_map]
  cases cs[i]? <;> rfl
theorem swC_mark (c : Cell) : (swC c).2 = false := by
  obtain ⟨a, b⟩ := c
  cases a <;> cases b <;> rfl
theorem swC_body (c : Cell) (N : Nat) : (swC c).1 = some N ↔ c = (some N, true) := by
  obtain ⟨a, b⟩ := c
  cases a <;> cases b <;> simp [swC]
section
variable {to_ to' : Nat → List Int} {tab tab' : Nat → List Pr} {cs : List Cell} {ro : List Int}
theorem keeps (hum : ∀ c ∈ cs, c.2 = false) (hbody : ∀ N ∈ bodies (swL (markP to_ tab cs ro)), to' N = to_ N ∧ tab' N = dropped (markP to_ tab cs ro) (tab N)) :
    ∀ i, ((markP to_ tab cs ro).getD i (none, false)).2 = true → ((markP to' tab' (swL (markP to_ tab cs ro)) ro).getD i (none, false)).2 = true := by
  obtain ⟨c1, r1⟩ := markP_closed to_ tab cs ro hum
  have b1 := (markP_se to_ tab cs ro).body
  have hin := fun (S : Int → Prop) => markP_in (S := S) (toF := to_) (tab := tab) cs ro hum
  generalize markP to_ tab cs ro = M1 at *
  have hum2 : ∀ c ∈ swL M1, c.2 = false := fun c hc => by
    obtain ⟨d, _, rfl⟩ := List.mem_map.1 hc
    exact swC_mark d
  obtain ⟨c2, r2⟩ := markP_closed to' tab' (swL M1) ro hum2
  have hs2 := markP_se to' tab' (swL M1) ro
  generalize markP to' tab' (swL M1) ro = M2 at *
  have hun : ∀ i, ((swL M1).getD i (none, false)).2 = false := fun i => by rw [sw_at]; exact swC_mark _
  have hs : Somes M2 := hs2.some (fun i hi => by rw [hun i] at hi; cases hi)
  have b2 := hs2.body
  have up : ∀ i N, M1.getD i (none, false) = (some N, true) → (M2.getD i (none, false)).1 = some N := fun i N h => by rw [b2, sw_at, h]; rfl
  have dn : ∀ i N, (M2.getD i (none, false)).1 = some N → M1.getD i (none, false) = (some N, true) := fun i N h => by
    rw [b2, sw_at] at h
    exact (swC_body _ _).1 h
  have go : ∀ r, Valid cs r → deadP M1 r = false → deadP M2 r = false → ∃ i : Nat, r = (i : Int) + 1 ∧ (M2.getD i (none, false)).2 = true := by
    rintro r ⟨i, N, rfl, h⟩ h1 h2
    have hb : (M1.getD i (none, false)).1 = some N := by rw [b1]; exact h
    have hm : M1.getD i (none, false) = (some N, true) := Prod.ext hb (live_of hb h1)
    exact ⟨i, rfl, live_of (up i N hm) h2⟩
  have both : ∀ i N, (cs.getD i (none, false)).1 = some N → (∃ j : Nat, ((i : Int) + 1) = (j : Int) + 1 ∧ (M2.getD j (none, false)).2 = true) → M1.getD i (none, false) = (some N, true) ∧ M2.getD i (none, false) = (some N, true) := by
    rintro i N hN ⟨j, e, hj⟩
    obtain rfl : i = j := by omega
    obtain ⟨N', hN'⟩ := hs i hj
    have m1 := dn i N' hN'
    have : N' = N := by
      have := b1 i
      rw [m1, hN] at this
      simpa using this
    subst this
    exact ⟨m1, Prod.ext hN' hj⟩
  have hbd : ∀ i N, M1.getD i (none, false) = (some N, true) → N ∈ bodies (swL M1) := fun i N h => bodies_at (i := i) (by rw [sw_at, h]; rfl)
  intro i hi
  obtain ⟨j, e, hj⟩ := hin (fun r => ∃ i : Nat, r = (i : Int) + 1 ∧ (M2.getD i (none, false)).2 = true) (fun r hr hv => go r hv (r1 r hr) (r2 r hr)) (fun i N hN hS r hr hv => by
    obtain ⟨m1, m2⟩ := both i N hN hS
    exact go r hv (c1.to_ i N m1 r hr) (c2.to_ i N m2 r (by rw [(hbody N (hbd i N m1)).1]; exact hr))) (fun i N hN hS p hp h12 hv2 => by
    obtain ⟨m1, m2⟩ := both i N hN hS
    have d1 : deadP M1 p.1 = false := by
      cases hd : deadP M1 p.1 with
      | false => rfl
      | true =>
        obtain ⟨k, K, e, _, g1, g2⟩ := dead_ix hd
        obtain ⟨j, e2, g3⟩ := h12 ⟨k, K, e, by rw [← b1]; exact g1⟩
        obtain rfl : k = j := by omega
        obtain ⟨N', hN'⟩ := hs k g3
        rw [dn k N' hN'] at g2
        cases g2
    have d2 : deadP M2 p.1 = false := by
      cases hd : deadP M2 p.1 with
      | false => rfl
      | true =>
        obtain ⟨k, K, e, _, g1, g2⟩ := dead_ix hd
        have g4 := dn k K g1
        obtain ⟨j, e2, g3⟩ := h12 ⟨k, K, e, by rw [← b1, g4]⟩
        obtain rfl : k = j := by omega
        rw [g2] at g3; cases g3
    exact go p.2 hv2 (c1.pair i N m1 p hp d1) (c2.pair i N m2 p (by rw [(hbody N (hbd i N m1)).2]; exact List.mem_filter.2 ⟨hp, by rw [d1]; rfl⟩) d2)) i hi
  obtain rfl : i = j := by omega
  exact hj
/-- .. so nothing goes. -/
theorem goneL_none : ∀ (k : Nat) (l : List Cell), (∀ c ∈ l, goes c = false) → goneL k l = []
  | _, [], _ => rfl
  | k, c :: l, h => by
    rw [goneL, h c (List.mem_cons_self ..)]
    exact goneL_none (k + 1) l (fun d hd => h d (List.mem_cons_of_mem _ hd))
theorem keeps_gone (hum : ∀ c ∈ cs, c.2 = false) (hbody : ∀ N ∈ bodies (swL (markP to_ tab cs ro)), to' N = to_ N ∧ tab' N = dropped (markP to_ tab cs ro) (tab N)) : goneL 0 (markP to' tab' (swL (markP to_ tab cs ro)) ro) = [] := by
  have hk := keeps hum hbody
  have b2 := (markP_se to' tab' (swL (markP to_ tab cs ro)) ro).body
  refine goneL_none _ _ (fun c hc => ?_)
  obtain ⟨j, hj, e⟩ := mem_get hc
  obtain ⟨a, b⟩ := c
  cases a with
  | none => cases b <;> rfl
  | some N =>
    cases b with
    | true => rfl
    | false =>
      have h1 : ((markP to' tab' (swL (markP to_ tab cs ro)) ro).getD j (none, false)).1 = some N := by rw [e]
      rw [b2, sw_at] at h1
      have h2 := hk j (by rw [(swC_body _ _).1 h1])
      rw [e] at h2; cases h2
end
/-- How many stay, and go. -/
theorem count_sw (l : List Cell) : ∀ k, (bodies (swL l)).length + (goneL k l).length = (bodies l).length := by
  induction l with
  | nil => intro k; rfl
  | cons c l ih =>
    intro k
    have := ih (k + 1)
    obtain ⟨a, b⟩ := c
    cases a <;> cases b <;> simp [bodies, swL, swC, goneL, goes] at this ⊢ <;> omega
theorem gone_all (l : List Cell) (h : ∀ c ∈ l, c.2 = false) : ∀ k, (goneL k l).length = (bodies l).length := by
  induction l with
  | nil => intro k; rfl
  | cons c l ih =>
    intro k
    have := ih (fun d hd => h d (List.mem_cons_of_mem _ hd)) (k + 1)
    have hc := h c (List.mem_cons_self ..)
    obtain ⟨a, b⟩ := c
    dsimp only at hc
    subst hc
    cases a <;> simp [bodies, goneL, goes] at this ⊢ <;> omega
theorem bodies_of {l m : List Cell} (hl : m.length = l.length) (h : ∀ i, (m.getD i (none, false)).1 = (l.getD i (none, false)).1) : bodies m = bodies l := by
  have e : ∀ x : List Cell, bodies x = (x.map Prod.fst).filterMap id := fun x => by simp [bodies, List.filterMap_map]
  rw [e, e]
  congr 1
  refine List.ext_getElem? (fun i => ?_)
  rw [List.getElem?_map, List.getElem?_map]
  have := h i
  rw [List.getD_eq_getElem?_getD, List.getD_eq_getElem?_getD] at this
  by_cases hi : i < l.length
  · rw [List.getElem?_eq_getElem hi, List.getElem?_eq_getElem (hl ▸ hi)] at this ⊢
    simpa using this
  · rw [List.getElem?_eq_none (by omega), List.getElem?_eq_none (by omega)]
/-- Without roots nothing is marked. -/
theorem none_marked {to_ : Nat → List Int} {tab : Nat → List Pr} {cs : List Cell} (hum : ∀ c ∈ cs, c.2 = false) : ∀ c ∈ markP to_ tab cs [], c.2 = false := fun c hc => by
  obtain ⟨j, _, e⟩ := mem_get hc
  have := markP_in (S := fun _ => False) (toF := to_) (tab := tab) cs [] hum (fun r hr => absurd hr (List.not_mem_nil)) (fun _ _ _ h => h.elim) (fun _ _ _ h => h.elim) j
  rw [e] at this
  cases h : c.2 with
  | false => rfl
  | true => exact (this h).elim
/-- What is a root stays. -/
theorem root_stays {to_ : Nat → List Int} {tab : Nat → List Pr} {cs : List Cell} {ro : List Int} (hum : ∀ c ∈ cs, c.2 = false) (r : Int) (hr : r ∈ ro) {i N : Nat} (e : r = (i : Int) + 1) (h : (cs.getD i (none, false)).1 = some N) : ((swL (markP to_ tab cs ro)).getD i (none, false)).1 = some N := by
  obtain ⟨c1, r1⟩ := markP_closed to_ tab cs ro hum
  have hb : ((markP to_ tab cs ro).getD i (none, false)).1 = some N := by rw [(markP_se to_ tab cs ro).body]; exact h
  have hm := live_of hb (e ▸ r1 r hr)
  rw [sw_at, Prod.ext (x := (markP to_ tab cs ro).getD i (none, false)) (y := (some N, true)) hb hm]
  rfl
end Go.Proofs.Ythcdhiknjpfmhaa
