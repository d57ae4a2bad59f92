/- ArenaCircles: a node's To grows; circles, purely. -/
import Derived.Test.YthcdhiknjpfmhaaArReP
set_option linter.unusedVariables false
set_option linter.unusedSimpArgs false
namespace Go.Proofs.Ythcdhiknjpfmhaa
open Go.RowKit

section
variable {W W2 : World} {A B N gq capq : Nat} {cv fv rv : Value} {cs : List Cell} {fr ro : List Int} {live : Int} {nd : Nat → Nod}
def toApp (nd : Nat → Nod) (N gq capq : Nat) (v : Int) (K : Nat) : Nod := if K = N then { nd N with tv := .slice (some ⟨gq, 0, none⟩) ((nd N).to_.length + 1) capq, to_ := (nd N).to_ ++ [v] } else nd K
theorem ArN.toapp {o : Obj} {v : Int} (h : ArN W A B cv fv rv cs fr ro live nd) (hN : N ∈ bodies cs) (hg : (W.alloc o).grownBy W2 (nd N).tv.ownBlock) (own2 : W2.ownsRow B 3 1 (.slice (some ⟨gq, 0, none⟩) ((nd N).to_.length + 1) capq) ((nd N).to_.length + 1) (numCells ((nd N).to_ ++ [v]))) (hat : (nd N).tv.ownBlock = some gq ∨ W.heap.size ≤ gq) :
    ArN (W2.setCell ⟨N, 0, none⟩ (.slice (some ⟨gq, 0, none⟩) ((nd N).to_.length + 1) capq)) A B cv fv rv cs fr ro live (toApp nd N gq capq v) ∧ Upd W (W2.setCell ⟨N, 0, none⟩ (.slice (some ⟨gq, 0, none⟩) ((nd N).to_.length + 1) capq)) (fun k => (nd N).tv.ownBlock = some k ∨ k = N) := by
  have hR := h.nodes N hN
  have hk2 := Blk.grown (hR.blk.alloc o) hg (fun e => own_blk hR.toR hR.blk (by decide) e.symm)
  have U : Upd W (W2.setCell ⟨N, 0, none⟩ (.slice (some ⟨gq, 0, none⟩) ((nd N).to_.length + 1) capq)) (fun k => (nd N).tv.ownBlock = some k ∨ k = N) := (((Upd.refl W _).alloc o).grown hg (fun k e => .inl e)).set N 0 _ (.inr rfl)
  have far : ∀ {t : TypeId} {s n : Nat} {v : Value} {xs : List Value}, W.ownsRow B t s v n xs → t ≠ 30 → (∀ g, v.ownBlock = some g → (nd N).tv.ownBlock ≠ some g) → (W2.setCell ⟨N, 0, none⟩ (.slice (some ⟨gq, 0, none⟩) ((nd N).to_.length + 1) capq)).ownsRow B t s v n xs := by
    intro t s n v xs hv t1 hfr
    refine U.own hv (fun g hgg e => ?_)
    rcases e with e | e
    · exact hfr g hgg e
    · exact own_blk hv hR.blk t1 (by rw [hgg, e])
  have typ : ∀ {t : TypeId} {s n : Nat} {v : Value} {xs : List Value}, W.ownsRow B t s v n xs → t ≠ 3 → ∀ g, v.ownBlock = some g → (nd N).tv.ownBlock ≠ some g := by
    intro t s n v xs hv t1 g hg e
    rcases own_ne hv hR.toR t1 with q | q
    · rw [q] at hg; cases hg
    · exact q (by rw [hg, e])
  have sepN : ∀ s, s.ok (bodies cs) → s ≠ .tos N → ∀ g, lab fv rv nd s = some g → (nd N).tv.ownBlock ≠ some g := fun s hs hne g hg e => hne (h.sep s (.tos N) g hs hN hg e)
  have ar' : Ar (W2.setCell ⟨N, 0, none⟩ (.slice (some ⟨gq, 0, none⟩) ((nd N).to_.length + 1) capq)) A B cv fv rv cs fr ro live :=
    ⟨U.blk h.ar.blk (fun e => by
      rcases e with e | e
      · exact own_blk hR.toR h.ar.blk (by decide) e
      · exact h.ar.blk.ne_ hR.blk (by decide) e), far h.ar.cells (by decide) (typ h.ar.cells (by decide)), far h.ar.free (by decide) (sepN .free trivial (by simp)), far h.ar.roots (by decide) (sepN .roots trivial (by simp)), h.ar.apart⟩
  have hlab : ∀ s g, lab fv rv (toApp nd N gq capq v) s = some g → (s = .tos N ∧ g = gq) ∨ (s ≠ .tos N ∧ lab fv rv nd s = some g) := by
    intro s g hg
    cases s with
    | free => exact .inr ⟨by simp, hg⟩
    | roots => exact .inr ⟨by simp, hg⟩
    | tos K =>
      by_cases e : K = N
      · subst e
        have hg' : (toApp nd K gq capq v K).tv.ownBlock = some g := hg
        rw [toApp, if_pos rfl] at hg'
        have : gq = g := by simpa [Value.ownBlock] using hg'
        exact .inl ⟨rfl, this.symm⟩
      · have hg' : (toApp nd N gq capq v K).tv.ownBlock = some g := hg
        rw [toApp, if_neg e] at hg'
        exact .inr ⟨by simpa using e, hg'⟩
    | fa K =>
      have hg' : (toApp nd N gq capq v K).fv.ownBlock = some g := hg
      refine .inr ⟨by simp, ?_⟩
      show (nd K).fv.ownBlock = some g
      rw [toApp] at hg'
      split at hg'
      · rename_i e; subst e; exact hg'
      · exact hg'
  have hnew : ∀ s, s.ok (bodies cs) → s ≠ .tos N → lab fv rv nd s = some gq → False := by
    intro s hs hne hl
    rcases hat with q | q
    · exact sepN s hs hne gq hl q
    · exact absurd (h.lab_lt s gq hs hl) (Nat.not_lt_of_le q)
  refine ⟨⟨ar', fun K hK => ?_, fun s s' g ho ho' hs hs' => ?_, h.nodup, fun K hK => ?_⟩, U⟩
  · rw [toApp]
    split
    · rename_i e
      subst e
      exact ⟨hk2.set_ 0 _, by
        show World.ownsRow _ B 3 1 _ ((nd K).to_ ++ [v]).length _
        rw [List.length_append]
        exact own_set own2 hk2 (by decide) 0 _, far hR.tabR (by decide) (typ hR.tabR (by decide)), far hR.faR (by decide) (sepN (.fa K) hN (by simp))⟩
    · rename_i e
      have hK2 := h.nodes K hK
      exact ⟨U.blk hK2.blk (fun q => by
        rcases q with q | q
        · exact own_blk hR.toR hK2.blk (by decide) q
        · exact e q), far hK2.toR (by decide) (sepN (.tos K) hK (by simpa using e)), far hK2.tabR (by decide) (typ hK2.tabR (by decide)), far hK2.faR (by decide) (sepN (.fa K) hK (by simp))⟩
  · rcases hlab s g hs with ⟨rfl, rfl⟩ | ⟨a1, a2⟩ <;> rcases hlab s' g hs' with ⟨rfl, e⟩ | ⟨b1, b2⟩
    · rfl
    · exact (hnew s' ho' b1 b2).elim
    · subst e; exact (hnew s ho a1 a2).elim
    · exact h.sep s s' g ho ho' a2 b2
  · rw [toApp]
    split
    · rename_i e; subst e; exact h.ends K hK
    · exact h.ends K hK
end
/-! Circles -/
/-- Each holds the next one. -/
def Circ (n : Nat) (ts : List (List Int)) : Prop := ts.length = n ∧ ∀ j, j < n → ((((j + 1) % n : Nat) : Int) + 1) ∈ ts.getD j []
def circDs (ts : List (List Int)) : List De := ts.map fun t => (t, [])
theorem circDs_get (ts : List (List Int)) (j : Nat) : (circDs ts).getD j ([], []) = (ts.getD j [], []) := by
  simp only [circDs, List.getD_eq_getElem?_getD, List.getElem?_map]
  cases ts[j]? <;> rfl
theorem circ_held {n ρ : Nat} {ts : List (List Int)} {ms : List Bool} (hc : Circ n ts) (hρ : ρ < n) (h : Marks (circDs ts) [(ρ : Int) + 1] ms) : goneB 0 ms = [] ∧ ∀ j, j < (circDs ts).length → ms.getD j false = true := by
  have hl : (circDs ts).length = n := by simp [circDs, hc.1]
  have hk : ∀ k, ms.getD ((ρ + k) % n) false = true := by
    intro k
    induction k with
    | zero => rw [Nat.add_zero, Nat.mod_eq_of_lt hρ]; exact h.root ρ (by omega) (by simp)
    | succ k ih =>
      have hlt : (ρ + k) % n < n := Nat.mod_lt _ (by omega)
      refine h.to_ _ ih ((ρ + (k + 1)) % n) (by rw [hl]; exact Nat.mod_lt _ (by omega)) ?_
      rw [circDs_get]
      have := hc.2 _ hlt
      rwa [show ((ρ + k) % n + 1) % n = (ρ + (k + 1)) % n by rw [Nat.mod_add_mod, Nat.add_assoc]] at this
  have hall : ∀ j, j < n → ms.getD j false = true := fun j hj => by
    have := hk (j + n - ρ)
    rwa [show ρ + (j + n - ρ) = j + n by omega, Nat.add_mod_right, Nat.mod_eq_of_lt hj] at this
  refine ⟨?_, by rw [hl]; exact hall⟩
  have := list_bool (fun _ => true) (h.len.trans hl) hall
  rw [this, show (List.range n).map (fun _ => true) = List.replicate n true by simp [List.map_const']]
  exact goneB_true 0 _
theorem circ_free {ds : List De} {ms : List Bool} (h : Marks ds [] ms) : goneB 0 ms = upto ds.length := by
  have hall : ∀ j, j < ds.length → ms.getD j false = false := fun j hj => by
    cases hv : ms.getD j false with
    | false => rfl
    | true => exact (h.least (fun _ => False) (fun j _ hr => (List.not_mem_nil hr).elim) (fun j _ hS => hS.elim) (fun j _ hS => hS.elim) j hv).elim
  have := list_bool (fun _ => false) h.len hall
  rw [this, show (List.range ds.length).map (fun _ => false) = List.replicate ds.length false by simp [List.map_const']]
  exact goneB_false _
end Go.Proofs.Ythcdhiknjpfmhaa
