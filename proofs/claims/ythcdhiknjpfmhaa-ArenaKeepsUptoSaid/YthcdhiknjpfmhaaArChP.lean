/- ArenaChains, purely: what is marked of a chain. -/
import Derived.Test.YthcdhiknjpfmhaaArY
set_option linter.unusedVariables false
set_option linter.unusedSimpArgs false
namespace Go.Proofs.Ythcdhiknjpfmhaa
open Go.RowKit

def idx (k : Nat) : List Int := (List.range k).map fun i : Nat => (i : Int)
theorem idx_succ (k : Nat) : idx (k + 1) = idx k ++ [(k : Int)] := by simp [idx, List.range_succ]
theorem idx_len (k : Nat) : (idx k).length = k := by simp [idx]
def tabs (l : List Int) : List De := l.map fun i => ([], [(i + 1, i + 2)])
def rts (m k : Nat) : List Int := (List.range k).map fun j : Nat => ((m + 2 + j : Nat) : Int)
theorem rts_succ (m k : Nat) : rts m (k + 1) = rts m k ++ [((m + 2 + k : Nat) : Int)] := by simp [rts, List.range_succ]
theorem rts_len (m k : Nat) : (rts m k).length = k := by simp [rts]
def chainDs (m : Nat) (l : List Int) : List De := List.replicate (m + 1) ([], []) ++ tabs l
theorem chainDs_len {m : Nat} {l : List Int} (hl : l.length = m) : (chainDs m l).length = 2 * m + 1 := by simp [chainDs, tabs, hl]; omega
theorem chainDs_lo {m : Nat} {l : List Int} {j : Nat} (hj : j < m + 1) : (chainDs m l).getD j ([], []) = ([], []) := by
  rw [chainDs, List.getD_eq_getElem?_getD, List.getElem?_append_left (by simpa using hj)]
  simp [List.getElem?_replicate, hj]
theorem chainDs_hi {m : Nat} {l : List Int} {k : Nat} (hk : k < l.length) : (chainDs m l).getD (m + 1 + k) ([], []) = ([], [(l[k] + 1, l[k] + 2)]) := by
  rw [chainDs, List.getD_eq_getElem?_getD, List.getElem?_append_right (by simp), List.length_replicate, Nat.add_sub_cancel_left, tabs, List.getElem?_map, List.getElem?_eq_getElem hk]
  rfl
theorem list_bool {ms : List Bool} {n : Nat} (f : Nat → Bool) (hl : ms.length = n) (h : ∀ j, j < n → ms.getD j false = f j) : ms = (List.range n).map f := by
  refine List.ext_getElem (by simp [hl]) (fun j h1 h2 => ?_)
  have := h j (by omega)
  rw [List.getD_eq_getElem?_getD, List.getElem?_eq_getElem h1] at this
  simpa using this
theorem goneB_append (k : Nat) (a b : List Bool) : goneB k (a ++ b) = goneB k a ++ goneB (k + a.length) b := by
  induction a generalizing k with
  | nil => rfl
  | cons x a ih =>
    rw [List.cons_append, goneB, goneB, ih, show k + 1 + a.length = k + (x :: a).length by simp; omega]
    split <;> simp
theorem goneB_true (k n : Nat) : goneB k (List.replicate n true) = [] := by
  induction n generalizing k with
  | zero => rfl
  | succ n ih => rw [List.replicate_succ, goneB, if_pos rfl, ih]
theorem goneB_false (n : Nat) : goneB 0 (List.replicate n false) = upto n := by
  induction n with
  | zero => rfl
  | succ n ih => rw [List.replicate_succ', goneB_append, ih, upto_succ, List.length_replicate]; simp [goneB]
theorem chain_tables {m : Nat} {l : List Int} {ms : List Bool} {ro : List Int} (hl : l.length = m) (h : Marks (chainDs m l) ro ms) (hr : ∀ x ∈ rts m m, x ∈ ro) (k : Nat) (hk : k < m) : ms.getD (m + 1 + k) false = true := by
  refine h.root _ (by rw [chainDs_len hl]; omega) (hr _ (List.mem_map.2 ⟨k, List.mem_range.2 hk, ?_⟩))
  omega
theorem chain_held {m : Nat} {l : List Int} {ms : List Bool} (hl : l.length = m) (hm : ∀ x, x ∈ l ↔ x ∈ idx m) (h : Marks (chainDs m l) (rts m m ++ [1]) ms) : goneB 0 ms = [] := by
  have hkeys : ∀ j, j ≤ m → ms.getD j false = true := by
    intro j
    induction j with
    | zero => exact fun _ => h.root 0 (by rw [chainDs_len hl]; omega) (by simp)
    | succ j ih =>
      intro hj
      have hjl : (j : Int) ∈ l := (hm _).2 (List.mem_map.2 ⟨j, List.mem_range.2 (by omega), rfl⟩)
      obtain ⟨k, hk, hkj⟩ := List.getElem_of_mem hjl
      have ht := chain_tables hl h (fun x hx => List.mem_append_left _ hx) k (by omega)
      refine h.pair (m + 1 + k) ht ((j : Int) + 1, (j : Int) + 2) (by rw [chainDs_hi hk, hkj]; simp) (fun i hi e => ?_) (j + 1) (by rw [chainDs_len hl]; omega) (by show (j : Int) + 2 = ((j + 1 : Nat) : Int) + 1; omega)
      have e' : (j : Int) + 1 = (i : Int) + 1 := e
      have : i = j := by omega
      subst this
      exact ih (by omega)
  have hall : ∀ j, j < 2 * m + 1 → ms.getD j false = true := fun j hj => by
    by_cases hjm : j ≤ m
    · exact hkeys j hjm
    · have := chain_tables hl h (fun x hx => List.mem_append_left _ hx) (j - (m + 1)) (by omega)
      rwa [show m + 1 + (j - (m + 1)) = j by omega] at this
  have := list_bool (fun _ => true) (h.len.trans (chainDs_len hl)) hall
  rw [this, show (List.range (2 * m + 1)).map (fun _ => true) = List.replicate (2 * m + 1) true by simp [List.map_const']]
  exact goneB_true 0 _
theorem chain_free {m : Nat} {l : List Int} {ms : List Bool} (hl : l.length = m) (hm : ∀ x, x ∈ l ↔ x ∈ idx m) (h : Marks (chainDs m l) (rts m m) ms) : goneB 0 ms = upto (m + 1) := by
  have hlow : ∀ j, ms.getD j false = true → m + 1 ≤ j := by
    refine h.least (fun j => m + 1 ≤ j) (fun j hj hr => ?_) (fun j hj hS i hi hr => ?_) (fun j hj hS p hp hk i hi e => ?_)
    · obtain ⟨k, _, e⟩ := List.mem_map.1 hr
      omega
    · rw [show j = m + 1 + (j - (m + 1)) by omega, chainDs_hi (by rw [chainDs_len hl] at hj; omega)] at hr
      exact (List.not_mem_nil hr).elim
    · have hjl : j - (m + 1) < l.length := by rw [chainDs_len hl] at hj; omega
      rw [show j = m + 1 + (j - (m + 1)) by omega, chainDs_hi hjl] at hp
      have hp' := List.mem_singleton.1 hp
      have hin := (hm _).1 (List.getElem_mem hjl)
      obtain ⟨x, hx, ex⟩ := List.mem_map.1 hin
      have hxm := List.mem_range.1 hx
      have := hk x (by rw [chainDs_len hl]; omega) (by rw [hp', ← ex])
      omega
  have hall : ∀ j, j < m + 1 + m → ms.getD j false = decide (m + 1 ≤ j) := fun j hj => by
    by_cases hjm : m + 1 ≤ j
    · have := chain_tables hl h (fun x hx => hx) (j - (m + 1)) (by omega)
      rw [show m + 1 + (j - (m + 1)) = j by omega] at this
      rw [this]; simp [hjm]
    · cases hv : ms.getD j false with
      | false => simp [hjm]
      | true => exact absurd (hlow j hv) hjm
  have := list_bool (fun j => decide (m + 1 ≤ j)) (h.len.trans ((chainDs_len hl).trans (by omega))) hall
  have e : (List.range (m + 1 + m)).map (fun j => decide (m + 1 ≤ j)) = List.replicate (m + 1) false ++ List.replicate m true := by
    refine List.ext_getElem (by simp) (fun j h1 h2 => ?_)
    simp only [List.getElem_map, List.getElem_range]
    by_cases hj : j < m + 1
    · rw [List.getElem_append_left (by simpa using hj)]; simp; omega
    · rw [List.getElem_append_right (by simpa using hj)]; simp; omega
  rw [this, e, goneB_append, goneB_true, goneB_false, List.append_nil]
end Go.Proofs.Ythcdhiknjpfmhaa
