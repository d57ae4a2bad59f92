/- Many things in memory, each with blocks of its own: a step of one leaves the others. No function of the program in sight. -/
import Derived.Test.YtmimnaaofpkndaaDoorWld
set_option linter.unusedVariables false
set_option linter.unusedSimpArgs false
namespace Go.Proofs.YtmimnaaofpkndaaDoor
open Go.RowKit

/-- What may be said of a thing and its own blocks stays true while these do not turn. -/
structure Stab {ι : Type} (C : ι → (Nat → Prop) → World → Prop) : Prop where
  keep : ∀ (i : ι) (O : Nat → Prop) (W W' : World) (P : Nat → Prop), C i O W → Upd W W' P → (∀ k, O k → ¬ P k) → C i O W'
structure Star {ι : Type} (C : ι → (Nat → Prop) → World → Prop) (L : ι → Prop) (own : ι → Nat → Prop) (W : World) : Prop where
  holds : ∀ i, L i → C i (own i) W
  lt : ∀ i, L i → ∀ k, own i k → k < W.heap.size
  sep : ∀ i j, L i → L j → i ≠ j → ∀ k, own i k → ¬ own j k
/-- All their blocks. -/
def allOf {ι : Type} (L : ι → Prop) (own : ι → Nat → Prop) (k : Nat) : Prop := ∃ i, L i ∧ own i k
def setOwn {ι : Type} [DecidableEq ι] (own : ι → Nat → Prop) (i : ι) (O : Nat → Prop) (j : ι) : Nat → Prop := if j = i then O else own j
theorem setOwn_same {ι : Type} [DecidableEq ι] (own : ι → Nat → Prop) (i : ι) (O : Nat → Prop) : setOwn own i O i = O := by simp [setOwn]
theorem setOwn_ne {ι : Type} [DecidableEq ι] (own : ι → Nat → Prop) {i j : ι} (O : Nat → Prop) (h : j ≠ i) : setOwn own i O j = own j := by simp [setOwn, h]
section
variable {ι : Type} {C C' : ι → (Nat → Prop) → World → Prop} {L L' : ι → Prop} {own : ι → Nat → Prop} {W W' : World} {P O' : Nat → Prop} {i : ι}
theorem Star.upd (hC : Stab C) (h : Star C L own W) (u : Upd W W' P) (hP : ∀ i, L i → ∀ k, own i k → ¬ P k) : Star C L own W' :=
  ⟨fun i hi => hC.keep _ _ _ _ _ (h.holds i hi) u (hP i hi), fun i hi k hk => Nat.lt_of_lt_of_le (h.lt i hi k hk) u.size, h.sep⟩
theorem Star.below (hC : Stab C) (h : Star C L own W) (b : Below W.heap.size W W') : Star C L own W' := h.upd hC (P := fun _ => False) (Upd.of_below_all b) (fun _ _ _ _ e => e)
theorem Star.sub (h : Star C L own W) (hL : ∀ i, L' i → L i) : Star C L' own W :=
  ⟨fun i hi => h.holds i (hL i hi), fun i hi => h.lt i (hL i hi), fun i j hi hj => h.sep i j (hL i hi) (hL j hj)⟩
theorem Star.chg (h : Star C L own W) (hc : ∀ i, L i → ∀ O W, C i O W → C' i O W) : Star C' L own W := ⟨fun i hi => hc i hi _ _ (h.holds i hi), h.lt, h.sep⟩
/-- All but one. -/
theorem Star.rest (hC : Stab C) (h : Star C L own W) (hi : L i) (u : Upd W W' P) (hP : ∀ k, P k → own i k ∨ W.heap.size ≤ k) : Star C (fun j => L j ∧ j ≠ i) own W' :=
  (h.sub (L' := fun j => L j ∧ j ≠ i) (fun _ hj => hj.1)).upd hC u (fun j hj k hk hp => (hP k hp).elim (fun e => h.sep j i hj.1 hi hj.2 k hk e) (fun e => by have := h.lt j hj.1 k hk; omega))
variable [DecidableEq ι]
/-- One more, or one that was set aside. -/
theorem Star.put (h : Star C (fun j => L j ∧ j ≠ i) own W) (c : C i O' W) (hs : ∀ j, L j → j ≠ i → ∀ k, own j k → ¬ O' k) (hl : ∀ k, O' k → k < W.heap.size) : Star C (fun j => L j ∨ j = i) (setOwn own i O') W := by
  refine ⟨fun j hj => ?_, fun j hj k hk => ?_, fun j m hj hm hne k hk hk' => ?_⟩
  · by_cases e : j = i
    · subst e; rw [setOwn_same]; exact c
    · rw [setOwn_ne own O' e]; exact h.holds j ⟨hj.resolve_right e, e⟩
  · by_cases e : j = i
    · subst e; rw [setOwn_same] at hk; exact hl k hk
    · rw [setOwn_ne own O' e] at hk; exact h.lt j ⟨hj.resolve_right e, e⟩ k hk
  · by_cases e : j = i
    · subst e
      rw [setOwn_same] at hk
      rw [setOwn_ne own O' (Ne.symm hne)] at hk'
      exact hs m (hm.resolve_right (Ne.symm hne)) (Ne.symm hne) k hk' hk
    · rw [setOwn_ne own O' e] at hk
      by_cases e2 : m = i
      · subst e2
        rw [setOwn_same] at hk'
        exact hs j (hj.resolve_right e) e k hk hk'
      · rw [setOwn_ne own O' e2] at hk'
        exact h.sep j m ⟨hj.resolve_right e, e⟩ ⟨hm.resolve_right e2, e2⟩ hne k hk hk'
/-- A step of one: others are told alike by C'. -/
theorem Star.turn (hC : Stab C) (h : Star C L own W) (hi : L i) (u : Upd W W' P) (hP : ∀ k, P k → own i k ∨ W.heap.size ≤ k) (hc : ∀ j, L j → j ≠ i → ∀ O W, C j O W → C' j O W) (c : C' i O' W') (hn : ∀ k, O' k → own i k ∨ W.heap.size ≤ k) (hl : ∀ k, O' k → k < W'.heap.size) : Star C' L (setOwn own i O') W' := by
  have h1 := (h.rest hC hi u hP).chg (C' := C') (fun j hj O W => hc j hj.1 hj.2 O W)
  exact (h1.put c (fun j hj hne k hk ho => (hn k ho).elim (fun e => h.sep j i hj hi hne k hk e) (fun e => by have := h.lt j hj k hk; omega)) hl).sub (fun j hj => .inl hj)
/-- A new one: its blocks are new. -/
theorem Star.add (hC : Stab C) (h : Star C L own W) (hi : ¬ L i) (b : Below W.heap.size W W') (hc : ∀ j, L j → ∀ O W, C j O W → C' j O W) (c : C' i O' W') (hn : ∀ k, O' k → W.heap.size ≤ k) (hl : ∀ k, O' k → k < W'.heap.size) : Star C' (fun j => L j ∨ j = i) (setOwn own i O') W' := by
  have h1 := (h.below hC b).chg (C' := C') hc
  exact (h1.sub (L' := fun j => L j ∧ j ≠ i) (fun _ hj => hj.1)).put c (fun j hj hne k hk ho => by have := h.lt j hj k hk; have := hn k ho; omega) hl
end
end Go.Proofs.YtmimnaaofpkndaaDoor
