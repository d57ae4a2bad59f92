/- ArenaReuses: pure lists; Make whatever is free; slices of bools as arguments bring them. -/
import Derived.Test.YthcdhiknjpfmhaaArZ
import Derived.Test.YthcdhiknjpfmhaaArChP
import Derived.Deep.Grids
set_option linter.unusedVariables false
set_option linter.unusedSimpArgs false
namespace Go.Proofs.Ythcdhiknjpfmhaa
open Go.RowKit

/-- What came in as a slice of bools. -/
def IsBools (w : World) (a : Option Addr) (len : Nat) (B : Nat → Bool) : Prop := len = 0 ∨ ∃ x, a = some x ∧ ∀ i, i < len → w.cell? (x.add i) = some (.bool (B i))
def BoolR (w : World) (a : Option Addr) (n : Nat) (l : List Bool) : Prop :=
  l.length = n ∧ (0 < n → ∃ b off, a = some ⟨b, off, none⟩ ∧ b < w.heap.size ∧ ∀ i, i < n → w.cell? ⟨b, off + i, none⟩ = some (.bool (l.getD i false)))
theorem boolR_of {w : World} {a : Option Addr} {n : Nat} {B : Nat → Bool} (h : IsBools w a n B) : BoolR w a n ((List.range n).map B) := by
  refine ⟨by simp, fun hn => ?_⟩
  rcases h with h | ⟨x, rfl, hc⟩
  · omega
  · obtain ⟨b, off, spot⟩ := x
    have hspot : spot = none := by simpa [Addr.add] using World.cell?_spot (hc 0 hn)
    subst hspot
    refine ⟨b, off, rfl, World.block_lt_of_cell? w ⟨b, off + 0, none⟩ (by rw [← Go.WideShapes.add_plain]; exact hc 0 hn), fun i hi => ?_⟩
    rw [← Go.WideShapes.add_plain, hc i hi]
    simp [List.getD_eq_getElem?_getD, List.getElem?_range hi]
/-- The numbers of those that are kept. -/
def keepB : Nat → List Bool → List Int
  | _, [] => []
  | k, b :: l => if b then ((k + 1 : Nat) : Int) :: keepB (k + 1) l else keepB (k + 1) l
theorem keepB_append (k : Nat) (a b : List Bool) : keepB k (a ++ b) = keepB k a ++ keepB (k + a.length) b := by
  induction a generalizing k with
  | nil => rfl
  | cons x a ih =>
    rw [List.cons_append, keepB, keepB, ih, show k + 1 + a.length = k + (x :: a).length by simp; omega]
    split <;> simp
theorem keepB_le (k : Nat) (l : List Bool) : (keepB k l).length ≤ l.length := by
  induction l generalizing k with
  | nil => simp [keepB]
  | cons x l ih => have := ih (k + 1); rw [keepB]; split <;> simp <;> omega
theorem goneB_le (k : Nat) (l : List Bool) : (goneB k l).length ≤ l.length := by
  induction l generalizing k with
  | nil => simp [goneB]
  | cons x l ih => have := ih (k + 1); rw [goneB]; split <;> simp <;> omega
theorem keepB_mem (k : Nat) (l : List Bool) (j : Nat) : ((j : Int) + 1) ∈ keepB k l ↔ k ≤ j ∧ l.getD (j - k) false = true := by
  induction l generalizing k with
  | nil => simp [keepB]
  | cons x l ih =>
    have h1 := ih (k + 1)
    rw [keepB]
    by_cases hjk : j = k
    · subst hjk
      have : ((j : Int) + 1) ∉ keepB (j + 1) l := fun hc => by have := (h1.1 hc).1; omega
      cases x <;> simp [this]
    · have e : ((j : Int) + 1) ≠ ((k + 1 : Nat) : Int) := by omega
      have hq : (k + 1 ≤ j ∧ l.getD (j - (k + 1)) false = true) ↔ (k ≤ j ∧ (x :: l).getD (j - k) false = true) := by
        constructor
        · rintro ⟨a, b⟩
          refine ⟨by omega, ?_⟩
          rw [show j - k = j - (k + 1) + 1 by omega]
          simpa using b
        · rintro ⟨a, b⟩
          refine ⟨by omega, ?_⟩
          rw [show j - k = j - (k + 1) + 1 by omega] at b
          simpa using b
      rw [← hq, ← h1]
      cases x
      · simp
      · rw [if_pos rfl, List.mem_cons]
        exact ⟨fun q => q.resolve_left e, .inr⟩
theorem goneB_ix (k : Nat) (l : List Bool) : ∀ x ∈ goneB k l, ∃ j : Nat, x = (j : Int) + 1 ∧ k ≤ j ∧ j < k + l.length := by
  induction l generalizing k with
  | nil => exact fun x hx => (List.not_mem_nil hx).elim
  | cons b l ih =>
    intro x hx
    have hrec : x ∈ goneB (k + 1) l → ∃ j : Nat, x = (j : Int) + 1 ∧ k ≤ j ∧ j < k + (b :: l).length := fun h => by
      obtain ⟨j, e, h1, h2⟩ := ih (k + 1) x h
      exact ⟨j, e, by omega, by simp; omega⟩
    rw [goneB] at hx
    split at hx
    · exact hrec hx
    · rcases List.mem_cons.1 hx with rfl | hx
      · exact ⟨k, by omega, Nat.le_refl _, by simp⟩
      · exact hrec hx
/-- Nodes that hold nothing: those that are roots are marked. -/
theorem plain_marks {n : Nat} {kl ms : List Bool} (hk : kl.length = n) (h : Marks (List.replicate n ([], [])) (keepB 0 kl) ms) : ms = kl := by
  have hds : ∀ j, (List.replicate n (([], []) : De)).getD j ([], []) = ([], []) := fun j => by
    rw [List.getD_eq_getElem?_getD, List.getElem?_replicate]
    split <;> rfl
  refine List.ext_getElem (by rw [h.len, List.length_replicate, hk]) (fun j h1 h2 => ?_)
  have e1 : ms.getD j false = ms[j] := by rw [List.getD_eq_getElem?_getD, List.getElem?_eq_getElem h1]; rfl
  have e2 : kl.getD j false = kl[j] := by rw [List.getD_eq_getElem?_getD, List.getElem?_eq_getElem h2]; rfl
  rw [← e1, ← e2]
  cases hv : kl.getD j false with
  | true => exact h.root j (by rw [List.length_replicate]; omega) ((keepB_mem 0 kl j).2 ⟨Nat.zero_le _, by simpa using hv⟩)
  | false =>
    cases hm : ms.getD j false with
    | false => rfl
    | true =>
      have := h.least (fun j => kl.getD j false = true) (fun i hi hr => by simpa using ((keepB_mem 0 kl i).1 hr).2) (fun i hi hS k hk hr => by rw [hds] at hr; exact (List.not_mem_nil hr).elim) (fun i hi hS p hp => by rw [hds] at hp; exact (List.not_mem_nil hp).elim) j hm
      rw [hv] at this; cases this
/-! Make, at an arena with its nodes -/
theorem bodies_set_mem (cs : List Cell) (i N : Nat) : ∀ K ∈ bodies (cs.set i (some N, false)), K ∈ bodies cs ∨ K = N := by
  intro K hK
  obtain ⟨c, hc, e⟩ := List.mem_filterMap.1 hK
  rcases List.mem_or_eq_of_mem_set hc with h | rfl
  · exact .inl (List.mem_filterMap.2 ⟨c, h, e⟩)
  · cases e; exact .inr rfl
theorem bodies_set_nodup (cs : List Cell) (i N : Nat) (h : (bodies cs).Nodup) (hN : N ∉ bodies cs) : (bodies (cs.set i (some N, false))).Nodup := by
  induction cs generalizing i with
  | nil => simpa using h
  | cons c l ih =>
    have hb : ∀ (c : Cell) l, bodies (c :: l) = c.1.toList ++ bodies l := by
      rintro ⟨o, m⟩ l
      cases o <;> simp [bodies]
    rw [hb] at h hN
    have h1 := List.nodup_append.1 h
    have hNl : N ∉ bodies l := fun q => hN (List.mem_append_right _ q)
    cases i with
    | zero =>
      rw [List.set_cons_zero, hb]
      exact List.nodup_append.2 ⟨by simp, h1.2.1, fun a ha b hb e => hNl (by
        have : a = N := by simpa using ha
        rw [← this, e]; exact hb)⟩
    | succ i =>
      rw [List.set_cons_succ, hb]
      refine List.nodup_append.2 ⟨h1.1, ih i h1.2.1 hNl, fun a ha b hb e => ?_⟩
      rcases bodies_set_mem l i N b hb with q | q
      · exact h1.2.2 a ha b q e
      · exact hN (List.mem_append_left _ (by rw [← q, ← e]; exact ha))
def emptyN : Nod := ⟨nil0, nil0, nil0, [], [], [], 0⟩
theorem emptyN_R {W : World} {A N : Nat} (hb : Blk W N 30 (ndC nil0 nil0 nil0 0)) : NodR W A N emptyN := ⟨hb, World.ownsRow_nil _ _ _ _, World.ownsRow_nil _ _ _ _, World.ownsRow_nil _ _ _ _⟩
section
variable {W0 W : World} {A N : Nat} {cv fv rv : Value} {cs : List Cell} {fr ro : List Int} {live : Int} {nd : Nat → Nod}
theorem make_fresh (h : ArN W0 A A cv fv rv cs [] ro live nd) (b0 : Below W0.heap.size W0 W) (hN : W0.heap.size ≤ N) (hb : Blk W N 30 (ndC nil0 nil0 nil0 0)) (hl : 0 ≤ live ∧ live ≤ 100000) (hc : cs.length ≤ 100000) :
    Calls Try.prog 10 #[.pointer (some ⟨A, 0, none⟩), .iface 27 (.pointer (some ⟨N, 0, none⟩))] W fun e w' => e = .returned (.int .i64 ((cs.length + 1 : Nat) : Int)) ∧
      ∃ cv' nd', ArN w' A A cv' fv rv (cs ++ [(some N, false)]) [] ro (live + 1) nd' ∧ Upd W w' (fun k => k = A ∨ cv.ownBlock = some k) := by
  have hN' : N ∉ bodies cs := fun hc => absurd (h.nodes N hc).blk.lt (Nat.not_lt_of_le hN)
  have h1 := h.below b0
  refine (make_new N h1.ar hl.1 (by omega) (by omega) (Nat.le_of_lt h1.ar.blk.lt)).mono ?_
  rintro e w' ⟨rfl, cv', har, hu, _⟩
  have e : bodies (cs ++ [(some N, false)]) = bodies cs ++ [N] := by simp [bodies]
  refine ⟨rfl, cv', _, h1.add (x := emptyN) hN' (emptyN_R hb) ⟨Int.le_refl 0, by show (0 : Int) ≤ 1000000; decide⟩ (fun s g _ _ => ⟨(by simp [emptyN, Value.ownBlock]), (by simp [emptyN, Value.ownBlock])⟩) (fun g hg => by simp [emptyN, Value.ownBlock] at hg) har hu (fun g hg => hg) (fun K hK => ?_) ?_, hu⟩
  · rw [e] at hK
    rcases List.mem_append.1 hK with q | q
    · exact .inl q
    · exact .inr (List.mem_singleton.1 q)
  · rw [e]
    refine List.nodup_append.2 ⟨h1.nodup, by simp, fun a ha b hb => ?_⟩
    rw [List.mem_singleton.1 hb]
    exact fun e => hN' (e ▸ ha)
theorem make_again (i : Nat) (h : ArN W0 A A cv fv rv cs (fr ++ [(i : Int) + 1]) ro live nd) (hi : i < cs.length) (b0 : Below W0.heap.size W0 W) (hN : W0.heap.size ≤ N) (hb : Blk W N 30 (ndC nil0 nil0 nil0 0)) (hl : 0 ≤ live ∧ live ≤ 100000) (hc : cs.length ≤ 100000) (hfl : fr.length ≤ 100000) :
    Calls Try.prog 10 #[.pointer (some ⟨A, 0, none⟩), .iface 27 (.pointer (some ⟨N, 0, none⟩))] W fun e w' => e = .returned (.int .i64 ((i : Int) + 1)) ∧
      ∃ fv' nd', ArN w' A A cv fv' rv (cs.set i (some N, false)) fr ro (live + 1) nd' ∧ Upd W w' (fun k => k = A ∨ cv.ownBlock = some k) := by
  have hN' : N ∉ bodies cs := fun hc => absurd (h.nodes N hc).blk.lt (Nat.not_lt_of_le hN)
  have h1 := h.below b0
  refine (make_old N i h1.ar hi hl.1 (by omega) (by omega) (by omega) (Nat.le_of_lt h1.ar.blk.lt)).mono ?_
  rintro e w' ⟨rfl, fv', har, hu, hf⟩
  exact ⟨rfl, fv', _, h1.add (x := emptyN) hN' (emptyN_R hb) ⟨Int.le_refl 0, by show (0 : Int) ≤ 1000000; decide⟩ (fun s g _ _ => ⟨(by simp [emptyN, Value.ownBlock]), (by simp [emptyN, Value.ownBlock])⟩) (fun g hg => by simp [emptyN, Value.ownBlock] at hg) har hu (fun g hg => by rw [← hf]; exact hg) (bodies_set_mem cs i N) (bodies_set_nodup cs i N h1.nodup hN'), hu⟩
end
end Go.Proofs.Ythcdhiknjpfmhaa
