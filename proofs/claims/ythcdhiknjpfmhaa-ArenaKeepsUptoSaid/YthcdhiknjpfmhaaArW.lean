/- The arena: rows of numbers compared; Get; the operations on an arena with its nodes. -/
import Derived.Test.YthcdhiknjpfmhaaArV
set_option linter.unusedVariables false
set_option linter.unusedSimpArgs false
namespace Go.Proofs.Ythcdhiknjpfmhaa
open Go.RowKit

/-- A slice of numbers, as it is read. -/
def NumR (w : World) (v : Value) (l : List Int) : Prop :=
  ∃ a cap, v = .slice a l.length cap ∧ (0 < l.length → ∃ b, a = some ⟨b, 0, none⟩ ∧ b < w.heap.size ∧ ∀ i, i < l.length → w.cell? ⟨b, i, none⟩ = some (.int .i64 (l.getD i 0)))
theorem NumR.of {w : World} {B : Nat} {v : Value} {l : List Int} (h : w.ownsRow B 3 1 v l.length (numCells l)) : NumR w v l := by
  obtain ⟨a, cap, rfl, ha⟩ := own_shape h
  refine ⟨a, cap, rfl, fun hn => ?_⟩
  obtain ⟨g, rfl⟩ := ha hn
  exact ⟨g, rfl, (h.lt g rfl).2, fun i hi => (h.cellAt i (by omega)).trans (numCells_get l i hi)⟩
set_option maxHeartbeats 1000000 in
theorem nums_same {w : World} {v1 v2 : Value} (l : List Int) (h1 : NumR w v1 l) (h2 : NumR w v2 l) (hl : l.length ≤ 1000000) : Calls Try.prog 14 #[v1, v2] w fun e w' => e = .returned (.bool true) ∧ ∃ q, w' = w.drewN q := by
  obtain ⟨a1, k1, rfl, r1⟩ := h1
  obtain ⟨a2, k2, rfl, r2⟩ := h2
  obtain ⟨n, hn⟩ : ∃ n, l.length = n := ⟨_, rfl⟩
  rw [hn] at r1 r2 hl ⊢
  clear hn
  have b0 : ((n : Int) != (n : Int)) = false := by simp
  have b1 : ((n : Int) == (n : Int)) = true := by simp
  go_enter Try.func14, Try.ntmps14
  go_wp2_with fail
  go_loopw [13] (fun v wr => ∃ i : Nat, i ≤ n ∧ v = .int .i64 i ∧ ∃ q, wr = w.drewN q) (fun v _ => n - (intOf v).toNat)
  case atStart => exact ⟨0, by omega, rfl, 0, rfl⟩
  case round =>
    obtain ⟨i, hin, rfl, q, rfl⟩ := hrel
    by_cases hlt : i < n
    · have L1 : decide ((i : Int) < (n : Int)) = true := by rw [decide_eq_true_eq]; omega
      obtain ⟨g1, rfl, _, q1⟩ := r1 (by omega)
      obtain ⟨g2, rfl, _, q2⟩ := r2 (by omega)
      have c1 := q1 i hlt
      have c2 := q2 i hlt
      generalize l.getD i 0 = x at *
      have z0 : (0 : Int) ≤ i := by omega
      have z1 : (i : Int) < n := by omega
      have z2 : (i : Int).toNat = i := by omega
      have a1 : IntKind.i64.wrap ((i : Int) + 1) = ((i + 1 : Nat) : Int) := by rw [IntWalk.i64_in _ (by omega)]; rfl
      have e1 : (x == x) = true := by simp
      clear q1 q2 r1 r2
      go_wp2_with fail
      go_quiet (fail)
      go_wp2_with fail
      go_roundw
      case rel => exact ⟨i + 1, by omega, by first | rfl | rw [Int.natCast_add], _, rfl⟩
      case measure => simp only [intOf]; omega
    · obtain rfl : i = n := by omega
      have L1 : decide ((i : Int) < (i : Int)) = false := by simp
      clear r1 r2
      go_wp2
      go_ret
      exact ⟨rfl, _, rfl⟩
/-! The operations on an arena with its nodes -/
section
variable {w w' : World} {A B : Nat} {cv cv' fv fv' rv rv' : Value} {cs cs' : List Cell} {fr fr' ro ro' : List Int} {live live' : Int} {nd : Nat → Nod}
theorem ArN.new (w : World) : ArN (w.alloc (.cells #[.slice none 0 0, .slice none 0 0, .slice none 0 0, .int .i64 0] 64)) w.heap.size w.heap.size (.slice none 0 0) (.slice none 0 0) (.slice none 0 0) [] [] [] 0 nd :=
  ⟨new_ar w, fun N hN => (List.not_mem_nil hN).elim, fun s s' g ho ho' h h' => by
    cases s with
    | free => cases h
    | roots => cases h
    | tos N => exact (List.not_mem_nil ho).elim
    | fa N => exact (List.not_mem_nil ho).elim, List.nodup_nil, fun N hN => (List.not_mem_nil hN).elim⟩
theorem ArN.upd {M : Nat → Prop} (h : ArN w A B cv fv rv cs fr ro live nd) (u : Upd w w' M) (hA : ¬ M A) (hc : ∀ g, cv.ownBlock = some g → ¬ M g) (hN : ∀ N ∈ bodies cs, ¬ M N) (hT : ∀ N ∈ bodies cs, ∀ g, (nd N).bv.ownBlock = some g → ¬ M g) (hl : ∀ s g, s.ok (bodies cs) → lab fv rv nd s = some g → ¬ M g) : ArN w' A B cv fv rv cs fr ro live nd :=
  ⟨h.ar.upd u hA hc (fun g hg => hl .free g trivial hg) (fun g hg => hl .roots g trivial hg), fun N hn => (h.nodes N hn).upd u (hN N hn) (fun g hg => hl (.tos N) g hn hg) (hT N hn) (fun g hg => hl (.fa N) g hn hg), h.sep, h.nodup, h.ends⟩
theorem ArN.below (h : ArN w A B cv fv rv cs fr ro live nd) (b : Below w.heap.size w w') : ArN w' A B cv fv rv cs fr ro live nd :=
  h.upd (M := fun _ => False) (Upd.of_below_all b) (fun h => h) (fun _ _ h => h) (fun _ _ h => h) (fun _ _ _ _ h => h) (fun _ _ _ _ h => h)
theorem ArN.lab_lt (h : ArN w A B cv fv rv cs fr ro live nd) (s : Slot) (g : Nat) (ho : s.ok (bodies cs)) (hg : lab fv rv nd s = some g) : g < w.heap.size := by
  cases s with
  | free => exact (h.ar.free.lt g hg).2
  | roots => exact (h.ar.roots.lt g hg).2
  | tos N => exact ((h.nodes N ho).toR.lt g hg).2
  | fa N => exact ((h.nodes N ho).faR.lt g hg).2
/-- The arena's slices turn, the nodes stay. -/
theorem ArN.turn (h : ArN w A B cv fv rv cs fr ro live nd) (har : Ar w' A B cv' fv' rv' cs' fr' ro' live') (u : Upd w w' (fun k => k = A ∨ cv.ownBlock = some k ∨ rv.ownBlock = some k)) (hf : ∀ g, fv'.ownBlock = some g → fv.ownBlock = some g) (hr : ∀ g, rv'.ownBlock = some g → rv.ownBlock = some g ∨ w.heap.size ≤ g) (hb : bodies cs' = bodies cs) : ArN w' A B cv' fv' rv' cs' fr' ro' live' nd := by
  have hlab : ∀ s g, s ≠ .roots → s.ok (bodies cs) → lab fv' rv' nd s = some g → lab fv rv nd s = some g := by
    intro s g hs ho hg
    cases s with
    | free => exact hf g hg
    | roots => exact absurd rfl hs
    | tos N => exact hg
    | fa N => exact hg
  have hroot : ∀ s g, s ≠ .roots → s.ok (bodies cs) → lab fv' rv' nd s = some g → rv'.ownBlock ≠ some g := fun s g hs ho hg e => by
    have h1 := hlab s g hs ho hg
    rcases hr g e with q | q
    · exact hs (h.sep s .roots g ho trivial h1 q)
    · exact absurd (h.lab_lt s g ho h1) (Nat.not_lt_of_le q)
  have far : ∀ {t : TypeId} {s n : Nat} {v : Value} {xs : List Value}, w.ownsRow B t s v n xs → t ≠ 64 → t ≠ 66 → (∀ g, v.ownBlock = some g → rv.ownBlock ≠ some g) → w'.ownsRow B t s v n xs := by
    intro t s n v xs hv t1 t2 hfr
    refine u.own hv (fun g hg e => ?_)
    rcases e with rfl | e | e
    · exact own_blk hv h.ar.blk t1 hg
    · rcases own_ne hv h.ar.cells t2 with q | q
      · rw [q] at hg; cases hg
      · exact q (by rw [hg, e])
    · exact hfr g hg e
  refine ⟨har, fun N hN => ?_, ?_, hb ▸ h.nodup, fun N hN => h.ends N (hb ▸ hN)⟩
  · rw [hb] at hN
    have hR := h.nodes N hN
    refine ⟨u.blk hR.blk (fun e => ?_), far hR.toR (by decide) (by decide) (fun g hg e => ?_), far hR.tabR (by decide) (by decide) (fun g hg e => ?_), far hR.faR (by decide) (by decide) (fun g hg e => ?_)⟩
    · rcases e with e | e | e
      · exact h.ar.blk.ne_ hR.blk (by decide) e.symm
      · exact own_blk h.ar.cells hR.blk (by decide) e
      · exact own_blk h.ar.roots hR.blk (by decide) e
    · have := h.sep (.tos N) .roots g hN trivial hg e
      cases this
    · rcases own_ne hR.tabR h.ar.roots (by decide) with q | q
      · rw [q] at hg; cases hg
      · exact q (by rw [hg, e])
    · have := h.sep (.fa N) .roots g hN trivial hg e
      cases this
  · rw [hb]
    intro s s' g ho ho' hs hs'
    by_cases e : s = .roots
    · by_cases e' : s' = .roots
      · rw [e, e']
      · subst e
        exact absurd hs (hroot s' g e' ho' hs')
    · by_cases e' : s' = .roots
      · subst e'
        exact absurd hs' (hroot s g e ho hs)
      · exact h.sep s s' g ho ho' (hlab s g e ho hs) (hlab s' g e' ho' hs')
/-- A node joins. -/
theorem ArN.add (h : ArN w A B cv fv rv cs fr ro live nd) {N : Nat} {x : Nod} (hN : N ∉ bodies cs) (hx : NodR w B N x) (he : 0 ≤ x.ends ∧ x.ends ≤ 1000000) (hl1 : ∀ s g, s.ok (bodies cs) → lab fv rv nd s = some g → x.tv.ownBlock ≠ some g ∧ x.fv.ownBlock ≠ some g) (hl2 : ∀ g, x.tv.ownBlock = some g → x.fv.ownBlock ≠ some g)
    (har : Ar w' A B cv' fv' rv cs' fr' ro' live') (u : Upd w w' (fun k => k = A ∨ cv.ownBlock = some k)) (hf : ∀ g, fv'.ownBlock = some g → fv.ownBlock = some g) (hb : ∀ K ∈ bodies cs', K ∈ bodies cs ∨ K = N) (hnd : (bodies cs').Nodup) : ArN w' A B cv' fv' rv cs' fr' ro' live' (fun K => if K = N then x else nd K) := by
  have far : ∀ {t : TypeId} {s n : Nat} {v : Value} {xs : List Value}, w.ownsRow B t s v n xs → t ≠ 64 → t ≠ 66 → w'.ownsRow B t s v n xs := by
    intro t s n v xs hv t1 t2
    refine u.own hv (fun g hg e => ?_)
    rcases e with rfl | e
    · exact own_blk hv h.ar.blk t1 hg
    · rcases own_ne hv h.ar.cells t2 with q | q
      · rw [q] at hg; cases hg
      · exact q (by rw [hg, e])
  have keep : ∀ {K : Nat} {y : Nod}, NodR w B K y → NodR w' B K y := fun {K y} hR =>
    ⟨u.blk hR.blk (fun e => by
      rcases e with e | e
      · exact h.ar.blk.ne_ hR.blk (by decide) e.symm
      · exact own_blk h.ar.cells hR.blk (by decide) e), far hR.toR (by decide) (by decide), far hR.tabR (by decide) (by decide), far hR.faR (by decide) (by decide)⟩
  have hne : ∀ K ∈ bodies cs, K ≠ N := fun K hK e => hN (e ▸ hK)
  refine ⟨har, fun K hK => ?_, ?_, hnd, fun K hK => ?_⟩
  · show NodR w' B K (if K = N then x else nd K)
    split
    · rename_i e; rw [e]; exact keep hx
    · rename_i e; exact keep (h.nodes K ((hb K hK).resolve_right e))
  · -- labels
    have hold : ∀ s g, s.ok (bodies cs') → lab fv' rv (fun K => if K = N then x else nd K) s = some g → (s.ok (bodies cs) ∧ lab fv rv nd s = some g ∧ s ≠ .tos N ∧ s ≠ .fa N) ∨ (s = .tos N ∧ x.tv.ownBlock = some g) ∨ (s = .fa N ∧ x.fv.ownBlock = some g) := by
      intro s g ho hg
      cases s with
      | free => exact .inl ⟨trivial, hf g hg, by simp, by simp⟩
      | roots => exact .inl ⟨trivial, hg, by simp, by simp⟩
      | tos K =>
        by_cases e : K = N
        · subst e
          simp only [lab, if_true] at hg
          exact .inr (.inl ⟨rfl, hg⟩)
        · simp only [lab, if_neg e] at hg
          exact .inl ⟨(hb K ho).resolve_right e, hg, by simpa using e, by simp⟩
      | fa K =>
        by_cases e : K = N
        · subst e
          simp only [lab, if_true] at hg
          exact .inr (.inr ⟨rfl, hg⟩)
        · simp only [lab, if_neg e] at hg
          exact .inl ⟨(hb K ho).resolve_right e, hg, by simp, by simpa using e⟩
    intro s s' g ho ho' hs hs'
    rcases hold s g ho hs with ⟨a1, a2, a3, a4⟩ | ⟨rfl, a2⟩ | ⟨rfl, a2⟩ <;> rcases hold s' g ho' hs' with ⟨b1, b2, b3, b4⟩ | ⟨rfl, b2⟩ | ⟨rfl, b2⟩
    · exact h.sep s s' g a1 b1 a2 b2
    · exact absurd b2 (hl1 s g a1 a2).1
    · exact absurd b2 (hl1 s g a1 a2).2
    · exact absurd a2 (hl1 s' g b1 b2).1
    · rfl
    · exact absurd b2 (hl2 g a2)
    · exact absurd a2 (hl1 s' g b1 b2).2
    · exact absurd a2 (hl2 g b2)
    · rfl
  · show 0 ≤ (if K = N then x else nd K).ends ∧ (if K = N then x else nd K).ends ≤ 1000000
    split
    · exact he
    · rename_i e; exact h.ends K ((hb K hK).resolve_right e)
end
end Go.Proofs.Ythcdhiknjpfmhaa
