/- ArenaKeeps: Push of an argument row of any length. -/
import Derived.Test.YthcdhiknjpfmhaaArKeN
set_option linter.unusedVariables false
set_option linter.unusedSimpArgs false
namespace Go.Proofs.Ythcdhiknjpfmhaa
open Go.RowKit
set_option maxHeartbeats 1000000 in
theorem push_row {w0 w : World} {A B : Nat} {cv fv rv : Value} {cs : List Cell} {fr ro : List Int} {live : Int} {xa : Option Addr} {m : Nat} (xs : List Int) (c : Nat) (h : Ar w A B cv fv rv cs fr ro live) (hx : ArgR w0 xa m xs) (b0 : Below w0.heap.size w0 w) (hro : ro.length ≤ 1000000) (hxs : m ≤ 1000000) (hB : B ≤ w.heap.size) :
    Calls Try.prog 11 #[.pointer (some ⟨A, 0, none⟩), .slice xa m c] w fun e w' => (∃ v, e = .returned v) ∧
      ∃ rv', Ar w' A B cv fv rv' cs fr (ro ++ xs) live ∧ Upd w w' (fun k => k = A ∨ rv.ownBlock = some k) ∧ (∀ g, rv'.ownBlock = some g → rv.ownBlock = some g ∨ w.heap.size ≤ g) := by
  obtain ⟨i0, hi, hz0, hz1, hz2⟩ := info_parts infoInt
  have hown := h.roots
  have hblk := h.blk
  have hsrc := argR_src hx b0
  obtain ⟨ra, rcap, rfl, _⟩ := own_shape h.roots
  have x2 : w.cell? ⟨A, 2, none⟩ = some (.slice ra ro.length rcap) := by rw [hblk.cell]; rfl
  have z2 := hblk.frozen 2
  have hAl := hblk.lt
  obtain ⟨n, hnn⟩ : ∃ n, ro.length = n := ⟨_, rfl⟩
  have hmm := hx.1
  rw [hnn] at x2 hown hro
  have HN := Lib.hid (And.intro hnn hmm)
  have HH := Lib.hid h
  have HW := Lib.hid hsrc
  clear hblk h hnn hmm hsrc hx b0
  go_enter Try.func11, Try.ntmps11
  go_wp2_with (at_builtin; refine wpList_onto rfl _ _ 22 rfl B 3 i0 (.int .i64 0) 1 8 Try.underlying22 hi hz0 hz1 hz2 rfl (by decide) _ _ _ rfl hown xa m c (numCells xs) rfl (by rw [Nat.mul_one]; simp [numCells, HN.out.2]) HW.out (numCells_one _) (by unfold maxLen; omega) (by omega) hB ?_)
  intro v2 w2 hown2 hgrow2 hat2
  obtain ⟨ga, capq, rfl, -⟩ := own_shape hown2
  have hbk := Blk.grown HH.out.blk hgrow2 (fun e => own_blk hown HH.out.blk (by decide) e.symm)
  have x2' : w2.cell? ⟨A, 2, none⟩ = some (.slice ra n rcap) := by rw [hbk.cell, ← HN.out.1]; rfl
  have f2 := hbk.frozen 2
  have l2 := hbk.lt
  have hFin : Ar (w2.setCell ⟨A, 2, none⟩ (.slice ga (n + m) capq)) A B cv fv (.slice ga (n + m) capq) cs fr (ro ++ xs) live ∧ Upd w (w2.setCell ⟨A, 2, none⟩ (.slice ga (n + m) capq)) (fun k => k = A ∨ (Value.slice ra ro.length rcap).ownBlock = some k) ∧
      (∀ g, (Value.slice ga (n + m) capq).ownBlock = some g → (Value.slice ra ro.length rcap).ownBlock = some g ∨ w.heap.size ≤ g) := by
    rw [HN.out.1]
    have hgq : ∀ g, (Value.slice ga (n + m) capq).ownBlock = some g → (Value.slice ra n rcap).ownBlock = some g ∨ w.heap.size ≤ g := fun g hg => by
      rcases hat2 g hg with q | q
      · exact .inl q
      · exact .inr (by omega)
    have far : ∀ {t : TypeId} {s k : Nat} {v : Value} {ys : List Value}, w.ownsRow B t s v k ys → t ≠ 64 → (v.ownBlock = none ∨ v.ownBlock ≠ (Value.slice ra n rcap).ownBlock) → (w2.setCell ⟨A, 2, none⟩ (.slice ga (n + m) capq)).ownsRow B t s v k ys := fun hv ht hne => own_set (hv.kept hgrow2 hne) hbk ht 2 _
    have hap := HH.out.apart
    rw [HN.out.1] at hap
    refine ⟨⟨hbk.set_ 2 _, far HH.out.cells (by decide) (own_ne HH.out.cells hown (by decide)), far HH.out.free (by decide) ?_, ?_, fun g hg hg2 => ?_⟩, (((Upd.refl w _).grown hgrow2 (fun k e => .inr e)).set A 2 _ (.inl rfl)), hgq⟩
    · cases hfo : fv.ownBlock with
      | none => exact .inl rfl
      | some g => exact .inr (fun e => hap g hfo e.symm)
    · rw [List.length_append, HN.out.1, HN.out.2, numCells_append]
      exact own_set hown2 hbk (by decide) 2 _
    · rcases hgq g hg2 with q | q
      · exact hap g hg q
      · exact absurd (HH.out.free.lt g hg).2 (Nat.not_lt_of_le q)
  have HF := Lib.hid hFin
  clear hFin hgrow2 hat2 hown2 hown hbk
  go_wp2
  go_end0
  exact ⟨⟨_, rfl⟩, _, HF.out⟩
end Go.Proofs.Ythcdhiknjpfmhaa
