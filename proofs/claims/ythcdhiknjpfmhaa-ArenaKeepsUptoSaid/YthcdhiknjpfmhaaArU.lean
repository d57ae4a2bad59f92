/- The arena: Push, Pop, Get, Make out of freed cells; rows of numbers compared. -/
import Derived.Test.YthcdhiknjpfmhaaArT
set_option linter.unusedVariables false
set_option linter.unusedSimpArgs false
namespace Go.Proofs.Ythcdhiknjpfmhaa
open Go.RowKit

set_option maxHeartbeats 1000000 in
/-- Push: numbers that lie somewhere. -/
theorem push_any {w : World} {A B : Nat} {cv fv rv : Value} {cs : List Cell} {fr ro : List Int} {live : Int} (xs : List Int) (ad : Addr) (c : Nat) (h : Ar w A B cv fv rv cs fr ro live) (hm : 0 < xs.length) (hn : ∀ j u, (numCells xs)[j]? = some u → w.cell? (ad.add j) = some u) (hro : ro.length ≤ 1000000) (hxs : xs.length ≤ 1000000) (hB : B ≤ w.heap.size) :
    Calls Try.prog 11 #[.pointer (some ⟨A, 0, none⟩), .slice (some ad) xs.length c] w fun e w' => (∃ v, e = .returned v) ∧
      ∃ rv', Ar w' A B cv fv rv' cs fr (ro ++ xs) live ∧ Upd w w' (fun k => k = A ∨ rv.ownBlock = some k) ∧ (∀ g, rv'.ownBlock = some g → rv.ownBlock = some g ∨ w.heap.size ≤ g) := by
  obtain ⟨i0, hi, hz0, hz1, hz2⟩ := info_parts infoInt
  have hown := h.roots
  have hblk := h.blk
  obtain ⟨ra, rcap, rfl, _⟩ := own_shape h.roots
  have x2 : w.cell? ⟨A, 2, none⟩ = some (.slice ra ro.length rcap) := by rw [hblk.cell]; rfl
  have z2 := hblk.frozen 2
  have hAl := hblk.lt
  obtain ⟨n, hnn⟩ : ∃ n, ro.length = n := ⟨_, rfl⟩
  obtain ⟨m, hmm⟩ : ∃ m, xs.length = m := ⟨_, rfl⟩
  rw [hnn] at x2 hown hro
  rw [hmm] at hm hxs ⊢
  have HN := Lib.hid (And.intro hnn hmm)
  have HH := Lib.hid h
  have HW := Lib.hid hn
  clear hblk h hnn hmm hn
  go_enter Try.func11, Try.ntmps11
  go_wp2_with (at_builtin; refine wpList_append_lies _ rfl _ _ 22 rfl B 3 i0 (.int .i64 0) 1 8 Try.underlying22 hi hz0 hz1 hz2 rfl (by decide) _ _ _ rfl hown ad m c (numCells xs) rfl (by rw [Nat.mul_one, ← HN.out.2]; simp [numCells]) HW.out (by intro u hu; obtain ⟨x, _, rfl⟩ := List.mem_map.1 hu; rfl) hm (by unfold maxLen; omega) (by omega) hB _ rfl ?_)
  intro gq capq w2 hown2 hgrow2 hat2 hlt2
  have hbk := Blk.grown HH.out.blk hgrow2 (fun e => own_blk hown HH.out.blk (by decide) e.symm)
  have x2' : w2.cell? ⟨A, 2, none⟩ = some (.slice ra n rcap) := by rw [hbk.cell, ← HN.out.1]; rfl
  have f2 := hbk.frozen 2
  have l2 := hbk.lt
  have hFin : Ar (w2.setCell ⟨A, 2, none⟩ (.slice (some ⟨gq, 0, none⟩) (n + m) capq)) A B cv fv (.slice (some ⟨gq, 0, none⟩) (n + m) capq) cs fr (ro ++ xs) live ∧ Upd w (w2.setCell ⟨A, 2, none⟩ (.slice (some ⟨gq, 0, none⟩) (n + m) capq)) (fun k => k = A ∨ (Value.slice ra ro.length rcap).ownBlock = some k) ∧
      (∀ g, (Value.slice (some ⟨gq, 0, none⟩) (n + m) capq).ownBlock = some g → (Value.slice ra ro.length rcap).ownBlock = some g ∨ w.heap.size ≤ g) := by
    rw [HN.out.1]
    have hgq : ∀ g, (Value.slice (some ⟨gq, 0, none⟩) (n + m) capq).ownBlock = some g → (Value.slice ra n rcap).ownBlock = some g ∨ w.heap.size ≤ g := fun g hg => by
      obtain rfl : gq = g := by simpa [Value.ownBlock] using hg
      rcases hat2 with q | q
      · exact .inl q
      · exact .inr (by omega)
    have far : ∀ {t : TypeId} {s k : Nat} {v : Value} {ys : List Value}, w.ownsRow B t s v k ys → t ≠ 64 → (v.ownBlock = none ∨ v.ownBlock ≠ (Value.slice ra n rcap).ownBlock) → (w2.setCell ⟨A, 2, none⟩ (.slice (some ⟨gq, 0, none⟩) (n + m) capq)).ownsRow B t s v k ys := fun hv ht hne => own_set (hv.kept hgrow2 hne) hbk ht 2 _
    have hap := HH.out.apart
    rw [HN.out.1] at hap
    refine ⟨⟨hbk.set_ 2 _, far HH.out.cells (by decide) (own_ne HH.out.cells hown (by decide)), far HH.out.free (by decide) ?_, ?_, fun g hg hg2 => ?_⟩, (((Upd.refl w _).grown hgrow2 (fun k e => .inr e)).set A 2 _ (.inl rfl)), hgq⟩
    · cases hfo : fv.ownBlock with
      | none => exact .inl rfl
      | some g => exact .inr (fun e => hap g hfo e.symm)
    · rw [List.length_append, HN.out.1, HN.out.2, numCells_append]
      exact own_set hown2 hbk (by decide) 2 _
    · rcases hgq g hg2 with q | q
      · exact hap g hg q
      · exact absurd (HH.out.free.lt g hg).2 (Nat.not_lt_of_le q)
  have HF := Lib.hid hFin
  clear hFin hgrow2 hat2 hlt2 hown2 hown hbk
  go_wp2
  go_end0
  exact ⟨⟨_, rfl⟩, _, HF.out⟩
set_option maxHeartbeats 1000000 in
/-- Pop: no more than there are. -/
theorem pop_any {w : World} {A B : Nat} {cv fv rv : Value} {cs : List Cell} {fr ro : List Int} {live : Int} (k : Nat) (h : Ar w A B cv fv rv cs fr ro live) (hk : k ≤ ro.length) (hro : ro.length ≤ 1000000) :
    Calls Try.prog 16 #[.pointer (some ⟨A, 0, none⟩), .int .i64 k] w fun e w' => (∃ v, e = .returned v) ∧
      ∃ rv', Ar w' A B cv fv rv' cs fr (ro.take (ro.length - k)) live ∧ Upd w w' (fun k => k = A) ∧ (∀ g, rv'.ownBlock = some g → rv.ownBlock = some g) := by
  have hown := h.roots
  have hblk := h.blk
  obtain ⟨n, hnn⟩ : ∃ n, ro.length = n := ⟨_, rfl⟩
  rw [hnn] at hk hro hown ⊢
  have hAl := hblk.lt
  have z2 := hblk.frozen 2
  have b0 : (0 : Int) ≤ k := by omega
  have b1 : (k : Int) ≤ n := by omega
  have b2 : max (k : Int) 0 = k := by omega
  have b3 : min (k : Int) n = k := by omega
  have b4 : IntKind.i64.wrap ((n : Int) - k) = ((n - k : Nat) : Int) := by rw [IntWalk.i64_in _ (by omega)]; omega
  have b5 : n - k ≤ n := by omega
  have b8 : ¬ (k : Int) < 0 := by omega
  have b9 : ¬ (n : Int) < (k : Int) := by omega
  have b10 : IntKind.i64.wrap 0 = 0 := by decide
  have hfin : ∀ W, W = w.drewN 1 → ∀ v', w.ownsRow B 3 1 v' (n - k) (numCells (ro.take (n - k))) → (∀ g, v'.ownBlock = some g → rv.ownBlock = some g) → (Ar (W.setCell ⟨A, 2, none⟩ v') A B cv fv v' cs fr (ro.take (n - k)) live ∧ Upd w (W.setCell ⟨A, 2, none⟩ v') (fun k => k = A) ∧ (∀ g, v'.ownBlock = some g → rv.ownBlock = some g)) := by
    rintro W rfl v' hv hg
    have h' : Ar (w.drewN 1) A B cv fv rv cs fr ro live := ⟨h.blk, h.cells, h.free, h.roots, h.apart⟩
    have hv' : (w.drewN 1).ownsRow B 3 1 v' (n - k) (numCells (ro.take (n - k))) := hv
    exact ⟨⟨h'.blk.set_ 2 _, own_set h'.cells h'.blk (by decide) 2 _, own_set h'.free h'.blk (by decide) 2 _, by
      rw [List.length_take, hnn, Nat.min_eq_left (Nat.sub_le _ _)]
      exact own_set hv' h'.blk (by decide) 2 _, fun g h1 h2 => h'.apart g h1 (hg g h2)⟩, ((Upd.refl w _).drewN 1).trans (set_upd (w.drewN 1) A 2 v'), hg⟩
  have hx : ∀ W, W = w.drewN 1 → Blk W A 64 #[cv, fv, rv, .int .i64 live] := by
    rintro W rfl
    exact h.blk
  have HF := Lib.hid hfin
  obtain ⟨ra, rcap, rfl, hra⟩ := own_shape hown
  have HX2 := Lib.hid hx
  clear hx
  cases ra with
  | none =>
    obtain ⟨hn0, hc0⟩ : n = 0 ∧ rcap = 0 := by
      rcases hown.2 with ⟨e, e2⟩ | ⟨g, cap, cur, e, _⟩
      · cases e; exact ⟨rfl, rfl⟩
      · cases e
    subst hn0 hc0
    obtain rfl : k = 0 := by omega
    have hrow : w.ownsRow B 3 1 (.slice none 0 0) (0 - 0) (numCells (ro.take (0 - 0))) := by rw [List.eq_nil_of_length_eq_zero (by simp [hnn] : (ro.take (0 - 0)).length = 0)]; exact World.ownsRow_nil _ _ _ _
    have HO := Lib.hid hrow
    clear hrow
    clear hown hblk h hnn hfin z2
    go_enter Try.func16, Try.ntmps16
    go_wp2_with fail
    refine still_tail 20 (by kernel_rfl) (by kernel_rfl) (fun W2 hW2 => ?_)
    have hb2 := HX2.out W2 hW2
    have HR := Lib.hid (HF.out W2 hW2 (.slice none 0 0) HO.out (fun g hg => by cases hg))
    have x2 : W2.cell? ⟨A, 2, none⟩ = some (.slice none 0 0) := by rw [hb2.cell]; rfl
    have z2 := hb2.frozen 2
    have l2 := hb2.lt
    clear hW2 hb2 HX2 HF
    simp only [List.take_succ_cons, List.take_zero, List.drop_succ_cons, List.drop_zero]
    repeat still_step
    refine wpStill_nil ?_
    go_wp2
    go_end0
    exact ⟨⟨_, rfl⟩, _, HR.out⟩
  | some p =>
    obtain ⟨g, rfl⟩ : ∃ g, p = ⟨g, 0, none⟩ := by
      rcases hown.2 with ⟨e, _⟩ | ⟨g, cap, cur, e, _⟩
      · cases e
      · cases e; exact ⟨g, rfl⟩
    have hcp := (own_cap hown).1
    have b6 : n - k ≤ rcap := by omega
    have b7 := (own_cap hown).2
    have hrow : w.ownsRow B 3 1 (.slice (some ⟨g, 0, none⟩) (n - k) rcap) (n - k) (numCells (ro.take (n - k))) := by
      have := own_take hown (n - k) (by omega)
      rwa [Nat.mul_one, show (numCells ro).take (n - k) = numCells (ro.take (n - k)) by simp [numCells, List.map_take]] at this
    obtain ⟨d, hd⟩ : ∃ d, n - k = d := ⟨_, rfl⟩
    have b11 : (0 : Int) ≤ d := by omega
    have b12 : (d : Int) ≤ rcap := by omega
    have b13 : (d : Int).toNat = d := by omega
    rw [hd] at b4 b5 b6 hrow HF ⊢
    have b14 : IntKind.i64.wrap ((n : Int) - if (n : Int) < if (k : Int) < 0 then 0 else (k : Int) then (n : Int) else if (k : Int) < 0 then 0 else (k : Int)) = (d : Int) := by rw [if_neg b8, if_neg b9, b4]
    clear hd
    have HO := Lib.hid hrow
    clear hrow
    clear hown hblk h hnn hfin z2
    go_enter Try.func16, Try.ntmps16
    go_wp2_with fail
    refine still_tail 20 (by kernel_rfl) (by kernel_rfl) (fun W2 hW2 => ?_)
    have hb2 := HX2.out W2 hW2
    have HR := Lib.hid (HF.out W2 hW2 (.slice (some ⟨g, 0, none⟩) d rcap) HO.out (fun g1 hg => hg))
    have x2 : W2.cell? ⟨A, 2, none⟩ = some (.slice (some ⟨g, 0, none⟩) n rcap) := by rw [hb2.cell]; rfl
    have z2 := hb2.frozen 2
    have l2 := hb2.lt
    clear hW2 hb2 HX2 HF
    simp only [List.take_succ_cons, List.take_zero, List.drop_succ_cons, List.drop_zero]
    repeat still_step
    refine wpStill_nil ?_
    go_wp2
    go_end0
    exact ⟨⟨_, rfl⟩, _, HR.out⟩
end Go.Proofs.Ythcdhiknjpfmhaa
