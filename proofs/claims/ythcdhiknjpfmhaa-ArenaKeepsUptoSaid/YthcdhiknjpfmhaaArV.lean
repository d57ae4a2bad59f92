/- The arena: Make out of a freed cell; Get; rows of numbers compared; the operations on an arena with its nodes. -/
import Derived.Test.YthcdhiknjpfmhaaArU
set_option linter.unusedVariables false
set_option linter.unusedSimpArgs false
namespace Go.Proofs.Ythcdhiknjpfmhaa
open Go.RowKit

theorem clCells_set2 (l : List Cell) (k : Nat) (c : Cell) (hk : k < l.length) : ((clCells l).set (k * 2) (bodyV c.1)).set (k * 2 + 1) (.bool c.2) = clCells (l.set k c) := clCells_set l k c
set_option maxHeartbeats 1000000 in
set_option maxRecDepth 100000 in
theorem make_old {w : World} {A B : Nat} {cv fv rv : Value} {cs : List Cell} {ro fr : List Int} {live : Int} (N i : Nat) (h : Ar w A B cv fv rv cs (fr ++ [(i : Int) + 1]) ro live) (hi : i < cs.length) (hl : 0 ≤ live) (hl2 : live < 4194304) (hc : cs.length ≤ 100000000) (hfl : fr.length ≤ 1000000) (hB : B ≤ w.heap.size) :
    Calls Try.prog 10 #[.pointer (some ⟨A, 0, none⟩), bodyV (some N)] w fun e w' => e = .returned (.int .i64 ((i : Int) + 1)) ∧
      ∃ fv', Ar w' A B cv fv' rv (cs.set i (some N, false)) fr ro (live + 1) ∧ Upd w w' (fun k => k = A ∨ cv.ownBlock = some k) ∧ fv'.ownBlock = fv.ownBlock := by
  have hown := h.cells
  have hblk := h.blk
  obtain ⟨ca, ccap, rfl, hca⟩ := own_shape h.cells
  obtain ⟨fa, fcap, rfl, hfa⟩ := own_shape h.free
  have hfr := h.free
  have hlen : (fr ++ [(i : Int) + 1]).length = fr.length + 1 := by simp
  rw [hlen] at hfr hfa hblk
  obtain ⟨gc, rfl⟩ := hca (by omega)
  obtain ⟨gf, rfl⟩ := hfa (by omega)
  have hcap := own_cap hfr
  obtain ⟨nf, hnf⟩ : ∃ nf, fr.length = nf := ⟨_, rfl⟩
  obtain ⟨nc, hnc⟩ : ∃ nc, cs.length = nc := ⟨_, rfl⟩
  have x0 : w.cell? ⟨A, 0, none⟩ = some (.slice (some ⟨gc, 0, none⟩) nc ccap) := by rw [hblk.cell, ← hnc]; rfl
  have x1 : w.cell? ⟨A, 1, none⟩ = some (.slice (some ⟨gf, 0, none⟩) (nf + 1) fcap) := by rw [hblk.cell, ← hnf]; rfl
  have x3 : w.cell? ⟨A, 3, none⟩ = some (.int .i64 live) := by rw [hblk.cell]; rfl
  have z1 := hblk.frozen 1
  have z3 := hblk.frozen 3
  have hAl := hblk.lt
  have fc := (hfr.cellAt fr.length (show fr.length < (fr.length + 1) * 1 by omega)).trans (numCells_get (fr ++ [(i : Int) + 1]) fr.length (by simp))
  rw [show (fr ++ [(i : Int) + 1]).getD fr.length 0 = (i : Int) + 1 by rw [List.getD_eq_getElem?_getD, List.getElem?_append_right (Nat.le_refl _), Nat.sub_self]; rfl, hnf] at fc
  have L0 : (live == 4194304) = false := by rw [beq_eq_false_iff_ne]; omega
  have L1 : ¬ live = 4194304 := by omega
  have w1 : IntKind.i64.wrap (live + 1) = live + 1 := IntWalk.i64_in _ (by omega)
  have a1' : IntKind.i64.wrap ((nf : Int) + 1 - 1) = (nf : Int) := by rw [IntWalk.i64_in _ (by omega)]; omega
  have a1'' : IntKind.i64.wrap (nf : Int) = (nf : Int) := IntWalk.i64_in _ (by omega)
  have a2 : IntKind.i64.wrap ((i : Int) + 1 - 1) = (i : Int) := by rw [IntWalk.i64_in _ (by omega)]; omega
  have a2' : IntKind.i64.wrap (i : Int) = (i : Int) := IntWalk.i64_in _ (by omega)
  have L2 : decide ((0 : Int) < (nf : Int) + 1) = true := by rw [decide_eq_true_eq]; omega
  have L3 : (0 : Int) < (nf : Int) + 1 := by omega
  have z2 : (0 : Int) ≤ (i : Int) := by omega
  have z4 : (i : Int) < (nc : Int) := by omega
  have z5 : (i : Int).toNat = i := by omega
  have z6 : (0 : Int) ≤ (nf : Int) := by omega
  have z7 : (nf : Int) < (nf : Int) + 1 := by omega
  have z8 : (nf : Int).toNat = nf := by omega
  have z9 : nf ≤ fcap := by omega
  have e1 : (nf : Int) + 1 - 1 = (nf : Int) := by omega
  have e2 : (i : Int) + 1 - 1 = (i : Int) := by omega
  have hgfA : gf ≠ A := fun e => own_blk hfr hblk (by decide) (by rw [← e]; rfl)
  have hgcA : gc ≠ A := fun e => own_blk hown hblk (by decide) (by rw [← e]; rfl)
  have hgcf : gc ≠ gf := fun e => by
    rcases own_ne hown hfr (by decide) with q | q
    · cases q
    · exact q (by rw [e]; rfl)
  have hg := clCells_get cs i hi
  have c0 := (hown.cellAt (i * 2) (show i * 2 < cs.length * 2 by omega)).trans hg.1
  have c1 := (hown.cellAt (i * 2 + 1) (show i * 2 + 1 < cs.length * 2 by omega)).trans hg.2
  have fz0 := hown.frozenAt (i * 2)
  have fz1 := hown.frozenAt (i * 2 + 1)
  have hgl := (hown.lt gc rfl).2
  have hfl2 := (hfr.lt gf rfl).2
  have hfin : Ar ((((w.setCell ⟨A, 3, none⟩ (.int .i64 (live + 1))).setCell ⟨A, 1, none⟩ (.slice (some ⟨gf, 0, none⟩) nf fcap)).setCell ⟨gc, i * 2, none⟩ (.iface 27 (.pointer (some ⟨N, 0, none⟩)))).setCell ⟨gc, i * 2 + 1, none⟩ (.bool false)) A B (.slice (some ⟨gc, 0, none⟩) cs.length ccap) (.slice (some ⟨gf, 0, none⟩) nf fcap) rv (cs.set i (some N, false)) fr ro (live + 1) := by
    have k1 := (h.blk.set_ 3 (.int .i64 (live + 1))).set_ 1 (.slice (some ⟨gf, 0, none⟩) nf fcap)
    have r1 := own_set (own_set h.roots h.blk (by decide) 3 (.int .i64 (live + 1))) (h.blk.set_ 3 (.int .i64 (live + 1))) (by decide) 1 (.slice (some ⟨gf, 0, none⟩) nf fcap)
    have f1 := own_set (own_set (own_take hfr fr.length (by omega)) h.blk (by decide) 3 (.int .i64 (live + 1))) (h.blk.set_ 3 (.int .i64 (live + 1))) (by decide) 1 (.slice (some ⟨gf, 0, none⟩) nf fcap)
    have c1 := own_set (own_set h.cells h.blk (by decide) 3 (.int .i64 (live + 1))) (h.blk.set_ 3 (.int .i64 (live + 1))) (by decide) 1 (.slice (some ⟨gf, 0, none⟩) nf fcap)
    have c2 := (((c1.stored (i * 2) (bodyV (some N))).1).stored (i * 2 + 1) (.bool false)).1
    have hsc := clCells_set cs i (some N, false)
    dsimp only at hsc
    rw [hsc] at c2
    have u1 := ((Upd.refl ((w.setCell ⟨A, 3, none⟩ (.int .i64 (live + 1))).setCell ⟨A, 1, none⟩ (.slice (some ⟨gf, 0, none⟩) nf fcap)) (fun k => k = gc)).set gc (i * 2) (bodyV (some N)) rfl).set gc (i * 2 + 1) (.bool false) rfl
    refine ⟨u1.blk k1 (fun e => hgcA e.symm), by rw [List.length_set]; exact c2, ?_, u1.own r1 (fun g hg e => ?_), fun g h1 h2 => h.apart g h1 h2⟩
    · rw [show (numCells (fr ++ [(i : Int) + 1])).take (fr.length * 1) = numCells fr by rw [numCells_append, Nat.mul_one, List.take_append_of_le_length (by simp [numCells]), List.take_of_length_le (by simp [numCells])], hnf] at f1
      rw [hnf]
      refine u1.own f1 (fun g hg e => ?_)
      obtain rfl : gf = g := by simpa [Value.ownBlock] using hg
      exact hgcf e.symm
    · subst e
      rcases own_ne h.roots h.cells (by decide) with q | q
      · rw [q] at hg; cases hg
      · exact q (by rw [hg]; rfl)
  have hupd : Upd w ((((w.setCell ⟨A, 3, none⟩ (.int .i64 (live + 1))).setCell ⟨A, 1, none⟩ (.slice (some ⟨gf, 0, none⟩) nf fcap)).setCell ⟨gc, i * 2, none⟩ (.iface 27 (.pointer (some ⟨N, 0, none⟩)))).setCell ⟨gc, i * 2 + 1, none⟩ (.bool false)) (fun k => k = A ∨ (Value.slice (some ⟨gc, 0, none⟩) cs.length ccap).ownBlock = some k) :=
    ((((Upd.refl w _).set A 3 _ (.inl rfl)).set A 1 _ (.inl rfl)).set gc (i * 2) _ (.inr rfl)).set gc (i * 2 + 1) _ (.inr rfl)
  have HF := Lib.hid (And.intro hfin hupd)
  clear hfin hupd
  have HH := Lib.hid h
  have HN := Lib.hid (And.intro hnf hnc)
  clear hown hfr hblk h hlen hcap hnf hnc hg
  unfold bodyV
  go_enter Try.func10, Try.ntmps10
  go_wp2_with fail
  go_ret
  exact ⟨rfl, _, HF.out.1, HF.out.2, rfl⟩
end Go.Proofs.Ythcdhiknjpfmhaa
