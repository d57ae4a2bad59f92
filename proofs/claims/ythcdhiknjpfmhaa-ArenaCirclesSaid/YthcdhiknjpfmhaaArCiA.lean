/- ArenaCircles: the closure at. -/
import Derived.Test.YthcdhiknjpfmhaaArCiQ
import Derived.BigRegion
set_option linter.unusedVariables false
set_option linter.unusedSimpArgs false
namespace Go.Proofs.Ythcdhiknjpfmhaa
open Go.RowKit
theorem norm_nat (K m : Nat) (hm : 0 < m) (h9 : m < 1000000) (hK : K < 1000000) : (wrap64 ((K : Int).tmod m + m)).tmod m = ((K % m : Nat) : Int) := by
  have e : (K : Int).tmod m = ((K % m : Nat) : Int) := by
    rw [Int.tmod_eq_emod_of_nonneg (by omega)]; rfl
  have hlt : K % m < m := Nat.mod_lt _ hm
  rw [e, IntWalk.wrap64_in _ (by omega), Int.tmod_eq_emod_of_nonneg (by omega)]
  rw [Int.add_emod_right]
  exact Int.emod_eq_of_lt (by omega) (by omega)
theorem at_any (k : Int) (m y bx : Nat) (w : World) (hm : 0 < m) (hm2 : m < 1000000) (hb : w.cell? ⟨bx, 0, none⟩ = some (.int .i64 m)) (hy : (wrap64 (k.tmod m + m)).tmod m = (y : Int)) :
    Calls Try.prog 15 #[.int .i64 k, .pointer (some ⟨bx, 0, none⟩)] w fun e w' => e = .returned (.int .i64 y) ∧ ∃ q, w' = w.drewN q := by
  have m0 : ¬ (m : Int) = 0 := by omega
  have m0' : ((m : Int) == 0) = false := by rw [beq_eq_false_iff_ne]; omega
  have hy3 : (IntKind.i64.wrap (k.tmod m + m)).tmod m = (y : Int) := by
    rw [IntWalk.i64_in _ (by have := Int.tmod_lt_of_pos k (show (0 : Int) < m by omega); have := Int.lt_tmod_of_pos k (show (0 : Int) < m by omega); omega)]
    rw [IntWalk.wrap64_in _ (by have := Int.tmod_lt_of_pos k (show (0 : Int) < m by omega); have := Int.lt_tmod_of_pos k (show (0 : Int) < m by omega); omega)] at hy
    exact hy
  go_enter Try.func15, Try.ntmps15
  go_wp2_with fail
  go_quiet (fail)
  go_wp2_with fail
  go_ret
  exact ⟨rfl, _, rfl⟩
theorem getD_set (ts : List (List Int)) (k j : Nat) (t : List Int) (hk : k < ts.length) : (ts.set k t).getD j [] = if j = k then t else ts.getD j [] := by
  simp only [List.getD_eq_getElem?_getD, List.getElem?_set]
  by_cases e : k = j
  · subst e; rw [if_pos rfl, if_pos hk, if_pos rfl]; rfl
  · rw [if_neg e, if_neg (fun q => e q.symm)]
/-- The lists grow: what was in them stays, and one grows by one. -/
theorem grow_mem (ts : List (List Int)) (k : Nat) (v : Int) (hk : k < ts.length) (j : Nat) (x : Int) (hx : x ∈ ts.getD j []) : x ∈ (ts.set k (ts.getD k [] ++ [v])).getD j [] := by
  rw [getD_set _ _ _ _ hk]
  split
  · rename_i e; subst e; exact List.mem_append_left _ hx
  · exact hx
theorem grow_len (ts : List (List Int)) (k : Nat) (v : Int) (hk : k < ts.length) (c : Nat) (h : ∀ j, (ts.getD j []).length ≤ c) (j : Nat) : ((ts.set k (ts.getD k [] ++ [v])).getD j []).length ≤ c + 1 := by
  rw [getD_set _ _ _ _ hk]
  split
  · have := h k; rw [List.length_append, List.length_cons, List.length_nil]; omega
  · have := h j; omega
theorem Ci.ts_len {w1 W : World} {A n lg : Nat} {cv : Value} {cs : List Cell} {nd : Nat → Nod} {ts : List (List Int)} (h : Ci w1 W A n lg cv cs nd ts) (hc : cs.length = n) : ts.length = n := by
  have := h.desc.len
  simp only [circDs, List.length_map] at this
  omega
theorem built_pop {tn : Prop} {W : World} {A : Nat} {cv fv rv : Value} {ds : List De} {ro : List Int} (h : Built tn W A cv fv rv ds ro) (k : Nat) (hk : k ≤ ro.length) (hro : ro.length ≤ 1000000) :
    Calls Try.prog 16 #[.pointer (some ⟨A, 0, none⟩), .int .i64 k] W fun e w' => (∃ v, e = .returned v) ∧ ∃ rv', Built tn w' A cv fv rv' ds (ro.take (ro.length - k)) ∧ Upd W w' (fun k => k = A) := by
  obtain ⟨cs, nd, h1, h2, h3⟩ := h
  refine (pop_any k h1.ar hk hro).mono ?_
  rintro e w' ⟨hv, rv', har, hu, hr⟩
  exact ⟨hv, rv', ⟨cs, nd, h1.turn har (hu.mono fun k _ e => .inl e) (fun g hg => hg) (fun g hg => .inl (hr g hg)) rfl, h2, h3⟩, hu⟩
theorem built_A_le {tn : Prop} {W : World} {A : Nat} {cv fv rv : Value} {ds : List De} {ro : List Int} (h : Built tn W A cv fv rv ds ro) : A ≤ W.heap.size ∧ ∀ g, rv.ownBlock = some g → A ≤ g := by
  obtain ⟨cs, nd, h1, h2, h3⟩ := h
  exact ⟨Nat.le_of_lt h1.ar.blk.lt, fun g hg => (h1.ar.roots.lt g hg).1⟩
/-- What a walk wants of node i. -/
theorem ci_facts {w1 W : World} {A n lg i N : Nat} {cv : Value} {cs : List Cell} {nd : Nat → Nod} {ts : List (List Int)} (h : Ci w1 W A n lg cv cs nd ts) (hc : cs.length = n) (hi : i < n) (hN : nodeAt cs i = N) : W.cell? ⟨lg, i, none⟩ = some (.pointer (some ⟨N, 0, none⟩)) ∧ W.cell? ⟨N, 0, none⟩ = some (nd N).tv ∧ W.ownsRow A 3 1 (nd N).tv (nd N).to_.length (numCells (nd N).to_) ∧ (nd N).to_ = ts.getD i [] ∧ A ≤ W.heap.size := by
  subst hN
  obtain ⟨h1, h2, h3, _⟩ := ci_node h hc hi
  have hR := h.arn.nodes _ h1
  exact ⟨h3, by rw [hR.blk.cell]; rfl, hR.toR, h2, Nat.le_of_lt h.arn.ar.blk.lt⟩
theorem ci_mid {w1 W W2 : World} {A n lg i N : Nat} {cv : Value} {cs : List Cell} {nd : Nat → Nod} {ts : List (List Int)} {o : Obj} (h : Ci w1 W A n lg cv cs nd ts) (hc : cs.length = n) (hi : i < n) (hN : nodeAt cs i = N) (hg : (W.alloc o).grownBy W2 (nd N).tv.ownBlock) : W2.cell? ⟨lg, i, none⟩ = some (.pointer (some ⟨N, 0, none⟩)) ∧ W2.cell? ⟨N, 0, none⟩ = some (nd N).tv ∧ W2.frozen? ⟨N, 0, none⟩ = false ∧ N < W2.heap.size := by
  obtain ⟨f1, f2, f3, _, _⟩ := ci_facts h hc hi hN
  subst hN
  obtain ⟨h1, _, _, _⟩ := ci_node h hc hi
  have hR := h.arn.nodes _ h1
  have hk2 := Blk.grown (hR.blk.alloc o) hg (fun e => own_blk hR.toR hR.blk (by decide) e.symm)
  have U : Upd W W2 (fun k => (nd (nodeAt cs i)).tv.ownBlock = some k) := ((Upd.refl W _).alloc o).grown hg (fun k e => e)
  exact ⟨U.cell f1 (fun e => by
    rcases own_ne h.row hR.toR (by decide) with q | q
    · cases q
    · exact q e.symm), by rw [hk2.cell]; rfl, hk2.frozen 0, hk2.lt⟩
end Go.Proofs.Ythcdhiknjpfmhaa
