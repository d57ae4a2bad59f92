/- HeapRuns: words of the chapter's other laws that serve here. -/
import Derived.Test.YtdeboajjhpecbaaDoorHpL
import Derived.Test.YtdeboajjhpecbaaDoorOrdC
import Derived.WalkSmall
import Derived.OpenShut
import Derived.Deep.Slices
import Derived.StillTailTactics
set_option linter.unusedVariables false
set_option linter.unusedSimpArgs false
namespace Go.Proofs.YtdeboajjhpecbaaDoor.Hp
open Go.RowKit Go.Proofs.YtdeboajjhpecbaaDoor Go.Shelf Go.Sort
attribute [local go_sem] Oper.semAt_some

theorem norm_mod (n m : Int) (hm : 0 < m) (h9 : m < 1000000000) : ∃ N : Nat, (wrap64 (n.tmod m + m)).tmod m = (N : Int) ∧ (N : Int) < m := by
  have h1 := Int.tmod_lt_of_pos n hm
  have h2 := Int.lt_tmod_of_pos n hm
  rw [IntWalk.wrap64_in _ (by omega)]
  rw [Int.tmod_eq_emod_of_nonneg (by omega)]
  have h3 := Int.emod_nonneg (n.tmod m + m) (by omega : m ≠ 0)
  have h4 := Int.emod_lt_of_pos (n.tmod m + m) hm
  exact ⟨((n.tmod m + m) % m).toNat, by omega, by omega⟩
theorem and_to (x : Int) (m : Nat) (hm : m < 1000) : ∃ j : Nat, j ≤ m ∧ bits .and .i64 x (m : Int) = (j : Int) := by
  have h : ((BitVec.ofInt 64 x) &&& (BitVec.ofInt 64 (m : Int))).toNat ≤ m := by
    rw [BitVec.toNat_and]
    refine Nat.le_trans Nat.and_le_right ?_
    rw [BitVec.ofInt_natCast, BitVec.toNat_ofNat]
    exact Nat.mod_le _ _
  refine ⟨((BitVec.ofInt 64 x) &&& (BitVec.ofInt 64 (m : Int))).toNat, h, ?_⟩
  show IntKind.i64.wrap ((((BitVec.ofInt 64 x) &&& (BitVec.ofInt 64 (m : Int))).toNat : Nat) : Int) = _
  exact IntWalk.i64_in _ (by omega)
theorem own_cap {w : World} {B size n cap g : Nat} {t : TypeId} {xs : List Value} (h : w.ownsRow B t size (.slice (some ⟨g, 0, none⟩) n cap) n xs) : n ≤ cap ∧ cap ≤ maxLen := by
  rcases h.2 with ⟨h', _⟩ | ⟨g', cap', cur, h', hb, hg, hnc, hcm, hcs, htake⟩
  · simp at h'
  · simp only [Value.slice.injEq, Option.some.injEq, Addr.mk.injEq, and_true, true_and] at h'
    obtain ⟨rfl, rfl⟩ := h'
    exact ⟨hnc, hcm⟩
theorem still_tail {P : Program} {id : Nat} {Q : Exit → Act → World → Prop} {a : Act} {w : World} {l : List Oper} (n : Nat) (hm : P.follows .mixedOrders = true) (hB : Region.lexTailB .any l.toArray n = true)
    (h : ∀ W, W = w.drewN 1 → wpStill P l.toArray W (fun a' => wpList P l.toArray Q (l.drop n) a' W) (l.take n) a) : (Code.region id l.toArray true).wp P Q a w := wp_region_still_tail n hm hB (h _ rfl)
theorem valsC_take (L : List K3) (n : Nat) : (valsC L).take (n * 3) = valsC (L.take n) := by
  induction n generalizing L with
  | zero => simp [valsC]
  | succ n ih =>
    cases L with
    | nil => simp [valsC]
    | cons k L =>
      have h1 : valsC (k :: L) = .int .i64 k.1 :: .int .i64 k.2.1 :: .string k.2.2 :: valsC L := by simp [valsC]
      rw [h1, show (n + 1) * 3 = n * 3 + 1 + 1 + 1 by omega, List.take_succ_cons, List.take_succ_cons, List.take_succ_cons, ih, List.take_succ_cons]
      simp [valsC]
def E0 : K3 := (10, 0, ⟨#[]⟩)
def lenAt (b : Nat) (w : World) : Nat := match w.cell? ⟨b, 4, none⟩ with
  | some (.slice _ n _) => n
  | _ => 0
theorem lenAt_of {b n : Nat} {w : World} {a : Option Addr} {cap : Nat} (h : w.cell? ⟨b, 4, none⟩ = some (.slice a n cap)) : lenAt b w = n := by unfold lenAt; rw [h]
theorem valsC_length (L : List K3) : (valsC L).length = L.length * 3 := by
  induction L with
  | nil => rfl
  | cons k L ih =>
    have h1 : valsC (k :: L) = .int .i64 k.1 :: .int .i64 k.2.1 :: .string k.2.2 :: valsC L := by simp [valsC]
    rw [h1]; simp [ih]; omega
theorem own_elem {W : World} {B g n cap : Nat} {L : List K3} (h : W.ownsRow B 26 3 (.slice (some ⟨g, 0, none⟩) n cap) L.length (valsC L)) (i : Nat) (k : K3) (hk : L[i]? = some k) (j : Nat) (hj : j < 3) : W.cell? ⟨g, i * 3 + j, none⟩ = ([.int .i64 k.1, .int .i64 k.2.1, .string k.2.2] : List Value)[j]? := by
  have hi : i < L.length := (List.getElem?_eq_some_iff.1 hk).1
  obtain ⟨A, c, hA, _⟩ := own_shape h
  have hn : n = L.length := by injection hA
  rw [hn] at h
  rw [h.cellAt (i * 3 + j) (by omega), valsC_get L i j k hk hj]
theorem lenK_idx : idxV 1 lenK = -1 := by
  unfold idxV
  rw [if_pos ⟨rfl, rfl⟩, ← keyL_len, keyL_idx _ (by decide)]
  rfl
theorem valsC_set (L : List K3) (i : Nat) (v : K3) : (((valsC L).set (i * 3) (.int .i64 v.1)).set (i * 3 + 1) (.int .i64 v.2.1)).set (i * 3 + 2) (.string v.2.2) = if i < L.length then valsC (L.set i v) else (((valsC L).set (i * 3) (.int .i64 v.1)).set (i * 3 + 1) (.int .i64 v.2.1)).set (i * 3 + 2) (.string v.2.2) := by
  split
  · rename_i h
    induction L generalizing i with
    | nil => simp at h
    | cons k L ih =>
      have h1 : ∀ (k : K3) (L : List K3), valsC (k :: L) = .int .i64 k.1 :: .int .i64 k.2.1 :: .string k.2.2 :: valsC L := fun k L => by simp [valsC]
      cases i with
      | zero => simp [h1]
      | succ i =>
        have := ih i (by simpa using h)
        have s3 : ∀ (x y z u : Value) (l : List Value) (a : Nat), (x :: y :: z :: l).set (a + 3) u = x :: y :: z :: l.set a u := fun _ _ _ _ _ _ => rfl
        rw [h1, show (i + 1) * 3 = i * 3 + 3 by omega, show i * 3 + 3 + 1 = i * 3 + 1 + 3 by omega, show i * 3 + 3 + 2 = i * 3 + 2 + 3 by omega, s3, s3, s3, this, List.set_cons_succ, h1]
  · rfl
theorem keyD_idx (i : Nat) (hi : i < 1000) : idxV 1 (keyD i) = (i : Int) := by
  unfold idxV
  rw [if_pos ⟨rfl, rfl⟩]
  show Tx.indexOf (keyL (Tx.decB i)).2.2 = _
  rw [keyL_idx _ (Tx.decB_ascii i (by omega)), Tx.idxL_dec i (by omega), if_neg (by omega)]
theorem keyD_size (i : Nat) (hi : i < 1000) : (keyD i).2.2.size ≤ 4000 := keyL_size _ (Tx.decB_ascii i (by omega)) (by have := decB_len i (by omega); omega)
def Z0 : K3 := (0, 0, ⟨#[]⟩)
theorem valsC_setK (L : List K3) (i : Nat) (x : K3) (k : Int) (hx : L[i]? = some x) : (valsC L).set (i * 3) (.int .i64 k) = valsC (L.set i (k, x.2.1, x.2.2)) := by
  induction L generalizing i with
  | nil => simp at hx
  | cons d L ih =>
    have h1 : ∀ (k : K3) (L : List K3), valsC (k :: L) = .int .i64 k.1 :: .int .i64 k.2.1 :: .string k.2.2 :: valsC L := fun k L => by simp [valsC]
    cases i with
    | zero => simp at hx; subst hx; simp [h1]
    | succ i =>
      have s3 : ∀ (x y z u : Value) (l : List Value) (a : Nat), (x :: y :: z :: l).set (a + 3) u = x :: y :: z :: l.set a u := fun _ _ _ _ _ _ => rfl
      rw [h1, show (i + 1) * 3 = i * 3 + 3 by omega, s3, ih i (by simpa using hx), List.set_cons_succ, h1]
theorem made_vals (n : Nat) : (madeCells (Value.agg #[.int .i64 0, .int .i64 0, .string ⟨#[]⟩]).cells (n * 3)).toList = valsC (List.replicate n Z0) := by
  apply List.ext_getElem?
  intro j
  by_cases hj : j < n * 3
  · have h := valsC_get (List.replicate n Z0) (j / 3) (j % 3) Z0 (by rw [List.getElem?_replicate, if_pos (by omega)]) (Nat.mod_lt _ (by decide))
    rw [show j / 3 * 3 + j % 3 = j by omega] at h
    rw [h]
    have h3 : j % 3 = 0 ∨ j % 3 = 1 ∨ j % 3 = 2 := by omega
    rcases h3 with e | e | e <;> simp [madeCells, hj, e, Value.cells, Z0]
  · have : (valsC (List.replicate n Z0)).length ≤ j := by rw [valsC_length]; simp; omega
    rw [List.getElem?_eq_none this]
    simp [madeCells]; omega
end Go.Proofs.YtdeboajjhpecbaaDoor.Hp
