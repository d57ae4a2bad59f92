/- Signs of a list of units: the plain part. -/
import Derived.Test.YtdeboajjhpecbaaDoorTxtH
import Derived.Test.YtdeboajjhpecbaaDoorTxt
set_option linter.unusedVariables false
set_option linter.unusedSimpArgs false
namespace Go.Proofs.YtdeboajjhpecbaaDoor.Tx
open Go.RowKit

def signs : List Nat → List (List Nat)
  | [] => []
  | [u] => [[u]]
  | u :: v :: r => if ptB u v then [u, v] :: signs r else [u] :: signs (v :: r)

/-- A sign's number. -/
def signR : List Nat → Nat
  | [u, v] => (u - 55296) * 1024 + (v - 56320) + 65536
  | u :: _ => u
  | [] => 0

theorem ptB_zero (u : Nat) : ptB u 0 = false := by
  rw [Bool.eq_false_iff, ne_eq, ptB_iff]; omega

/-- How many units the first sign has. -/
def ptAt (l : List Nat) (i : Nat) : Nat := ptN (l.getD i 0) (l.getD (i + 1) 0)
theorem ptAt_bd (l : List Nat) (i : Nat) : 1 ≤ ptAt l i ∧ ptAt l i ≤ 2 := ptN_bd _ _
theorem ptAt_fit (l : List Nat) (i : Nat) (h : i < l.length) : i + ptAt l i ≤ l.length := by
  unfold ptAt ptN
  split
  case isTrue hp =>
    rcases Nat.lt_or_ge (i + 1) l.length with h1 | h1
    · omega
    · rw [List.getD_eq_getElem?_getD (i := i + 1), List.getElem?_eq_none h1] at hp
      simp [ptB_zero] at hp
  case isFalse => omega

theorem signs_head (l : List Nat) (h : 0 < l.length) : signs l = l.take (ptAt l 0) :: signs (l.drop (ptAt l 0)) := by
  match l, h with
  | [u], _ => simp [signs, ptAt, ptN, ptB_zero]
  | u :: v :: r, _ =>
    rw [signs]
    unfold ptAt ptN
    simp only [List.getD_cons_zero, List.getD_cons_succ, Nat.zero_add]
    by_cases hp : ptB u v = true
    · rw [if_pos hp, if_pos hp]; rfl
    · rw [if_neg hp, if_neg hp]; rfl

theorem ptAt_drop (l : List Nat) (i : Nat) : ptAt (l.drop i) 0 = ptAt l i := by
  simp [ptAt, List.getD_eq_getElem?_getD, List.getElem?_drop]

theorem signs_drop (l : List Nat) (i : Nat) (h : i < l.length) : signs (l.drop i) = (l.drop i).take (ptAt l i) :: signs (l.drop (i + ptAt l i)) := by
  rw [signs_head _ (by rw [List.length_drop]; omega), ptAt_drop, List.drop_drop]

theorem signs_len (l : List Nat) : (signs l).length ≤ l.length := by
  induction hn : l.length using Nat.strongRecOn generalizing l with
  | _ n ih =>
    rcases Nat.eq_zero_or_pos l.length with h0 | h0
    · rw [List.length_eq_zero_iff] at h0; subst h0; simp [signs]
    · rw [signs_head l h0, List.length_cons]
      have b := ptAt_bd l 0
      have := ih (l.drop (ptAt l 0)).length (by rw [List.length_drop]; omega) _ rfl
      rw [List.length_drop] at this
      omega

theorem signs_fits {l : List Nat} (hf : Fits l) : ∀ x, x ∈ signs l → Fits x := by
  induction hn : l.length using Nat.strongRecOn generalizing l with
  | _ n ih =>
    rcases Nat.eq_zero_or_pos l.length with h0 | h0
    · rw [List.length_eq_zero_iff] at h0; subst h0; simp [signs]
    · rw [signs_head l h0]
      have b := ptAt_bd l 0
      intro x hx
      rcases List.mem_cons.1 hx with rfl | hx
      · exact fun u hu => hf u (List.mem_of_mem_take hu)
      · exact ih (l.drop (ptAt l 0)).length (by rw [List.length_drop]; omega) (fun u hu => hf u (List.mem_of_mem_drop hu)) rfl x hx

/-- A sign has one unit or two; two just where they are the halves of one. -/
def SignOK (x : List Nat) : Prop := (∃ u, x = [u]) ∨ ∃ u v, x = [u, v] ∧ ptB u v = true
theorem signs_ok (l : List Nat) : ∀ x, x ∈ signs l → SignOK x := by
  induction hn : l.length using Nat.strongRecOn generalizing l with
  | _ n ih =>
    match l with
    | [] => simp [signs]
    | [u] => simp [signs, SignOK]
    | u :: v :: r =>
      rw [signs]
      by_cases hp : ptB u v = true
      · rw [if_pos hp]
        intro x hx
        rcases List.mem_cons.1 hx with rfl | hx
        · exact .inr ⟨u, v, rfl, hp⟩
        · exact ih r.length (by simp at hn; omega) _ rfl x hx
      · rw [if_neg hp]
        intro x hx
        rcases List.mem_cons.1 hx with rfl | hx
        · exact .inl ⟨u, rfl⟩
        · exact ih (v :: r).length (by simp at hn ⊢; omega) _ rfl x hx

/-- What Point tells of a sign's own units. -/
theorem signR_pt {x : List Nat} (h : SignOK x) : ptR (x.getD 0 0) (x.getD 1 0) = signR x ∧ ptN (x.getD 0 0) (x.getD 1 0) = x.length := by
  rcases h with ⟨u, rfl⟩ | ⟨u, v, rfl, hp⟩
  · simp [ptR, ptN, ptB_zero, signR]
  · simp [ptR, ptN, hp, signR]

/-- The sign at a place: what Point tells of it. -/
theorem pt_sign (l : List Nat) (j : Nat) (h : j < l.length) : ptR (l.getD j 0) (l.getD (j + 1) 0) = signR ((l.drop j).take (ptAt l j)) ∧ ptAt l j = ((l.drop j).take (ptAt l j)).length := by
  have hf := ptAt_fit l j h
  have htk1 : (l.drop j).take 1 = [l.getD j 0] := by
    rw [List.drop_eq_getElem_cons h, List.getD_eq_getElem?_getD, List.getElem?_eq_getElem h]; rfl
  have htk2 : j + 1 < l.length → (l.drop j).take 2 = [l.getD j 0, l.getD (j + 1) 0] := fun h' => by
    rw [List.drop_eq_getElem_cons h, List.drop_eq_getElem_cons h', List.getD_eq_getElem?_getD, List.getElem?_eq_getElem h, List.getD_eq_getElem?_getD, List.getElem?_eq_getElem h']; rfl
  refine ⟨?_, by rw [List.length_take, List.length_drop]; omega⟩
  unfold ptAt ptN at hf ⊢
  unfold ptR
  by_cases hp : ptB (l.getD j 0) (l.getD (j + 1) 0) = true
  · rw [if_pos hp] at hf
    rw [if_pos hp, if_pos hp, htk2 (by omega)]; rfl
  · rw [if_neg hp, if_neg hp, htk1]; rfl

theorem nextU_uS (l : List Nat) (hf : Fits l) (i : Nat) : nextU (uS l) i = l.getD (i + 1) 0 := by
  unfold nextU
  rw [uS_size]
  split
  · rw [unitAt_uS l hf]
  · rw [List.getD_eq_getElem?_getD, List.getElem?_eq_none (by omega)]; rfl

/-- Point at a string that is written as a list of units. -/
theorem point_uS (l : List Nat) (hf : Fits l) (i : Nat) (w : World) (hi : i < l.length) (hl : l.length ≤ 100000000) :
    Calls Tryd.prog 30 #[.string (uS l), .int .i64 (i : Int)] w fun e w' => e = .returned (.tuple #[.int .i32 (ptR (l.getD i 0) (l.getD (i + 1) 0) : Nat), .int .i64 (ptAt l i : Nat)]) ∧ ∃ n, w' = w.drewN n :=
  point_in (uS l) i _ _ w (by rw [uS_size]; omega) (by rw [uS_size]; omega) (by omega) (Lib.hid (unitAt_uS l hf i).symm) (Lib.hid (nextU_uS l hf i).symm)

end Go.Proofs.YtdeboajjhpecbaaDoor.Tx
