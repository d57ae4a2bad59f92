/- TxtG: several texts in one. -/
import Derived.Test.YtdeboajjhpecbaaGreatDoorTxt
/- Contracts of text.half and text.Point: the sign at a place of a string of units. -/
set_option linter.unusedVariables false
set_option linter.unusedSimpArgs false
namespace Go.Proofs.YtdeboajjhpecbaaGreatDoor.Tx
open Go.RowKit

/-- Is a number a half of a sign? -/
def halfB (r : Int) : Bool := decide (55296 ≤ r ∧ r ≤ 57343)
theorem half_any (r : Int) (b : Bool) (w : World) (h : Hid (b = halfB r)) :
    Calls Tryz.prog 43 #[.int .i32 r] w fun e w' => e = .returned (.bool b) ∧ w = w' := by
  have hb := h.out
  clear h
  by_cases h1 : 55296 ≤ r
  case' neg =>
    have t1 : decide (55296 ≤ r) = false := by simp; omega
    obtain rfl : b = false := by rw [hb, halfB, decide_eq_false (by omega)]
  case' pos =>
    have t1 : decide (55296 ≤ r) = true := by simp; omega
    by_cases h2 : r ≤ 57343
    case' pos =>
      have t2 : decide (r ≤ 57343) = true := by simp; omega
      obtain rfl : b = true := by rw [hb, halfB, decide_eq_true ⟨h1, h2⟩]
    case' neg =>
      have t2 : decide (r ≤ 57343) = false := by simp; omega
      obtain rfl : b = false := by rw [hb, halfB, decide_eq_false (by omega)]
  all_goals
    clear hb
    go_enter Tryz.func43, Tryz.ntmps43
    go_wp2
    go_ret
    exact ⟨rfl, rfl⟩

/-- Are two units the halves of one sign? The sign's number, and how many units it has. -/
def ptB (u v : Nat) : Bool := decide (55296 ≤ u ∧ u ≤ 56319 ∧ 56320 ≤ v ∧ v ≤ 57343)
def ptR (u v : Nat) : Nat := if ptB u v then (u - 55296) * 1024 + (v - 56320) + 65536 else u
def ptN (u v : Nat) : Nat := if ptB u v then 2 else 1
theorem ptB_iff (u v : Nat) : ptB u v = true ↔ (55296 ≤ u ∧ u ≤ 56319 ∧ 56320 ≤ v ∧ v ≤ 57343) := by simp [ptB]
theorem ptN_bd (u v : Nat) : 1 ≤ ptN u v ∧ ptN u v ≤ 2 := by unfold ptN; split <;> omega

/-- The unit behind place i; 0: there is none. -/
def nextU (s : ByteArray) (i : Nat) : Nat := if 2 * (i + 1) + 1 < s.size then unitAt s (i + 1) else 0
theorem nextU_lt (s : ByteArray) (i : Nat) : nextU s i < 65536 := by
  unfold nextU; split
  · exact unitAt_le _ _
  · omega
theorem at_next (s : ByteArray) (i : Nat) (v : Nat) (w : World) (hs : s.size ≤ 9223372036854775807) (hv : Hid (v = nextU s i)) :
    Calls Tryz.prog 64 #[.string s, .int .i64 ((i : Int) + 1)] w fun e w' => e = .returned (.int .u16 (v : Int)) ∧ ∃ n, w' = w.drewN n := by
  have h := hv.out
  subst h
  unfold nextU
  split
  · exact at_in s (i + 1) w hs (by omega)
  · refine (at_out s ((i : Int) + 1) w hs (.inr (by omega))).mono ?_
    rintro e w' ⟨rfl, h⟩
    exact ⟨rfl, by first | exact h | exact ⟨0, by rw [← h]; exact (World.drewN_zero _).symm⟩⟩

theorem at_nI (s : ByteArray) (i : Nat) (U : Int) (w : World) (hs : s.size ≤ 9223372036854775807) (hi : 2 * i + 1 < s.size) (hu : Hid ((unitAt s i : Nat) = U)) :
    Calls Tryz.prog 64 #[.string s, .int .i64 (i : Int)] w fun e w' => e = .returned (.int .u16 U) ∧ ∃ n, w' = w.drewN n := by
  rw [← hu.out]
  exact at_in s i w hs hi
theorem at_nextI (s : ByteArray) (i : Nat) (V : Int) (w : World) (hs : s.size ≤ 9223372036854775807) (hv : Hid ((nextU s i : Nat) = V)) :
    Calls Tryz.prog 64 #[.string s, .int .i64 ((i : Int) + 1)] w fun e w' => e = .returned (.int .u16 V) ∧ ∃ n, w' = w.drewN n := by
  rw [← hv.out]
  exact at_next s i _ w hs (Lib.hid rfl)

set_option maxHeartbeats 4000000 in
set_option maxRecDepth 100000 in
theorem point_in (s : ByteArray) (i u v : Nat) (w : World) (hs : s.size ≤ 9223372036854775807) (hi : 2 * i + 1 < s.size) (hi9 : i ≤ 1000000000) (hu : Hid (u = unitAt s i)) (hv : Hid (v = nextU s i)) :
    Calls Tryz.prog 41 #[.string s, .int .i64 (i : Int)] w fun e w' => e = .returned (.tuple #[.int .i32 (ptR u v : Nat), .int .i64 (ptN u v : Nat)]) ∧ ∃ n, w' = w.drewN n := by
  have hu9 : u < 65536 := by rw [hu.out]; exact unitAt_le _ _
  have hv9 : v < 65536 := by rw [hv.out]; exact nextU_lt _ _
  obtain ⟨n, hn⟩ : ∃ n, n = s.size / 2 := ⟨_, rfl⟩
  have hin : i < n := by omega
  have t0 : decide (n ≤ i) = false := by simp; omega
  have Hn := Lib.hid hn
  clear hn
  obtain ⟨U, hU⟩ : ∃ U, (u : Int) = U := ⟨_, rfl⟩
  obtain ⟨V, hV⟩ : ∃ V, (v : Int) = V := ⟨_, rfl⟩
  have u0 : 0 ≤ U := by omega
  have u1 : U ≤ 65535 := by omega
  have v0 : 0 ≤ V := by omega
  have v1 : V ≤ 65535 := by omega
  obtain ⟨bu, hbu⟩ : ∃ b, b = halfB U := ⟨_, rfl⟩
  obtain ⟨bv, hbv⟩ : ∃ b, b = halfB V := ⟨_, rfl⟩
  have Hbu := Lib.hid hbu
  have Hbv := Lib.hid hbv
  obtain ⟨p, hp⟩ : ∃ p, p = ptB u v := ⟨_, rfl⟩
  obtain ⟨R, hR⟩ : ∃ R : Int, R = (ptR u v : Nat) := ⟨_, rfl⟩
  obtain ⟨M, hM⟩ : ∃ M : Int, M = (ptN u v : Nat) := ⟨_, rfl⟩
  rw [← hR, ← hM]
  rw [ptR, ← hp] at hR
  rw [ptN, ← hp] at hM
  have q := ptB_iff u v
  rw [← hp] at q
  have HU : Hid ((unitAt s i : Nat) = U) := by rw [← hU, hu.out]; exact rfl
  have HV : Hid ((nextU s i : Nat) = V) := by rw [← hV, hv.out]; exact rfl
  by_cases h1 : 55296 ≤ U ∧ U ≤ 57343
  case' neg =>
    obtain rfl : bu = false := by rw [hbu, halfB, decide_eq_false h1]
    obtain rfl : p = false := by rw [Bool.eq_false_iff, ne_eq, q]; omega
    obtain rfl : U = R := by rw [hR, if_neg (by decide)]; exact hU.symm
    obtain rfl : M = 1 := by rw [hM, if_neg (by decide)]; rfl
  case' pos =>
    obtain rfl : bu = true := by rw [hbu, halfB, decide_eq_true h1]
    by_cases h2 : 55296 ≤ V ∧ V ≤ 57343
    case' neg =>
      obtain rfl : bv = false := by rw [hbv, halfB, decide_eq_false h2]
      obtain rfl : p = false := by rw [Bool.eq_false_iff, ne_eq, q]; omega
      obtain rfl : U = R := by rw [hR, if_neg (by decide)]; exact hU.symm
      obtain rfl : M = 1 := by rw [hM, if_neg (by decide)]; rfl
    case' pos =>
      obtain rfl : bv = true := by rw [hbv, halfB, decide_eq_true h2]
      by_cases h3 : U < 56320
      case' neg =>
        have t3 : decide (U < 56320) = false := by simp; omega
        obtain rfl : p = false := by rw [Bool.eq_false_iff, ne_eq, q]; omega
        obtain rfl : U = R := by rw [hR, if_neg (by decide)]; exact hU.symm
        obtain rfl : M = 1 := by rw [hM, if_neg (by decide)]; rfl
      case' pos =>
        have t3 : decide (U < 56320) = true := by simp; omega
        by_cases h4 : 56320 ≤ V
        case' neg =>
          have t4 : decide (56320 ≤ V) = false := by simp; omega
          obtain rfl : p = false := by rw [Bool.eq_false_iff, ne_eq, q]; omega
          obtain rfl : U = R := by rw [hR, if_neg (by decide)]; exact hU.symm
          obtain rfl : M = 1 := by rw [hM, if_neg (by decide)]; rfl
        case' pos =>
          have t4 : decide (56320 ≤ V) = true := by simp; omega
          obtain rfl : p = true := by rw [q]; omega
          obtain rfl : M = 2 := by rw [hM, if_pos rfl]; rfl
          have hR2 : R = (U - 55296) * 1024 + V - 56320 + 65536 := by rw [hR, if_pos rfl]; omega
          have HR := Lib.hid hR2
          clear hR2
  all_goals
    clear q hbu hbv hp hR hM hU hV hu hv hu9 hv9 h1
    go_enter Tryz.func41, Tryz.ntmps41
    go_wp2_with (first
      | (go_at_call 62; (with_reducible refine (len_n _ n _ hs Hn).mono ?_); rintro e w' ⟨rfl, rfl⟩)
      | (go_at_call 64; (with_reducible refine (at_nI s i U _ hs hi HU).mono ?_); rintro e w' ⟨rfl, _, rfl⟩)
      | (go_at_call 64; (with_reducible refine (at_nextI s i V _ hs HV).mono ?_); rintro e w' ⟨rfl, _, rfl⟩)
      | (go_at_call 43; (with_reducible refine (half_any U _ _ Hbu).mono ?_); rintro e w' ⟨rfl, rfl⟩)
      | (go_at_call 43; (with_reducible refine (half_any V _ _ Hbv).mono ?_); rintro e w' ⟨rfl, rfl⟩))
    go_ret2
    refine ⟨?_, _, rfl⟩
    first
      | rfl
      | (rw [HR.out]; rfl)

end Go.Proofs.YtdeboajjhpecbaaGreatDoor.Tx

/- Signs of a list of units: the plain part. -/
set_option linter.unusedVariables false
set_option linter.unusedSimpArgs false
namespace Go.Proofs.YtdeboajjhpecbaaGreatDoor.Tx
open Go.RowKit

def signs : List Nat → List (List Nat)
  | [] => []
  | [u] => [[u]]
  | u :: v :: r => if ptB u v then [u, v] :: signs r else [u] :: signs (v :: r)

/-- A sign's number. -/
def signR : List Nat → Nat
  | [u, v] => (u - 55296) * 1024 + (v - 56320) + 65536
  | u :: _ => u
  | [] => 0

theorem ptB_zero (u : Nat) : ptB u 0 = false := by
  rw [Bool.eq_false_iff, ne_eq, ptB_iff]; omega

/-- How many units the first sign has. -/
def ptAt (l : List Nat) (i : Nat) : Nat := ptN (l.getD i 0) (l.getD (i + 1) 0)
theorem ptAt_bd (l : List Nat) (i : Nat) : 1 ≤ ptAt l i ∧ ptAt l i ≤ 2 := ptN_bd _ _
theorem ptAt_fit (l : List Nat) (i : Nat) (h : i < l.length) : i + ptAt l i ≤ l.length := by
  unfold ptAt ptN
  split
  case isTrue hp =>
    rcases Nat.lt_or_ge (i + 1) l.length with h1 | h1
    · omega
    · rw [List.getD_eq_getElem?_getD (i := i + 1), List.getElem?_eq_none h1] at hp
      simp [ptB_zero] at hp
  case isFalse => omega

theorem signs_head (l : List Nat) (h : 0 < l.length) : signs l = l.take (ptAt l 0) :: signs (l.drop (ptAt l 0)) := by
  match l, h with
  | [u], _ => simp [signs, ptAt, ptN, ptB_zero]
  | u :: v :: r, _ =>
    rw [signs]
    unfold ptAt ptN
    simp only [List.getD_cons_zero, List.getD_cons_succ, Nat.zero_add]
    by_cases hp : ptB u v = true
    · rw [if_pos hp, if_pos hp]; rfl
    · rw [if_neg hp, if_neg hp]; rfl

theorem ptAt_drop (l : List Nat) (i : Nat) : ptAt (l.drop i) 0 = ptAt l i := by
  simp [ptAt, List.getD_eq_getElem?_getD, List.getElem?_drop]

theorem signs_drop (l : List Nat) (i : Nat) (h : i < l.length) : signs (l.drop i) = (l.drop i).take (ptAt l i) :: signs (l.drop (i + ptAt l i)) := by
  rw [signs_head _ (by rw [List.length_drop]; omega), ptAt_drop, List.drop_drop]

theorem signs_len (l : List Nat) : (signs l).length ≤ l.length := by
  induction hn : l.length using Nat.strongRecOn generalizing l with
  | _ n ih =>
    rcases Nat.eq_zero_or_pos l.length with h0 | h0
    · rw [List.length_eq_zero_iff] at h0; subst h0; simp [signs]
    · rw [signs_head l h0, List.length_cons]
      have b := ptAt_bd l 0
      have := ih (l.drop (ptAt l 0)).length (by rw [List.length_drop]; omega) _ rfl
      rw [List.length_drop] at this
      omega

theorem signs_fits {l : List Nat} (hf : Fits l) : ∀ x, x ∈ signs l → Fits x := by
  induction hn : l.length using Nat.strongRecOn generalizing l with
  | _ n ih =>
    rcases Nat.eq_zero_or_pos l.length with h0 | h0
    · rw [List.length_eq_zero_iff] at h0; subst h0; simp [signs]
    · rw [signs_head l h0]
      have b := ptAt_bd l 0
      intro x hx
      rcases List.mem_cons.1 hx with rfl | hx
      · exact fun u hu => hf u (List.mem_of_mem_take hu)
      · exact ih (l.drop (ptAt l 0)).length (by rw [List.length_drop]; omega) (fun u hu => hf u (List.mem_of_mem_drop hu)) rfl x hx

/-- A sign has one unit or two; two just where they are the halves of one. -/
def SignOK (x : List Nat) : Prop := (∃ u, x = [u]) ∨ ∃ u v, x = [u, v] ∧ ptB u v = true
theorem signs_ok (l : List Nat) : ∀ x, x ∈ signs l → SignOK x := by
  induction hn : l.length using Nat.strongRecOn generalizing l with
  | _ n ih =>
    match l with
    | [] => simp [signs]
    | [u] => simp [signs, SignOK]
    | u :: v :: r =>
      rw [signs]
      by_cases hp : ptB u v = true
      · rw [if_pos hp]
        intro x hx
        rcases List.mem_cons.1 hx with rfl | hx
        · exact .inr ⟨u, v, rfl, hp⟩
        · exact ih r.length (by simp at hn; omega) _ rfl x hx
      · rw [if_neg hp]
        intro x hx
        rcases List.mem_cons.1 hx with rfl | hx
        · exact .inl ⟨u, rfl⟩
        · exact ih (v :: r).length (by simp at hn ⊢; omega) _ rfl x hx

/-- What Point tells of a sign's own units. -/
theorem signR_pt {x : List Nat} (h : SignOK x) : ptR (x.getD 0 0) (x.getD 1 0) = signR x ∧ ptN (x.getD 0 0) (x.getD 1 0) = x.length := by
  rcases h with ⟨u, rfl⟩ | ⟨u, v, rfl, hp⟩
  · simp [ptR, ptN, ptB_zero, signR]
  · simp [ptR, ptN, hp, signR]

/-- The sign at a place: what Point tells of it. -/
theorem pt_sign (l : List Nat) (j : Nat) (h : j < l.length) : ptR (l.getD j 0) (l.getD (j + 1) 0) = signR ((l.drop j).take (ptAt l j)) ∧ ptAt l j = ((l.drop j).take (ptAt l j)).length := by
  have hf := ptAt_fit l j h
  have htk1 : (l.drop j).take 1 = [l.getD j 0] := by
    rw [List.drop_eq_getElem_cons h, List.getD_eq_getElem?_getD, List.getElem?_eq_getElem h]; rfl
  have htk2 : j + 1 < l.length → (l.drop j).take 2 = [l.getD j 0, l.getD (j + 1) 0] := fun h' => by
    rw [List.drop_eq_getElem_cons h, List.drop_eq_getElem_cons h', List.getD_eq_getElem?_getD, List.getElem?_eq_getElem h, List.getD_eq_getElem?_getD, List.getElem?_eq_getElem h']; rfl
  refine ⟨?_, by rw [List.length_take, List.length_drop]; omega⟩
  unfold ptAt ptN at hf ⊢
  unfold ptR
  by_cases hp : ptB (l.getD j 0) (l.getD (j + 1) 0) = true
  · rw [if_pos hp] at hf
    rw [if_pos hp, if_pos hp, htk2 (by omega)]; rfl
  · rw [if_neg hp, if_neg hp, htk1]; rfl

theorem nextU_uS (l : List Nat) (hf : Fits l) (i : Nat) : nextU (uS l) i = l.getD (i + 1) 0 := by
  unfold nextU
  rw [uS_size]
  split
  · rw [unitAt_uS l hf]
  · rw [List.getD_eq_getElem?_getD, List.getElem?_eq_none (by omega)]; rfl

/-- Point at a string that is written as a list of units. -/
theorem point_uS (l : List Nat) (hf : Fits l) (i : Nat) (w : World) (hi : i < l.length) (hl : l.length ≤ 100000000) :
    Calls Tryz.prog 41 #[.string (uS l), .int .i64 (i : Int)] w fun e w' => e = .returned (.tuple #[.int .i32 (ptR (l.getD i 0) (l.getD (i + 1) 0) : Nat), .int .i64 (ptAt l i : Nat)]) ∧ ∃ n, w' = w.drewN n :=
  point_in (uS l) i _ _ w (by rw [uS_size]; omega) (by rw [uS_size]; omega) (by omega) (Lib.hid (unitAt_uS l hf i).symm) (Lib.hid (nextU_uS l hf i).symm)

end Go.Proofs.YtdeboajjhpecbaaGreatDoor.Tx
