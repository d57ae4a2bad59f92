/- Contracts of text.half and text.Point: the sign at a place of a string of units. -/
import Derived.Test.YtdeboajjhpecbaaDoorTxt
set_option linter.unusedVariables false
set_option linter.unusedSimpArgs false
namespace Go.Proofs.YtdeboajjhpecbaaDoor.Tx
open Go.RowKit

/-- Is a number a half of a sign? -/
def halfB (r : Int) : Bool := decide (55296 ≤ r ∧ r ≤ 57343)
theorem half_any (r : Int) (b : Bool) (w : World) (h : Hid (b = halfB r)) :
    Calls Tryd.prog 32 #[.int .i32 r] w fun e w' => e = .returned (.bool b) ∧ w = w' := by
  have hb := h.out
  clear h
  by_cases h1 : 55296 ≤ r
  case' neg =>
    have t1 : decide (55296 ≤ r) = false := by simp; omega
    obtain rfl : b = false := by rw [hb, halfB, decide_eq_false (by omega)]
  case' pos =>
    have t1 : decide (55296 ≤ r) = true := by simp; omega
    by_cases h2 : r ≤ 57343
    case' pos =>
      have t2 : decide (r ≤ 57343) = true := by simp; omega
      obtain rfl : b = true := by rw [hb, halfB, decide_eq_true ⟨h1, h2⟩]
    case' neg =>
      have t2 : decide (r ≤ 57343) = false := by simp; omega
      obtain rfl : b = false := by rw [hb, halfB, decide_eq_false (by omega)]
  all_goals
    clear hb
    go_enter Tryd.func32, Tryd.ntmps32
    go_wp2
    go_ret
    exact ⟨rfl, rfl⟩

/-- Are two units the halves of one sign? The sign's number, and how many units it has. -/
def ptB (u v : Nat) : Bool := decide (55296 ≤ u ∧ u ≤ 56319 ∧ 56320 ≤ v ∧ v ≤ 57343)
def ptR (u v : Nat) : Nat := if ptB u v then (u - 55296) * 1024 + (v - 56320) + 65536 else u
def ptN (u v : Nat) : Nat := if ptB u v then 2 else 1
theorem ptB_iff (u v : Nat) : ptB u v = true ↔ (55296 ≤ u ∧ u ≤ 56319 ∧ 56320 ≤ v ∧ v ≤ 57343) := by simp [ptB]
theorem ptN_bd (u v : Nat) : 1 ≤ ptN u v ∧ ptN u v ≤ 2 := by unfold ptN; split <;> omega

/-- The unit behind place i; 0: there is none. -/
def nextU (s : ByteArray) (i : Nat) : Nat := if 2 * (i + 1) + 1 < s.size then unitAt s (i + 1) else 0
theorem nextU_lt (s : ByteArray) (i : Nat) : nextU s i < 65536 := by
  unfold nextU; split
  · exact unitAt_le _ _
  · omega
theorem at_next (s : ByteArray) (i : Nat) (v : Nat) (w : World) (hs : s.size ≤ 9223372036854775807) (hv : Hid (v = nextU s i)) :
    Calls Tryd.prog 52 #[.string s, .int .i64 ((i : Int) + 1)] w fun e w' => e = .returned (.int .u16 (v : Int)) ∧ ∃ n, w' = w.drewN n := by
  have h := hv.out
  subst h
  unfold nextU
  split
  · exact at_in s (i + 1) w hs (by omega)
  · refine (at_out s ((i : Int) + 1) w hs (.inr (by omega))).mono ?_
    rintro e w' ⟨rfl, h⟩
    exact ⟨rfl, by first | exact h | exact ⟨0, by rw [← h]; exact (World.drewN_zero _).symm⟩⟩

theorem at_nI (s : ByteArray) (i : Nat) (U : Int) (w : World) (hs : s.size ≤ 9223372036854775807) (hi : 2 * i + 1 < s.size) (hu : Hid ((unitAt s i : Nat) = U)) :
    Calls Tryd.prog 52 #[.string s, .int .i64 (i : Int)] w fun e w' => e = .returned (.int .u16 U) ∧ ∃ n, w' = w.drewN n := by
  rw [← hu.out]
  exact at_in s i w hs hi
theorem at_nextI (s : ByteArray) (i : Nat) (V : Int) (w : World) (hs : s.size ≤ 9223372036854775807) (hv : Hid ((nextU s i : Nat) = V)) :
    Calls Tryd.prog 52 #[.string s, .int .i64 ((i : Int) + 1)] w fun e w' => e = .returned (.int .u16 V) ∧ ∃ n, w' = w.drewN n := by
  rw [← hv.out]
  exact at_next s i _ w hs (Lib.hid rfl)

set_option maxHeartbeats 4000000 in
set_option maxRecDepth 100000 in
theorem point_in (s : ByteArray) (i u v : Nat) (w : World) (hs : s.size ≤ 9223372036854775807) (hi : 2 * i + 1 < s.size) (hi9 : i ≤ 1000000000) (hu : Hid (u = unitAt s i)) (hv : Hid (v = nextU s i)) :
    Calls Tryd.prog 30 #[.string s, .int .i64 (i : Int)] w fun e w' => e = .returned (.tuple #[.int .i32 (ptR u v : Nat), .int .i64 (ptN u v : Nat)]) ∧ ∃ n, w' = w.drewN n := by
  have hu9 : u < 65536 := by rw [hu.out]; exact unitAt_le _ _
  have hv9 : v < 65536 := by rw [hv.out]; exact nextU_lt _ _
  obtain ⟨n, hn⟩ : ∃ n, n = s.size / 2 := ⟨_, rfl⟩
  have hin : i < n := by omega
  have t0 : decide (n ≤ i) = false := by simp; omega
  have Hn := Lib.hid hn
  clear hn
  obtain ⟨U, hU⟩ : ∃ U, (u : Int) = U := ⟨_, rfl⟩
  obtain ⟨V, hV⟩ : ∃ V, (v : Int) = V := ⟨_, rfl⟩
  have u0 : 0 ≤ U := by omega
  have u1 : U ≤ 65535 := by omega
  have v0 : 0 ≤ V := by omega
  have v1 : V ≤ 65535 := by omega
  obtain ⟨bu, hbu⟩ : ∃ b, b = halfB U := ⟨_, rfl⟩
  obtain ⟨bv, hbv⟩ : ∃ b, b = halfB V := ⟨_, rfl⟩
  have Hbu := Lib.hid hbu
  have Hbv := Lib.hid hbv
  obtain ⟨p, hp⟩ : ∃ p, p = ptB u v := ⟨_, rfl⟩
  obtain ⟨R, hR⟩ : ∃ R : Int, R = (ptR u v : Nat) := ⟨_, rfl⟩
  obtain ⟨M, hM⟩ : ∃ M : Int, M = (ptN u v : Nat) := ⟨_, rfl⟩
  rw [← hR, ← hM]
  rw [ptR, ← hp] at hR
  rw [ptN, ← hp] at hM
  have q := ptB_iff u v
  rw [← hp] at q
  have HU : Hid ((unitAt s i : Nat) = U) := by rw [← hU, hu.out]; exact rfl
  have HV : Hid ((nextU s i : Nat) = V) := by rw [← hV, hv.out]; exact rfl
  by_cases h1 : 55296 ≤ U ∧ U ≤ 57343
  case' neg =>
    obtain rfl : bu = false := by rw [hbu, halfB, decide_eq_false h1]
    obtain rfl : p = false := by rw [Bool.eq_false_iff, ne_eq, q]; omega
    obtain rfl : U = R := by rw [hR, if_neg (by decide)]; exact hU.symm
    obtain rfl : M = 1 := by rw [hM, if_neg (by decide)]; rfl
  case' pos =>
    obtain rfl : bu = true := by rw [hbu, halfB, decide_eq_true h1]
    by_cases h2 : 55296 ≤ V ∧ V ≤ 57343
    case' neg =>
      obtain rfl : bv = false := by rw [hbv, halfB, decide_eq_false h2]
      obtain rfl : p = false := by rw [Bool.eq_false_iff, ne_eq, q]; omega
      obtain rfl : U = R := by rw [hR, if_neg (by decide)]; exact hU.symm
      obtain rfl : M = 1 := by rw [hM, if_neg (by decide)]; rfl
    case' pos =>
      obtain rfl : bv = true := by rw [hbv, halfB, decide_eq_true h2]
      by_cases h3 : U < 56320
      case' neg =>
        have t3 : decide (U < 56320) = false := by simp; omega
        obtain rfl : p = false := by rw [Bool.eq_false_iff, ne_eq, q]; omega
        obtain rfl : U = R := by rw [hR, if_neg (by decide)]; exact hU.symm
        obtain rfl : M = 1 := by rw [hM, if_neg (by decide)]; rfl
      case' pos =>
        have t3 : decide (U < 56320) = true := by simp; omega
        by_cases h4 : 56320 ≤ V
        case' neg =>
          have t4 : decide (56320 ≤ V) = false := by simp; omega
          obtain rfl : p = false := by rw [Bool.eq_false_iff, ne_eq, q]; omega
          obtain rfl : U = R := by rw [hR, if_neg (by decide)]; exact hU.symm
          obtain rfl : M = 1 := by rw [hM, if_neg (by decide)]; rfl
        case' pos =>
          have t4 : decide (56320 ≤ V) = true := by simp; omega
          obtain rfl : p = true := by rw [q]; omega
          obtain rfl : M = 2 := by rw [hM, if_pos rfl]; rfl
          have hR2 : R = (U - 55296) * 1024 + V - 56320 + 65536 := by rw [hR, if_pos rfl]; omega
          have HR := Lib.hid hR2
          clear hR2
  all_goals
    clear q hbu hbv hp hR hM hU hV hu hv hu9 hv9 h1
    go_enter Tryd.func30, Tryd.ntmps30
    go_wp2_with (first
      | (go_at_call 50; (with_reducible refine (len_n _ n _ hs Hn).mono ?_); rintro e w' ⟨rfl, rfl⟩)
      | (go_at_call 52; (with_reducible refine (at_nI s i U _ hs hi HU).mono ?_); rintro e w' ⟨rfl, _, rfl⟩)
      | (go_at_call 52; (with_reducible refine (at_nextI s i V _ hs HV).mono ?_); rintro e w' ⟨rfl, _, rfl⟩)
      | (go_at_call 32; (with_reducible refine (half_any U _ _ Hbu).mono ?_); rintro e w' ⟨rfl, rfl⟩)
      | (go_at_call 32; (with_reducible refine (half_any V _ _ Hbv).mono ?_); rintro e w' ⟨rfl, rfl⟩))
    go_ret2
    refine ⟨?_, _, rfl⟩
    first
      | rfl
      | (rw [HR.out]; rfl)

end Go.Proofs.YtdeboajjhpecbaaDoor.Tx
