/- Contracts of text.Len and text.At: what they return for any string. -/
import Derived.Test.YtnkddcebhffidaaProg
import Derived.Test.YtnkddcebhffidaaTxtP
import Derived.WalkKit
import Derived.WalkSpells
import Derived.WalkLawsBesides
import Derived.BigQuiet
import Derived.Deep.QuietTactic
namespace Go.Proofs.Ytnkddcebhffidaa
open Go.RowKit

set_option maxHeartbeats 400000 in
theorem len_any (s : ByteArray) (w : World) (hs : s.size ≤ 9223372036854775807) :
    Calls Try.prog 20 #[.string s] w fun e w' => e = .returned (.int .i64 ((s.size / 2 : Nat) : Int)) ∧ w = w' := by
  go_enter Try.func20, Try.ntmps20
  go_wp2
  go_ret
  exact ⟨rfl, rfl⟩

set_option maxHeartbeats 400000 in
theorem at_out (s : ByteArray) (i : Int) (w : World) (hs : s.size ≤ 9223372036854775807) (hi : i < 0 ∨ ((s.size / 2 : Nat) : Int) ≤ i) :
    Calls Try.prog 27 #[.string s, .int .i64 i] w fun e w' => e = .returned (.int .u16 0) ∧ w = w' := by
  by_cases h0 : i < 0
  · have H0 : decide (i < 0) = true := by simpa using h0
    go_enter Try.func27, Try.ntmps27
    go_wp2
    go_ret
    exact ⟨rfl, rfl⟩
  · have h1 : ((s.size / 2 : Nat) : Int) ≤ i := by omega
    have H0 : decide (i < 0) = false := by simpa using h0
    have H1 : decide (((s.size / 2 : Nat) : Int) ≤ i) = true := by simpa using h1
    go_enter Try.func27, Try.ntmps27
    go_wp2_with (go_at_call 20; refine (len_any _ _ hs).mono ?_; rintro e w' ⟨rfl, rfl⟩)
    go_ret
    exact ⟨rfl, rfl⟩

theorem or_bytes (a b : UInt8) : bits BinOp.or IntKind.u16 (IntKind.u16.wrap (IntKind.u16.wrap (a.toNat : Int) * 256)) (IntKind.u16.wrap (b.toNat : Int)) = ((a.toNat * 256 + b.toNat : Nat) : Int) := by
  have h1 := UInt8.toNat_lt a
  have h2 := UInt8.toNat_lt b
  rw [IntWalk.u16_in (a.toNat : Int) (by omega), IntWalk.u16_in ((a.toNat : Int) * 256) (by omega), IntWalk.u16_in (b.toNat : Int) (by omega)]
  rw [bits_join .u16 16 (by decide) (fun n h0 h1 => IntWalk.u16_in n (by omega)) 8 _ _ (by omega) (by omega) (by omega) (by omega) (by omega) (by omega)]
  omega

set_option maxHeartbeats 400000 in
theorem at_in (s : ByteArray) (i : Nat) (w : World) (hs : s.size ≤ 9223372036854775807) (hi : 2 * i + 1 < s.size) :
    Calls Try.prog 27 #[.string s, .int .i64 i] w fun e w' => e = .returned (.int .u16 (unitAt s i)) ∧ ∃ n, w' = w.drewN n := by
  have H0 : decide ((i : Int) < 0) = false := by simp
  have H1 : decide (((s.size / 2 : Nat) : Int) ≤ i) = false := by simp; omega
  go_enter Try.func27, Try.ntmps27
  go_wp2_with (go_at_call 20; refine (len_any _ _ hs).mono ?_; rintro e w' ⟨rfl, rfl⟩)
  have e1 : IntKind.i64.wrap (2 * (i : Int)) = 2 * (i : Int) := IntWalk.i64_in _ (by omega)
  have e2 : 0 ≤ 2 * (i : Int) := by omega
  have e3 : (2 * (i : Int)).toNat = 2 * i := by omega
  have e4 : 2 * i < s.size := by omega
  have e5 : 2 * (i : Int) < s.size := by omega
  have f5 : 2 * (i : Int) + 1 < s.size := by omega
  have f1 : IntKind.i64.wrap (2 * (i : Int) + 1) = 2 * (i : Int) + 1 := IntWalk.i64_in _ (by omega)
  have f2 : 0 ≤ 2 * (i : Int) + 1 := by omega
  have f3 : (2 * (i : Int) + 1).toNat = 2 * i + 1 := by omega
  go_quiet (fail)
  go_wp2
  go_ret
  refine ⟨?_, _, rfl⟩
  have hor := or_bytes s[2 * i] s[2 * i + 1]
  rw [getD_byte s (2 * i) (by omega), getD_byte s (2 * i + 1) (by omega)] at hor
  show Ending.returned (Value.int IntKind.u16 (bits BinOp.or IntKind.u16 (IntKind.u16.wrap (IntKind.u16.wrap (s[2 * i].toNat : Int) * 256)) (IntKind.u16.wrap (s[2 * i + 1].toNat : Int)))) = _
  rw [getD_byte s (2 * i) (by omega), getD_byte s (2 * i + 1) (by omega), hor]
  rfl

/-- At, whatever the place. -/
def atV (s : ByteArray) (i : Int) : Int := if i < 0 ∨ ((s.size / 2 : Nat) : Int) ≤ i then 0 else unitAt s i.toNat
theorem at_any (s : ByteArray) (i : Int) (w : World) (hs : s.size ≤ 9223372036854775807) :
    Calls Try.prog 27 #[.string s, .int .i64 i] w fun e w' => e = .returned (.int .u16 (atV s i)) ∧ ∃ n, w' = w.drewN n := by
  by_cases h : i < 0 ∨ ((s.size / 2 : Nat) : Int) ≤ i
  · refine (at_out s i w hs h).mono ?_
    rintro e w' ⟨rfl, rfl⟩
    exact ⟨by rw [atV, if_pos h], 0, rfl⟩
  · obtain ⟨k, rfl⟩ := Int.eq_ofNat_of_zero_le (show 0 ≤ i by omega)
    refine (at_in s k w hs (by omega)).mono ?_
    rintro e w' ⟨rfl, hw⟩
    exact ⟨by rw [atV, if_neg h, Int.toNat_natCast], hw⟩

end Go.Proofs.Ytnkddcebhffidaa
