/- Contracts of package value's small functions: Truth, Object, Symbol, Ref, IsObj, Nullish, Key, Same, True; and when values are the same. -/
import Derived.Test.YtdeboajjhpecbaaDoorNum3
import Derived.Test.YtdeboajjhpecbaaDoorWld
import Derived.Laws.StructEq
set_option linter.unusedVariables false
set_option linter.unusedSimpArgs false
namespace Go.Proofs.YtdeboajjhpecbaaDoor.Vx
open Go.RowKit

/-- A value: kind, number, units. -/
abbrev VS (k n : Int) (s : ByteArray) : Value := .agg #[.int .i64 k, .int .i64 n, .string s]
abbrev SC (k n : Int) (s : ByteArray) : Obj := .cells #[.int .i64 k, .int .i64 n, .string s] 26
theorem ba_ext {a b : ByteArray} (h : a.toList = b.toList) : a = b := by
  have : a.data.toList = b.data.toList := by rw [← ByteArray.toList_eq, ← ByteArray.toList_eq, h]
  exact ByteArray.ext (Array.toList_inj.1 this)
def tN (b : Bool) : Int := if b then 1 else 0

set_option maxHeartbeats 400000 in
theorem key_any (k n : Int) (s : ByteArray) (w : World) (h : (k == 6) = false) : Calls Tryd.prog 48 #[VS k n s] w (Ret (VS k n s) w) := by
  go_enter Tryd.func48, Tryd.ntmps48
  go_wp2
  exact bodyPost_ret (v := VS k n s) (by simp [results, Tryd.results48, go_sem]) rfl ⟨rfl, ((Below.refl _ _).alloc (Nat.le_refl _) _).alloc (by simp) _⟩
set_option maxHeartbeats 400000 in
theorem key_nz (n : Int) (s : ByteArray) (w : World) : Calls Tryd.prog 48 #[VS 6 n s] w (Ret (VS 3 0 ⟨#[]⟩) w) := by
  go_enter Tryd.func48, Tryd.ntmps48
  go_wp2
  exact bodyPost_ret (v := VS 3 0 ⟨#[]⟩) (by simp [results, Tryd.results48, go_sem]) rfl ⟨rfl, ((Below.refl _ _).alloc (Nat.le_refl _) _).alloc (by simp) _⟩
set_option maxHeartbeats 400000 in
theorem is_no (k n : Int) (s : ByteArray) (w : World) (h : k < 3 ∨ 6 < k) : Calls Tryd.prog 60 #[VS k n s] w (Ret (.bool false) w) := by
  by_cases h3 : k < 3
  · have t1 : decide (3 ≤ k) = false := by simp; omega
    clear h
    go_enter Tryd.func60, Tryd.ntmps60
    go_wp2
    go_ret
    exact ⟨rfl, (Below.refl _ _).alloc (Nat.le_refl _) _⟩
  · have t1 : decide (3 ≤ k) = true := by simp; omega
    have t2 : decide (k ≤ 6) = false := by simp; omega
    clear h
    go_enter Tryd.func60, Tryd.ntmps60
    go_wp2
    go_ret
    exact ⟨rfl, (Below.refl _ _).alloc (Nat.le_refl _) _⟩

theorem size_empty (s : ByteArray) : decide (0 < s.size) = !s.toList.isEmpty := by
  rw [ByteArray.toList_eq]
  have : s.size = s.data.toList.length := rfl
  rw [this]
  cases s.data.toList <;> simp
/-- Are two values the same? -/
def veq (k n : Int) (s : ByteArray) (k' n' : Int) (s' : ByteArray) : Bool := k == k' && (n == n' && s.toList == s'.toList)
theorem veq_iff (k n : Int) (s : ByteArray) (k' n' : Int) (s' : ByteArray) : veq k n s k' n' s' = true ↔ k = k' ∧ n = n' ∧ s = s' := by
  unfold veq
  simp only [Bool.and_eq_true, beq_iff_eq]
  exact ⟨fun h => ⟨h.1, h.2.1, ba_ext h.2.2⟩, fun h => ⟨h.1, h.2.1, by rw [h.2.2]⟩⟩

set_option maxHeartbeats 400000 in
theorem object_any (r : Int) (w : World) : Calls Tryd.prog 16 #[.int .i64 r] w (Ret (VS 9 r ⟨#[]⟩) w) := by
  go_enter Tryd.func16, Tryd.ntmps16
  go_wp2
  exact bodyPost_ret (v := VS 9 r ⟨#[]⟩) (by simp [results, Tryd.results16, go_sem]) rfl ⟨rfl, (Below.refl _ _).alloc (Nat.le_refl _) _⟩
/-- Does a value count as true? -/
def trueB (k n : Int) (s : ByteArray) : Bool := if k == 2 || k == 3 then n != 0 else if k == 7 then !s.toList.isEmpty else !(k == 0 || k == 1 || k == 4 || k == 6 || k == 10)
/-- A value as a number, and what the conversion comes to. -/
def numF (k n : Int) : Int × Int × Int := if k == 3 || k == 4 || k == 5 || k == 6 then (k, n, 0) else if k == 0 then (4, 0, 0) else if k == 1 || k == 2 then (3, n, 0) else if k == 8 then (0, 0, 1) else (0, 0, 2)
end Go.Proofs.YtdeboajjhpecbaaDoor.Vx
