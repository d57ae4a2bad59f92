/- Contracts of package num's helpers: what they return, and the one block that each lays. -/
import Derived.Test.YtdacpebijljckaaDoorNumA
set_option linter.unusedVariables false
namespace Go.Proofs.YtdacpebijljckaaDoor
open Go.RowKit

def belowB (k n : Int) : Bool := k == 6 || decide (n < 0)
def noneB (k n : Int) : Bool := k == 6 || (k == 3 && n == 0)
def rankR (k n : Int) : Int := if k == 5 then n * 9007199254740992 else n
abbrev VC (k n : Int) : Obj := .cells #[.int .i64 k, .int .i64 n, .string ⟨#[]⟩] 25

set_option maxHeartbeats 1000000 in
theorem nan_any  (w : World) : Calls Tryd.prog 30 #[] w fun e w' => e = .returned (VN 4 0) ∧ w' = w.alloc (VC 4 0) := by
  go_enter Tryd.func30, Tryd.ntmps30
  go_wp2
  exact bodyPost_ret (v := VN 4 0) (by simp [results, Tryd.results30, go_sem]) rfl ⟨by simp, rfl⟩

set_option maxHeartbeats 1000000 in
theorem inf_any (b : Bool) (w : World) : Calls Tryd.prog 31 #[.bool b] w fun e w' => e = .returned (VN 5 (if b = true then -1 else 1)) ∧ w' = w.alloc (VC 5 (if b = true then -1 else 1)) := by
  cases q1 : (b) with
  | true =>
    go_enter Tryd.func31, Tryd.ntmps31
    go_wp2
    exact bodyPost_ret (v := VN 5 (-1)) (by simp [results, Tryd.results31, go_sem]) rfl ⟨by simp [q1], rfl⟩
  | false =>
    go_enter Tryd.func31, Tryd.ntmps31
    go_wp2
    exact bodyPost_ret (v := VN 5 1) (by simp [results, Tryd.results31, go_sem]) rfl ⟨by simp [q1], rfl⟩

set_option maxHeartbeats 1000000 in
theorem zero_any (b : Bool) (w : World) : Calls Tryd.prog 32 #[.bool b] w fun e w' => e = .returned (VN (if b = true then 6 else 3) 0) ∧ w' = w.alloc (VC (if b = true then 6 else 3) 0) := by
  cases q2 : (b) with
  | true =>
    go_enter Tryd.func32, Tryd.ntmps32
    go_wp2
    exact bodyPost_ret (v := VN 6 0) (by simp [results, Tryd.results32, go_sem]) rfl ⟨by simp [q2], rfl⟩
  | false =>
    go_enter Tryd.func32, Tryd.ntmps32
    go_wp2
    exact bodyPost_ret (v := VN 3 0) (by simp [results, Tryd.results32, go_sem]) rfl ⟨by simp [q2], rfl⟩

set_option maxHeartbeats 1000000 in
theorem below_any (k n : Int) (w : World) : Calls Tryd.prog 28 #[VN k n] w fun e w' => e = .returned (.bool (belowB k n)) ∧ w' = w.alloc (VC k n) := by
  cases q3 : (k == 6) with
  | true =>
    go_enter Tryd.func28, Tryd.ntmps28
    go_wp2
    go_ret
    exact ⟨by simp [belowB, q3], rfl⟩
  | false =>
    cases q4 : (decide (n < 0)) with
    | true =>
      go_enter Tryd.func28, Tryd.ntmps28
      go_wp2
      go_ret
      exact ⟨by simp [belowB, q3, q4], rfl⟩
    | false =>
      go_enter Tryd.func28, Tryd.ntmps28
      go_wp2
      go_ret
      exact ⟨by simp [belowB, q3, q4], rfl⟩

set_option maxHeartbeats 1000000 in
theorem none_any (k n : Int) (w : World) : Calls Tryd.prog 29 #[VN k n] w fun e w' => e = .returned (.bool (noneB k n)) ∧ w' = w.alloc (VC k n) := by
  cases q5 : (k == 6) with
  | true =>
    go_enter Tryd.func29, Tryd.ntmps29
    go_wp2
    go_ret
    exact ⟨by simp [noneB, q5], rfl⟩
  | false =>
    cases q6 : (k == 3) with
    | true =>
      cases q7 : (n == 0) with
      | true =>
        go_enter Tryd.func29, Tryd.ntmps29
        go_wp2
        go_ret
        exact ⟨by simp [noneB, q5, q6, q7], rfl⟩
      | false =>
        go_enter Tryd.func29, Tryd.ntmps29
        go_wp2
        go_ret
        exact ⟨by simp [noneB, q5, q6, q7], rfl⟩
    | false =>
      go_enter Tryd.func29, Tryd.ntmps29
      go_wp2
      go_ret
      exact ⟨by simp [noneB, q5, q6], rfl⟩

end Go.Proofs.YtdacpebijljckaaDoor
