/- Contracts of the reference's product of whole numbers. -/
import Derived.Test.YtdacpebijljckaaDoorNumW
import Derived.BigRegion
import Derived.ChangeAlike
set_option linter.unusedVariables false
set_option linter.unusedSimpArgs false
namespace Go.Proofs.YtdacpebijljckaaDoor
open Go.RowKit

set_option maxHeartbeats 4000000 in
theorem prod_0w_false_false (sb : Int) (w : World) (h3 : 0 ≤ sb) (h4 : sb ≤ 9007199254740991) : Calls Tryd.prog 39 #[RV 119 false 0, RV 119 false sb] w (Ret (RT 119 false 0 true) w) := by
  go_enter Tryd.func39, Tryd.ntmps39
  go_wp2_with fail
  go_region
  go_wp2
  exact bodyPost_ret (v := RT 119 false 0 true) (by simp [results, Tryd.results39, go_sem]) rfl ⟨rfl, by first | exact (((((Below.refl _ _).alloc (Nat.le_refl _) _).alloc (by simp) _).alloc (by simp; omega) _).alloc (by simp; omega) _).drew | exact ((((Below.refl _ _).drew.alloc (Nat.le_refl _) _).alloc (by simp) _).alloc (by simp; omega) _).alloc (by simp; omega) _ | exact ((((Below.refl _ _).alloc (Nat.le_refl _) _).alloc (by simp) _).alloc (by simp; omega) _).alloc (by simp; omega) _⟩

set_option maxHeartbeats 4000000 in
theorem prod_0w_false_true (sb : Int) (w : World) (h3 : 0 ≤ sb) (h4 : sb ≤ 9007199254740991) : Calls Tryd.prog 39 #[RV 119 false 0, RV 119 true sb] w (Ret (RT 119 true 0 true) w) := by
  go_enter Tryd.func39, Tryd.ntmps39
  go_wp2_with fail
  go_region
  go_wp2
  exact bodyPost_ret (v := RT 119 true 0 true) (by simp [results, Tryd.results39, go_sem]) rfl ⟨rfl, by first | exact (((((Below.refl _ _).alloc (Nat.le_refl _) _).alloc (by simp) _).alloc (by simp; omega) _).alloc (by simp; omega) _).drew | exact ((((Below.refl _ _).drew.alloc (Nat.le_refl _) _).alloc (by simp) _).alloc (by simp; omega) _).alloc (by simp; omega) _ | exact ((((Below.refl _ _).alloc (Nat.le_refl _) _).alloc (by simp) _).alloc (by simp; omega) _).alloc (by simp; omega) _⟩

set_option maxHeartbeats 4000000 in
theorem prod_0w_true_false (sb : Int) (w : World) (h3 : 0 ≤ sb) (h4 : sb ≤ 9007199254740991) : Calls Tryd.prog 39 #[RV 119 true 0, RV 119 false sb] w (Ret (RT 119 true 0 true) w) := by
  go_enter Tryd.func39, Tryd.ntmps39
  go_wp2_with fail
  go_region
  go_wp2
  exact bodyPost_ret (v := RT 119 true 0 true) (by simp [results, Tryd.results39, go_sem]) rfl ⟨rfl, by first | exact (((((Below.refl _ _).alloc (Nat.le_refl _) _).alloc (by simp) _).alloc (by simp; omega) _).alloc (by simp; omega) _).drew | exact ((((Below.refl _ _).drew.alloc (Nat.le_refl _) _).alloc (by simp) _).alloc (by simp; omega) _).alloc (by simp; omega) _ | exact ((((Below.refl _ _).alloc (Nat.le_refl _) _).alloc (by simp) _).alloc (by simp; omega) _).alloc (by simp; omega) _⟩

set_option maxHeartbeats 4000000 in
theorem prod_0w_true_true (sb : Int) (w : World) (h3 : 0 ≤ sb) (h4 : sb ≤ 9007199254740991) : Calls Tryd.prog 39 #[RV 119 true 0, RV 119 true sb] w (Ret (RT 119 false 0 true) w) := by
  go_enter Tryd.func39, Tryd.ntmps39
  go_wp2_with fail
  go_region
  go_wp2
  exact bodyPost_ret (v := RT 119 false 0 true) (by simp [results, Tryd.results39, go_sem]) rfl ⟨rfl, by first | exact (((((Below.refl _ _).alloc (Nat.le_refl _) _).alloc (by simp) _).alloc (by simp; omega) _).alloc (by simp; omega) _).drew | exact ((((Below.refl _ _).drew.alloc (Nat.le_refl _) _).alloc (by simp) _).alloc (by simp; omega) _).alloc (by simp; omega) _ | exact ((((Below.refl _ _).alloc (Nat.le_refl _) _).alloc (by simp) _).alloc (by simp; omega) _).alloc (by simp; omega) _⟩

set_option maxHeartbeats 4000000 in
theorem prod_no_false_false (sa sb : Int) (w : World) (h1 : 1 ≤ sa) (h2 : sa ≤ 9007199254740991) (h3 : 0 ≤ sb) (h4 : sb ≤ 9007199254740991) (h : 9007199254740991 / sa < sb) : Calls Tryd.prog 39 #[RV 119 false sa, RV 119 false sb] w (Ret (RT 0 false 0 false) w) := by
  have t1 : (sa != 0) = true := by simp; omega
  have t2 : ¬ sa = 0 := by omega
  have t3 : (sa == 0) = false := by simp; omega
  have t4 : decide (9007199254740991 / sa < sb) = true := decide_eq_true h
  go_enter Tryd.func39, Tryd.ntmps39
  go_wp2_with fail
  go_region
  go_wp2
  exact bodyPost_ret (v := RT 0 false 0 false) (by simp [results, Tryd.results39, go_sem]) rfl ⟨rfl, by first | exact (((((Below.refl _ _).alloc (Nat.le_refl _) _).alloc (by simp) _).alloc (by simp; omega) _).alloc (by simp; omega) _).drew | exact ((((Below.refl _ _).drew.alloc (Nat.le_refl _) _).alloc (by simp) _).alloc (by simp; omega) _).alloc (by simp; omega) _ | exact ((((Below.refl _ _).alloc (Nat.le_refl _) _).alloc (by simp) _).alloc (by simp; omega) _).alloc (by simp; omega) _⟩

set_option maxHeartbeats 4000000 in
theorem prod_no_false_true (sa sb : Int) (w : World) (h1 : 1 ≤ sa) (h2 : sa ≤ 9007199254740991) (h3 : 0 ≤ sb) (h4 : sb ≤ 9007199254740991) (h : 9007199254740991 / sa < sb) : Calls Tryd.prog 39 #[RV 119 false sa, RV 119 true sb] w (Ret (RT 0 false 0 false) w) := by
  have t1 : (sa != 0) = true := by simp; omega
  have t2 : ¬ sa = 0 := by omega
  have t3 : (sa == 0) = false := by simp; omega
  have t4 : decide (9007199254740991 / sa < sb) = true := decide_eq_true h
  go_enter Tryd.func39, Tryd.ntmps39
  go_wp2_with fail
  go_region
  go_wp2
  exact bodyPost_ret (v := RT 0 false 0 false) (by simp [results, Tryd.results39, go_sem]) rfl ⟨rfl, by first | exact (((((Below.refl _ _).alloc (Nat.le_refl _) _).alloc (by simp) _).alloc (by simp; omega) _).alloc (by simp; omega) _).drew | exact ((((Below.refl _ _).drew.alloc (Nat.le_refl _) _).alloc (by simp) _).alloc (by simp; omega) _).alloc (by simp; omega) _ | exact ((((Below.refl _ _).alloc (Nat.le_refl _) _).alloc (by simp) _).alloc (by simp; omega) _).alloc (by simp; omega) _⟩

set_option maxHeartbeats 4000000 in
theorem prod_no_true_false (sa sb : Int) (w : World) (h1 : 1 ≤ sa) (h2 : sa ≤ 9007199254740991) (h3 : 0 ≤ sb) (h4 : sb ≤ 9007199254740991) (h : 9007199254740991 / sa < sb) : Calls Tryd.prog 39 #[RV 119 true sa, RV 119 false sb] w (Ret (RT 0 false 0 false) w) := by
  have t1 : (sa != 0) = true := by simp; omega
  have t2 : ¬ sa = 0 := by omega
  have t3 : (sa == 0) = false := by simp; omega
  have t4 : decide (9007199254740991 / sa < sb) = true := decide_eq_true h
  go_enter Tryd.func39, Tryd.ntmps39
  go_wp2_with fail
  go_region
  go_wp2
  exact bodyPost_ret (v := RT 0 false 0 false) (by simp [results, Tryd.results39, go_sem]) rfl ⟨rfl, by first | exact (((((Below.refl _ _).alloc (Nat.le_refl _) _).alloc (by simp) _).alloc (by simp; omega) _).alloc (by simp; omega) _).drew | exact ((((Below.refl _ _).drew.alloc (Nat.le_refl _) _).alloc (by simp) _).alloc (by simp; omega) _).alloc (by simp; omega) _ | exact ((((Below.refl _ _).alloc (Nat.le_refl _) _).alloc (by simp) _).alloc (by simp; omega) _).alloc (by simp; omega) _⟩

set_option maxHeartbeats 4000000 in
theorem prod_no_true_true (sa sb : Int) (w : World) (h1 : 1 ≤ sa) (h2 : sa ≤ 9007199254740991) (h3 : 0 ≤ sb) (h4 : sb ≤ 9007199254740991) (h : 9007199254740991 / sa < sb) : Calls Tryd.prog 39 #[RV 119 true sa, RV 119 true sb] w (Ret (RT 0 false 0 false) w) := by
  have t1 : (sa != 0) = true := by simp; omega
  have t2 : ¬ sa = 0 := by omega
  have t3 : (sa == 0) = false := by simp; omega
  have t4 : decide (9007199254740991 / sa < sb) = true := decide_eq_true h
  go_enter Tryd.func39, Tryd.ntmps39
  go_wp2_with fail
  go_region
  go_wp2
  exact bodyPost_ret (v := RT 0 false 0 false) (by simp [results, Tryd.results39, go_sem]) rfl ⟨rfl, by first | exact (((((Below.refl _ _).alloc (Nat.le_refl _) _).alloc (by simp) _).alloc (by simp; omega) _).alloc (by simp; omega) _).drew | exact ((((Below.refl _ _).drew.alloc (Nat.le_refl _) _).alloc (by simp) _).alloc (by simp; omega) _).alloc (by simp; omega) _ | exact ((((Below.refl _ _).alloc (Nat.le_refl _) _).alloc (by simp) _).alloc (by simp; omega) _).alloc (by simp; omega) _⟩

set_option maxHeartbeats 4000000 in
theorem prod_yes_false_false (sa sb : Int) (w : World) (h1 : 1 ≤ sa) (h2 : sa ≤ 9007199254740991) (h3 : 0 ≤ sb) (h4 : sb ≤ 9007199254740991) (h : ¬ 9007199254740991 / sa < sb) (p1 : 0 ≤ sa * sb) (p2 : sa * sb ≤ 9007199254740991) : Calls Tryd.prog 39 #[RV 119 false sa, RV 119 false sb] w (Ret (RT 119 false (sa * sb) true) w) := by
  have t1 : (sa != 0) = true := by simp; omega
  have t2 : ¬ sa = 0 := by omega
  have t3 : (sa == 0) = false := by simp; omega
  have t4 : decide (9007199254740991 / sa < sb) = false := decide_eq_false h
  go_enter Tryd.func39, Tryd.ntmps39
  go_wp2_with fail
  go_region
  go_wp2
  exact bodyPost_ret (v := RT 119 false (sa * sb) true) (by simp [results, Tryd.results39, go_sem]) rfl ⟨rfl, by first | exact (((((Below.refl _ _).alloc (Nat.le_refl _) _).alloc (by simp) _).alloc (by simp; omega) _).alloc (by simp; omega) _).drew | exact ((((Below.refl _ _).drew.alloc (Nat.le_refl _) _).alloc (by simp) _).alloc (by simp; omega) _).alloc (by simp; omega) _ | exact ((((Below.refl _ _).alloc (Nat.le_refl _) _).alloc (by simp) _).alloc (by simp; omega) _).alloc (by simp; omega) _⟩

set_option maxHeartbeats 4000000 in
theorem prod_yes_false_true (sa sb : Int) (w : World) (h1 : 1 ≤ sa) (h2 : sa ≤ 9007199254740991) (h3 : 0 ≤ sb) (h4 : sb ≤ 9007199254740991) (h : ¬ 9007199254740991 / sa < sb) (p1 : 0 ≤ sa * sb) (p2 : sa * sb ≤ 9007199254740991) : Calls Tryd.prog 39 #[RV 119 false sa, RV 119 true sb] w (Ret (RT 119 true (sa * sb) true) w) := by
  have t1 : (sa != 0) = true := by simp; omega
  have t2 : ¬ sa = 0 := by omega
  have t3 : (sa == 0) = false := by simp; omega
  have t4 : decide (9007199254740991 / sa < sb) = false := decide_eq_false h
  go_enter Tryd.func39, Tryd.ntmps39
  go_wp2_with fail
  go_region
  go_wp2
  exact bodyPost_ret (v := RT 119 true (sa * sb) true) (by simp [results, Tryd.results39, go_sem]) rfl ⟨rfl, by first | exact (((((Below.refl _ _).alloc (Nat.le_refl _) _).alloc (by simp) _).alloc (by simp; omega) _).alloc (by simp; omega) _).drew | exact ((((Below.refl _ _).drew.alloc (Nat.le_refl _) _).alloc (by simp) _).alloc (by simp; omega) _).alloc (by simp; omega) _ | exact ((((Below.refl _ _).alloc (Nat.le_refl _) _).alloc (by simp) _).alloc (by simp; omega) _).alloc (by simp; omega) _⟩

set_option maxHeartbeats 4000000 in
theorem prod_yes_true_false (sa sb : Int) (w : World) (h1 : 1 ≤ sa) (h2 : sa ≤ 9007199254740991) (h3 : 0 ≤ sb) (h4 : sb ≤ 9007199254740991) (h : ¬ 9007199254740991 / sa < sb) (p1 : 0 ≤ sa * sb) (p2 : sa * sb ≤ 9007199254740991) : Calls Tryd.prog 39 #[RV 119 true sa, RV 119 false sb] w (Ret (RT 119 true (sa * sb) true) w) := by
  have t1 : (sa != 0) = true := by simp; omega
  have t2 : ¬ sa = 0 := by omega
  have t3 : (sa == 0) = false := by simp; omega
  have t4 : decide (9007199254740991 / sa < sb) = false := decide_eq_false h
  go_enter Tryd.func39, Tryd.ntmps39
  go_wp2_with fail
  go_region
  go_wp2
  exact bodyPost_ret (v := RT 119 true (sa * sb) true) (by simp [results, Tryd.results39, go_sem]) rfl ⟨rfl, by first | exact (((((Below.refl _ _).alloc (Nat.le_refl _) _).alloc (by simp) _).alloc (by simp; omega) _).alloc (by simp; omega) _).drew | exact ((((Below.refl _ _).drew.alloc (Nat.le_refl _) _).alloc (by simp) _).alloc (by simp; omega) _).alloc (by simp; omega) _ | exact ((((Below.refl _ _).alloc (Nat.le_refl _) _).alloc (by simp) _).alloc (by simp; omega) _).alloc (by simp; omega) _⟩

set_option maxHeartbeats 4000000 in
theorem prod_yes_true_true (sa sb : Int) (w : World) (h1 : 1 ≤ sa) (h2 : sa ≤ 9007199254740991) (h3 : 0 ≤ sb) (h4 : sb ≤ 9007199254740991) (h : ¬ 9007199254740991 / sa < sb) (p1 : 0 ≤ sa * sb) (p2 : sa * sb ≤ 9007199254740991) : Calls Tryd.prog 39 #[RV 119 true sa, RV 119 true sb] w (Ret (RT 119 false (sa * sb) true) w) := by
  have t1 : (sa != 0) = true := by simp; omega
  have t2 : ¬ sa = 0 := by omega
  have t3 : (sa == 0) = false := by simp; omega
  have t4 : decide (9007199254740991 / sa < sb) = false := decide_eq_false h
  go_enter Tryd.func39, Tryd.ntmps39
  go_wp2_with fail
  go_region
  go_wp2
  exact bodyPost_ret (v := RT 119 false (sa * sb) true) (by simp [results, Tryd.results39, go_sem]) rfl ⟨rfl, by first | exact (((((Below.refl _ _).alloc (Nat.le_refl _) _).alloc (by simp) _).alloc (by simp; omega) _).alloc (by simp; omega) _).drew | exact ((((Below.refl _ _).drew.alloc (Nat.le_refl _) _).alloc (by simp) _).alloc (by simp; omega) _).alloc (by simp; omega) _ | exact ((((Below.refl _ _).alloc (Nat.le_refl _) _).alloc (by simp) _).alloc (by simp; omega) _).alloc (by simp; omega) _⟩

end Go.Proofs.YtdacpebijljckaaDoor
