/- Contracts of the reference's product, quotient and Rem. -/
import Derived.Test.YtdacpebijljckaaDoorNumW
set_option linter.unusedVariables false
set_option linter.unusedSimpArgs false
namespace Go.Proofs.YtdacpebijljckaaDoor
open Go.RowKit

set_option maxHeartbeats 4000000 in
theorem prod_ii (ma mb : Bool)  (w : World) : Calls Tryd.prog 39 #[RV 105 ma 0, RV 105 mb 0] w (Ret (RT 105 (ma != mb) 0 true) w) := by
  cases ma <;> cases mb
  · go_enter Tryd.func39, Tryd.ntmps39
    go_wp2_with fail
    exact bodyPost_ret (v := RT 105 false 0 true) (by simp [results, Tryd.results39, go_sem, *]) rfl ⟨by simp [*], by repeat (first | exact Below.refl _ _ | with_reducible assumption | (refine Below.alloc ?_ (by first | omega | (simp; omega) | simp) _) | (refine Below.setCell ?_ (by first | omega | (simp; omega) | simp) _) | (refine Below.trans ?_ (Below.mono (by assumption) (by first | omega | (simp; omega) | simp))))⟩
  · go_enter Tryd.func39, Tryd.ntmps39
    go_wp2_with fail
    exact bodyPost_ret (v := RT 105 true 0 true) (by simp [results, Tryd.results39, go_sem, *]) rfl ⟨by simp [*], by repeat (first | exact Below.refl _ _ | with_reducible assumption | (refine Below.alloc ?_ (by first | omega | (simp; omega) | simp) _) | (refine Below.setCell ?_ (by first | omega | (simp; omega) | simp) _) | (refine Below.trans ?_ (Below.mono (by assumption) (by first | omega | (simp; omega) | simp))))⟩
  · go_enter Tryd.func39, Tryd.ntmps39
    go_wp2_with fail
    exact bodyPost_ret (v := RT 105 true 0 true) (by simp [results, Tryd.results39, go_sem, *]) rfl ⟨by simp [*], by repeat (first | exact Below.refl _ _ | with_reducible assumption | (refine Below.alloc ?_ (by first | omega | (simp; omega) | simp) _) | (refine Below.setCell ?_ (by first | omega | (simp; omega) | simp) _) | (refine Below.trans ?_ (Below.mono (by assumption) (by first | omega | (simp; omega) | simp))))⟩
  · go_enter Tryd.func39, Tryd.ntmps39
    go_wp2_with fail
    exact bodyPost_ret (v := RT 105 false 0 true) (by simp [results, Tryd.results39, go_sem, *]) rfl ⟨by simp [*], by repeat (first | exact Below.refl _ _ | with_reducible assumption | (refine Below.alloc ?_ (by first | omega | (simp; omega) | simp) _) | (refine Below.setCell ?_ (by first | omega | (simp; omega) | simp) _) | (refine Below.trans ?_ (Below.mono (by assumption) (by first | omega | (simp; omega) | simp))))⟩
set_option maxHeartbeats 4000000 in
theorem prod_iw (ma mb : Bool) (sb : Int) (w : World) : Calls Tryd.prog 39 #[RV 105 ma 0, RV 119 mb sb] w (Ret (if sb == 0 then RT 110 false 0 true else RT 105 (ma != mb) 0 true) w) := by
  cases q : (sb == 0) <;> cases ma <;> cases mb
  · go_enter Tryd.func39, Tryd.ntmps39
    go_wp2_with fail
    exact bodyPost_ret (v := RT 105 false 0 true) (by simp [results, Tryd.results39, go_sem, *]) rfl ⟨by simp [*], by repeat (first | exact Below.refl _ _ | with_reducible assumption | (refine Below.alloc ?_ (by first | omega | (simp; omega) | simp) _) | (refine Below.setCell ?_ (by first | omega | (simp; omega) | simp) _) | (refine Below.trans ?_ (Below.mono (by assumption) (by first | omega | (simp; omega) | simp))))⟩
  · go_enter Tryd.func39, Tryd.ntmps39
    go_wp2_with fail
    exact bodyPost_ret (v := RT 105 true 0 true) (by simp [results, Tryd.results39, go_sem, *]) rfl ⟨by simp [*], by repeat (first | exact Below.refl _ _ | with_reducible assumption | (refine Below.alloc ?_ (by first | omega | (simp; omega) | simp) _) | (refine Below.setCell ?_ (by first | omega | (simp; omega) | simp) _) | (refine Below.trans ?_ (Below.mono (by assumption) (by first | omega | (simp; omega) | simp))))⟩
  · go_enter Tryd.func39, Tryd.ntmps39
    go_wp2_with fail
    exact bodyPost_ret (v := RT 105 true 0 true) (by simp [results, Tryd.results39, go_sem, *]) rfl ⟨by simp [*], by repeat (first | exact Below.refl _ _ | with_reducible assumption | (refine Below.alloc ?_ (by first | omega | (simp; omega) | simp) _) | (refine Below.setCell ?_ (by first | omega | (simp; omega) | simp) _) | (refine Below.trans ?_ (Below.mono (by assumption) (by first | omega | (simp; omega) | simp))))⟩
  · go_enter Tryd.func39, Tryd.ntmps39
    go_wp2_with fail
    exact bodyPost_ret (v := RT 105 false 0 true) (by simp [results, Tryd.results39, go_sem, *]) rfl ⟨by simp [*], by repeat (first | exact Below.refl _ _ | with_reducible assumption | (refine Below.alloc ?_ (by first | omega | (simp; omega) | simp) _) | (refine Below.setCell ?_ (by first | omega | (simp; omega) | simp) _) | (refine Below.trans ?_ (Below.mono (by assumption) (by first | omega | (simp; omega) | simp))))⟩
  · go_enter Tryd.func39, Tryd.ntmps39
    go_wp2_with fail
    exact bodyPost_ret (v := RT 110 false 0 true) (by simp [results, Tryd.results39, go_sem, *]) rfl ⟨by simp [*], by repeat (first | exact Below.refl _ _ | with_reducible assumption | (refine Below.alloc ?_ (by first | omega | (simp; omega) | simp) _) | (refine Below.setCell ?_ (by first | omega | (simp; omega) | simp) _) | (refine Below.trans ?_ (Below.mono (by assumption) (by first | omega | (simp; omega) | simp))))⟩
  · go_enter Tryd.func39, Tryd.ntmps39
    go_wp2_with fail
    exact bodyPost_ret (v := RT 110 false 0 true) (by simp [results, Tryd.results39, go_sem, *]) rfl ⟨by simp [*], by repeat (first | exact Below.refl _ _ | with_reducible assumption | (refine Below.alloc ?_ (by first | omega | (simp; omega) | simp) _) | (refine Below.setCell ?_ (by first | omega | (simp; omega) | simp) _) | (refine Below.trans ?_ (Below.mono (by assumption) (by first | omega | (simp; omega) | simp))))⟩
  · go_enter Tryd.func39, Tryd.ntmps39
    go_wp2_with fail
    exact bodyPost_ret (v := RT 110 false 0 true) (by simp [results, Tryd.results39, go_sem, *]) rfl ⟨by simp [*], by repeat (first | exact Below.refl _ _ | with_reducible assumption | (refine Below.alloc ?_ (by first | omega | (simp; omega) | simp) _) | (refine Below.setCell ?_ (by first | omega | (simp; omega) | simp) _) | (refine Below.trans ?_ (Below.mono (by assumption) (by first | omega | (simp; omega) | simp))))⟩
  · go_enter Tryd.func39, Tryd.ntmps39
    go_wp2_with fail
    exact bodyPost_ret (v := RT 110 false 0 true) (by simp [results, Tryd.results39, go_sem, *]) rfl ⟨by simp [*], by repeat (first | exact Below.refl _ _ | with_reducible assumption | (refine Below.alloc ?_ (by first | omega | (simp; omega) | simp) _) | (refine Below.setCell ?_ (by first | omega | (simp; omega) | simp) _) | (refine Below.trans ?_ (Below.mono (by assumption) (by first | omega | (simp; omega) | simp))))⟩
set_option maxHeartbeats 4000000 in
theorem prod_wi (ma mb : Bool) (sa : Int) (w : World) : Calls Tryd.prog 39 #[RV 119 ma sa, RV 105 mb 0] w (Ret (if sa == 0 then RT 110 false 0 true else RT 105 (ma != mb) 0 true) w) := by
  cases q : (sa == 0) <;> cases ma <;> cases mb
  · go_enter Tryd.func39, Tryd.ntmps39
    go_wp2_with fail
    exact bodyPost_ret (v := RT 105 false 0 true) (by simp [results, Tryd.results39, go_sem, *]) rfl ⟨by simp [*], by repeat (first | exact Below.refl _ _ | with_reducible assumption | (refine Below.alloc ?_ (by first | omega | (simp; omega) | simp) _) | (refine Below.setCell ?_ (by first | omega | (simp; omega) | simp) _) | (refine Below.trans ?_ (Below.mono (by assumption) (by first | omega | (simp; omega) | simp))))⟩
  · go_enter Tryd.func39, Tryd.ntmps39
    go_wp2_with fail
    exact bodyPost_ret (v := RT 105 true 0 true) (by simp [results, Tryd.results39, go_sem, *]) rfl ⟨by simp [*], by repeat (first | exact Below.refl _ _ | with_reducible assumption | (refine Below.alloc ?_ (by first | omega | (simp; omega) | simp) _) | (refine Below.setCell ?_ (by first | omega | (simp; omega) | simp) _) | (refine Below.trans ?_ (Below.mono (by assumption) (by first | omega | (simp; omega) | simp))))⟩
  · go_enter Tryd.func39, Tryd.ntmps39
    go_wp2_with fail
    exact bodyPost_ret (v := RT 105 true 0 true) (by simp [results, Tryd.results39, go_sem, *]) rfl ⟨by simp [*], by repeat (first | exact Below.refl _ _ | with_reducible assumption | (refine Below.alloc ?_ (by first | omega | (simp; omega) | simp) _) | (refine Below.setCell ?_ (by first | omega | (simp; omega) | simp) _) | (refine Below.trans ?_ (Below.mono (by assumption) (by first | omega | (simp; omega) | simp))))⟩
  · go_enter Tryd.func39, Tryd.ntmps39
    go_wp2_with fail
    exact bodyPost_ret (v := RT 105 false 0 true) (by simp [results, Tryd.results39, go_sem, *]) rfl ⟨by simp [*], by repeat (first | exact Below.refl _ _ | with_reducible assumption | (refine Below.alloc ?_ (by first | omega | (simp; omega) | simp) _) | (refine Below.setCell ?_ (by first | omega | (simp; omega) | simp) _) | (refine Below.trans ?_ (Below.mono (by assumption) (by first | omega | (simp; omega) | simp))))⟩
  · go_enter Tryd.func39, Tryd.ntmps39
    go_wp2_with fail
    exact bodyPost_ret (v := RT 110 false 0 true) (by simp [results, Tryd.results39, go_sem, *]) rfl ⟨by simp [*], by repeat (first | exact Below.refl _ _ | with_reducible assumption | (refine Below.alloc ?_ (by first | omega | (simp; omega) | simp) _) | (refine Below.setCell ?_ (by first | omega | (simp; omega) | simp) _) | (refine Below.trans ?_ (Below.mono (by assumption) (by first | omega | (simp; omega) | simp))))⟩
  · go_enter Tryd.func39, Tryd.ntmps39
    go_wp2_with fail
    exact bodyPost_ret (v := RT 110 false 0 true) (by simp [results, Tryd.results39, go_sem, *]) rfl ⟨by simp [*], by repeat (first | exact Below.refl _ _ | with_reducible assumption | (refine Below.alloc ?_ (by first | omega | (simp; omega) | simp) _) | (refine Below.setCell ?_ (by first | omega | (simp; omega) | simp) _) | (refine Below.trans ?_ (Below.mono (by assumption) (by first | omega | (simp; omega) | simp))))⟩
  · go_enter Tryd.func39, Tryd.ntmps39
    go_wp2_with fail
    exact bodyPost_ret (v := RT 110 false 0 true) (by simp [results, Tryd.results39, go_sem, *]) rfl ⟨by simp [*], by repeat (first | exact Below.refl _ _ | with_reducible assumption | (refine Below.alloc ?_ (by first | omega | (simp; omega) | simp) _) | (refine Below.setCell ?_ (by first | omega | (simp; omega) | simp) _) | (refine Below.trans ?_ (Below.mono (by assumption) (by first | omega | (simp; omega) | simp))))⟩
  · go_enter Tryd.func39, Tryd.ntmps39
    go_wp2_with fail
    exact bodyPost_ret (v := RT 110 false 0 true) (by simp [results, Tryd.results39, go_sem, *]) rfl ⟨by simp [*], by repeat (first | exact Below.refl _ _ | with_reducible assumption | (refine Below.alloc ?_ (by first | omega | (simp; omega) | simp) _) | (refine Below.setCell ?_ (by first | omega | (simp; omega) | simp) _) | (refine Below.trans ?_ (Below.mono (by assumption) (by first | omega | (simp; omega) | simp))))⟩
set_option maxHeartbeats 4000000 in
theorem quot_ii (ma mb : Bool)  (w : World) : Calls Tryd.prog 40 #[RV 105 ma 0, RV 105 mb 0] w (Ret (RT 110 false 0 true) w) := by
  cases ma <;> cases mb
  · go_enter Tryd.func40, Tryd.ntmps40
    go_wp2_with fail
    exact bodyPost_ret (v := RT 110 false 0 true) (by simp [results, Tryd.results40, go_sem, *]) rfl ⟨by simp [*], by repeat (first | exact Below.refl _ _ | with_reducible assumption | (refine Below.alloc ?_ (by first | omega | (simp; omega) | simp) _) | (refine Below.setCell ?_ (by first | omega | (simp; omega) | simp) _) | (refine Below.trans ?_ (Below.mono (by assumption) (by first | omega | (simp; omega) | simp))))⟩
  · go_enter Tryd.func40, Tryd.ntmps40
    go_wp2_with fail
    exact bodyPost_ret (v := RT 110 false 0 true) (by simp [results, Tryd.results40, go_sem, *]) rfl ⟨by simp [*], by repeat (first | exact Below.refl _ _ | with_reducible assumption | (refine Below.alloc ?_ (by first | omega | (simp; omega) | simp) _) | (refine Below.setCell ?_ (by first | omega | (simp; omega) | simp) _) | (refine Below.trans ?_ (Below.mono (by assumption) (by first | omega | (simp; omega) | simp))))⟩
  · go_enter Tryd.func40, Tryd.ntmps40
    go_wp2_with fail
    exact bodyPost_ret (v := RT 110 false 0 true) (by simp [results, Tryd.results40, go_sem, *]) rfl ⟨by simp [*], by repeat (first | exact Below.refl _ _ | with_reducible assumption | (refine Below.alloc ?_ (by first | omega | (simp; omega) | simp) _) | (refine Below.setCell ?_ (by first | omega | (simp; omega) | simp) _) | (refine Below.trans ?_ (Below.mono (by assumption) (by first | omega | (simp; omega) | simp))))⟩
  · go_enter Tryd.func40, Tryd.ntmps40
    go_wp2_with fail
    exact bodyPost_ret (v := RT 110 false 0 true) (by simp [results, Tryd.results40, go_sem, *]) rfl ⟨by simp [*], by repeat (first | exact Below.refl _ _ | with_reducible assumption | (refine Below.alloc ?_ (by first | omega | (simp; omega) | simp) _) | (refine Below.setCell ?_ (by first | omega | (simp; omega) | simp) _) | (refine Below.trans ?_ (Below.mono (by assumption) (by first | omega | (simp; omega) | simp))))⟩
set_option maxHeartbeats 4000000 in
theorem quot_iw (ma mb : Bool) (sb : Int) (w : World) : Calls Tryd.prog 40 #[RV 105 ma 0, RV 119 mb sb] w (Ret (RT 105 (ma != mb) 0 true) w) := by
  cases q : (sb == 0) <;> cases ma <;> cases mb
  · go_enter Tryd.func40, Tryd.ntmps40
    go_wp2_with fail
    exact bodyPost_ret (v := RT 105 false 0 true) (by simp [results, Tryd.results40, go_sem, *]) rfl ⟨by simp [*], by repeat (first | exact Below.refl _ _ | with_reducible assumption | (refine Below.alloc ?_ (by first | omega | (simp; omega) | simp) _) | (refine Below.setCell ?_ (by first | omega | (simp; omega) | simp) _) | (refine Below.trans ?_ (Below.mono (by assumption) (by first | omega | (simp; omega) | simp))))⟩
  · go_enter Tryd.func40, Tryd.ntmps40
    go_wp2_with fail
    exact bodyPost_ret (v := RT 105 true 0 true) (by simp [results, Tryd.results40, go_sem, *]) rfl ⟨by simp [*], by repeat (first | exact Below.refl _ _ | with_reducible assumption | (refine Below.alloc ?_ (by first | omega | (simp; omega) | simp) _) | (refine Below.setCell ?_ (by first | omega | (simp; omega) | simp) _) | (refine Below.trans ?_ (Below.mono (by assumption) (by first | omega | (simp; omega) | simp))))⟩
  · go_enter Tryd.func40, Tryd.ntmps40
    go_wp2_with fail
    exact bodyPost_ret (v := RT 105 true 0 true) (by simp [results, Tryd.results40, go_sem, *]) rfl ⟨by simp [*], by repeat (first | exact Below.refl _ _ | with_reducible assumption | (refine Below.alloc ?_ (by first | omega | (simp; omega) | simp) _) | (refine Below.setCell ?_ (by first | omega | (simp; omega) | simp) _) | (refine Below.trans ?_ (Below.mono (by assumption) (by first | omega | (simp; omega) | simp))))⟩
  · go_enter Tryd.func40, Tryd.ntmps40
    go_wp2_with fail
    exact bodyPost_ret (v := RT 105 false 0 true) (by simp [results, Tryd.results40, go_sem, *]) rfl ⟨by simp [*], by repeat (first | exact Below.refl _ _ | with_reducible assumption | (refine Below.alloc ?_ (by first | omega | (simp; omega) | simp) _) | (refine Below.setCell ?_ (by first | omega | (simp; omega) | simp) _) | (refine Below.trans ?_ (Below.mono (by assumption) (by first | omega | (simp; omega) | simp))))⟩
  · go_enter Tryd.func40, Tryd.ntmps40
    go_wp2_with fail
    exact bodyPost_ret (v := RT 105 false 0 true) (by simp [results, Tryd.results40, go_sem, *]) rfl ⟨by simp [*], by repeat (first | exact Below.refl _ _ | with_reducible assumption | (refine Below.alloc ?_ (by first | omega | (simp; omega) | simp) _) | (refine Below.setCell ?_ (by first | omega | (simp; omega) | simp) _) | (refine Below.trans ?_ (Below.mono (by assumption) (by first | omega | (simp; omega) | simp))))⟩
  · go_enter Tryd.func40, Tryd.ntmps40
    go_wp2_with fail
    exact bodyPost_ret (v := RT 105 true 0 true) (by simp [results, Tryd.results40, go_sem, *]) rfl ⟨by simp [*], by repeat (first | exact Below.refl _ _ | with_reducible assumption | (refine Below.alloc ?_ (by first | omega | (simp; omega) | simp) _) | (refine Below.setCell ?_ (by first | omega | (simp; omega) | simp) _) | (refine Below.trans ?_ (Below.mono (by assumption) (by first | omega | (simp; omega) | simp))))⟩
  · go_enter Tryd.func40, Tryd.ntmps40
    go_wp2_with fail
    exact bodyPost_ret (v := RT 105 true 0 true) (by simp [results, Tryd.results40, go_sem, *]) rfl ⟨by simp [*], by repeat (first | exact Below.refl _ _ | with_reducible assumption | (refine Below.alloc ?_ (by first | omega | (simp; omega) | simp) _) | (refine Below.setCell ?_ (by first | omega | (simp; omega) | simp) _) | (refine Below.trans ?_ (Below.mono (by assumption) (by first | omega | (simp; omega) | simp))))⟩
  · go_enter Tryd.func40, Tryd.ntmps40
    go_wp2_with fail
    exact bodyPost_ret (v := RT 105 false 0 true) (by simp [results, Tryd.results40, go_sem, *]) rfl ⟨by simp [*], by repeat (first | exact Below.refl _ _ | with_reducible assumption | (refine Below.alloc ?_ (by first | omega | (simp; omega) | simp) _) | (refine Below.setCell ?_ (by first | omega | (simp; omega) | simp) _) | (refine Below.trans ?_ (Below.mono (by assumption) (by first | omega | (simp; omega) | simp))))⟩
set_option maxHeartbeats 4000000 in
theorem quot_wi (ma mb : Bool) (sa : Int) (w : World) : Calls Tryd.prog 40 #[RV 119 ma sa, RV 105 mb 0] w (Ret (RT 119 (ma != mb) 0 true) w) := by
  cases ma <;> cases mb
  · go_enter Tryd.func40, Tryd.ntmps40
    go_wp2_with fail
    exact bodyPost_ret (v := RT 119 false 0 true) (by simp [results, Tryd.results40, go_sem, *]) rfl ⟨by simp [*], by repeat (first | exact Below.refl _ _ | with_reducible assumption | (refine Below.alloc ?_ (by first | omega | (simp; omega) | simp) _) | (refine Below.setCell ?_ (by first | omega | (simp; omega) | simp) _) | (refine Below.trans ?_ (Below.mono (by assumption) (by first | omega | (simp; omega) | simp))))⟩
  · go_enter Tryd.func40, Tryd.ntmps40
    go_wp2_with fail
    exact bodyPost_ret (v := RT 119 true 0 true) (by simp [results, Tryd.results40, go_sem, *]) rfl ⟨by simp [*], by repeat (first | exact Below.refl _ _ | with_reducible assumption | (refine Below.alloc ?_ (by first | omega | (simp; omega) | simp) _) | (refine Below.setCell ?_ (by first | omega | (simp; omega) | simp) _) | (refine Below.trans ?_ (Below.mono (by assumption) (by first | omega | (simp; omega) | simp))))⟩
  · go_enter Tryd.func40, Tryd.ntmps40
    go_wp2_with fail
    exact bodyPost_ret (v := RT 119 true 0 true) (by simp [results, Tryd.results40, go_sem, *]) rfl ⟨by simp [*], by repeat (first | exact Below.refl _ _ | with_reducible assumption | (refine Below.alloc ?_ (by first | omega | (simp; omega) | simp) _) | (refine Below.setCell ?_ (by first | omega | (simp; omega) | simp) _) | (refine Below.trans ?_ (Below.mono (by assumption) (by first | omega | (simp; omega) | simp))))⟩
  · go_enter Tryd.func40, Tryd.ntmps40
    go_wp2_with fail
    exact bodyPost_ret (v := RT 119 false 0 true) (by simp [results, Tryd.results40, go_sem, *]) rfl ⟨by simp [*], by repeat (first | exact Below.refl _ _ | with_reducible assumption | (refine Below.alloc ?_ (by first | omega | (simp; omega) | simp) _) | (refine Below.setCell ?_ (by first | omega | (simp; omega) | simp) _) | (refine Below.trans ?_ (Below.mono (by assumption) (by first | omega | (simp; omega) | simp))))⟩
set_option maxHeartbeats 4000000 in
theorem quot_w0 (ma mb : Bool) (sa : Int) (w : World) : Calls Tryd.prog 40 #[RV 119 ma sa, RV 119 mb 0] w (Ret (if sa == 0 then RT 110 false 0 true else RT 105 (ma != mb) 0 true) w) := by
  cases q : (sa == 0) <;> cases ma <;> cases mb
  · go_enter Tryd.func40, Tryd.ntmps40
    go_wp2_with fail
    exact bodyPost_ret (v := RT 105 false 0 true) (by simp [results, Tryd.results40, go_sem, *]) rfl ⟨by simp [*], by repeat (first | exact Below.refl _ _ | with_reducible assumption | (refine Below.alloc ?_ (by first | omega | (simp; omega) | simp) _) | (refine Below.setCell ?_ (by first | omega | (simp; omega) | simp) _) | (refine Below.trans ?_ (Below.mono (by assumption) (by first | omega | (simp; omega) | simp))))⟩
  · go_enter Tryd.func40, Tryd.ntmps40
    go_wp2_with fail
    exact bodyPost_ret (v := RT 105 true 0 true) (by simp [results, Tryd.results40, go_sem, *]) rfl ⟨by simp [*], by repeat (first | exact Below.refl _ _ | with_reducible assumption | (refine Below.alloc ?_ (by first | omega | (simp; omega) | simp) _) | (refine Below.setCell ?_ (by first | omega | (simp; omega) | simp) _) | (refine Below.trans ?_ (Below.mono (by assumption) (by first | omega | (simp; omega) | simp))))⟩
  · go_enter Tryd.func40, Tryd.ntmps40
    go_wp2_with fail
    exact bodyPost_ret (v := RT 105 true 0 true) (by simp [results, Tryd.results40, go_sem, *]) rfl ⟨by simp [*], by repeat (first | exact Below.refl _ _ | with_reducible assumption | (refine Below.alloc ?_ (by first | omega | (simp; omega) | simp) _) | (refine Below.setCell ?_ (by first | omega | (simp; omega) | simp) _) | (refine Below.trans ?_ (Below.mono (by assumption) (by first | omega | (simp; omega) | simp))))⟩
  · go_enter Tryd.func40, Tryd.ntmps40
    go_wp2_with fail
    exact bodyPost_ret (v := RT 105 false 0 true) (by simp [results, Tryd.results40, go_sem, *]) rfl ⟨by simp [*], by repeat (first | exact Below.refl _ _ | with_reducible assumption | (refine Below.alloc ?_ (by first | omega | (simp; omega) | simp) _) | (refine Below.setCell ?_ (by first | omega | (simp; omega) | simp) _) | (refine Below.trans ?_ (Below.mono (by assumption) (by first | omega | (simp; omega) | simp))))⟩
  · go_enter Tryd.func40, Tryd.ntmps40
    go_wp2_with fail
    exact bodyPost_ret (v := RT 110 false 0 true) (by simp [results, Tryd.results40, go_sem, *]) rfl ⟨by simp [*], by repeat (first | exact Below.refl _ _ | with_reducible assumption | (refine Below.alloc ?_ (by first | omega | (simp; omega) | simp) _) | (refine Below.setCell ?_ (by first | omega | (simp; omega) | simp) _) | (refine Below.trans ?_ (Below.mono (by assumption) (by first | omega | (simp; omega) | simp))))⟩
  · go_enter Tryd.func40, Tryd.ntmps40
    go_wp2_with fail
    exact bodyPost_ret (v := RT 110 false 0 true) (by simp [results, Tryd.results40, go_sem, *]) rfl ⟨by simp [*], by repeat (first | exact Below.refl _ _ | with_reducible assumption | (refine Below.alloc ?_ (by first | omega | (simp; omega) | simp) _) | (refine Below.setCell ?_ (by first | omega | (simp; omega) | simp) _) | (refine Below.trans ?_ (Below.mono (by assumption) (by first | omega | (simp; omega) | simp))))⟩
  · go_enter Tryd.func40, Tryd.ntmps40
    go_wp2_with fail
    exact bodyPost_ret (v := RT 110 false 0 true) (by simp [results, Tryd.results40, go_sem, *]) rfl ⟨by simp [*], by repeat (first | exact Below.refl _ _ | with_reducible assumption | (refine Below.alloc ?_ (by first | omega | (simp; omega) | simp) _) | (refine Below.setCell ?_ (by first | omega | (simp; omega) | simp) _) | (refine Below.trans ?_ (Below.mono (by assumption) (by first | omega | (simp; omega) | simp))))⟩
  · go_enter Tryd.func40, Tryd.ntmps40
    go_wp2_with fail
    exact bodyPost_ret (v := RT 110 false 0 true) (by simp [results, Tryd.results40, go_sem, *]) rfl ⟨by simp [*], by repeat (first | exact Below.refl _ _ | with_reducible assumption | (refine Below.alloc ?_ (by first | omega | (simp; omega) | simp) _) | (refine Below.setCell ?_ (by first | omega | (simp; omega) | simp) _) | (refine Below.trans ?_ (Below.mono (by assumption) (by first | omega | (simp; omega) | simp))))⟩
set_option maxHeartbeats 4000000 in
theorem rem_x (ma mb : Bool) (d sa e sb : Int) (w : World) (h : (d == 119) = false) : Calls Tryd.prog 27 #[RV d ma sa, RV e mb sb] w (Ret (RV 110 false 0) w) := by
  have t : (d != 119) = true := by simp [bne, h]
  go_enter Tryd.func27, Tryd.ntmps27
  go_wp2
  exact bodyPost_ret (v := RV 110 false 0) (by simp [results, Tryd.results27, go_sem, *]) rfl ⟨by simp [*], by repeat (first | exact Below.refl _ _ | with_reducible assumption | (refine Below.alloc ?_ (by first | omega | (simp; omega) | simp) _) | (refine Below.setCell ?_ (by first | omega | (simp; omega) | simp) _) | (refine Below.trans ?_ (Below.mono (by assumption) (by first | omega | (simp; omega) | simp))))⟩

set_option maxHeartbeats 4000000 in
theorem rem_n (ma mb : Bool) (sa sb : Int) (w : World) : Calls Tryd.prog 27 #[RV 119 ma sa, RV 110 mb sb] w (Ret (RV 110 false 0) w) := by
  go_enter Tryd.func27, Tryd.ntmps27
  go_wp2
  exact bodyPost_ret (v := RV 110 false 0) (by simp [results, Tryd.results27, go_sem, *]) rfl ⟨by simp [*], by repeat (first | exact Below.refl _ _ | with_reducible assumption | (refine Below.alloc ?_ (by first | omega | (simp; omega) | simp) _) | (refine Below.setCell ?_ (by first | omega | (simp; omega) | simp) _) | (refine Below.trans ?_ (Below.mono (by assumption) (by first | omega | (simp; omega) | simp))))⟩

set_option maxHeartbeats 4000000 in
theorem rem_0 (ma mb : Bool) (sa : Int) (w : World) : Calls Tryd.prog 27 #[RV 119 ma sa, RV 119 mb 0] w (Ret (RV 110 false 0) w) := by
  go_enter Tryd.func27, Tryd.ntmps27
  go_wp2
  exact bodyPost_ret (v := RV 110 false 0) (by simp [results, Tryd.results27, go_sem, *]) rfl ⟨by simp [*], by repeat (first | exact Below.refl _ _ | with_reducible assumption | (refine Below.alloc ?_ (by first | omega | (simp; omega) | simp) _) | (refine Below.setCell ?_ (by first | omega | (simp; omega) | simp) _) | (refine Below.trans ?_ (Below.mono (by assumption) (by first | omega | (simp; omega) | simp))))⟩

set_option maxHeartbeats 4000000 in
theorem rem_i (ma mb : Bool) (sa : Int) (w : World) : Calls Tryd.prog 27 #[RV 119 ma sa, RV 105 mb 0] w (Ret (RV 119 ma sa) w) := by
  go_enter Tryd.func27, Tryd.ntmps27
  go_wp2
  exact bodyPost_ret (v := RV 119 ma sa) (by simp [results, Tryd.results27, go_sem, *]) rfl ⟨by simp [*], by repeat (first | exact Below.refl _ _ | with_reducible assumption | (refine Below.alloc ?_ (by first | omega | (simp; omega) | simp) _) | (refine Below.setCell ?_ (by first | omega | (simp; omega) | simp) _) | (refine Below.trans ?_ (Below.mono (by assumption) (by first | omega | (simp; omega) | simp))))⟩

end Go.Proofs.YtdacpebijljckaaDoor
