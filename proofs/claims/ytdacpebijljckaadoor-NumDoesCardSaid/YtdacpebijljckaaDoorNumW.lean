/- Contracts of the reference's Val, sum, product, quotient, Do and Rem, by the kinds of numbers. -/
import Derived.Test.YtdacpebijljckaaDoorNumQ
set_option linter.unusedVariables false
set_option linter.unusedSimpArgs false
namespace Go.Proofs.YtdacpebijljckaaDoor
open Go.RowKit

abbrev RT (d : Int) (m : Bool) (s : Int) (ok : Bool) : Value := .tuple #[RV d m s, .bool ok]
def valR (d : Int) (m : Bool) (s : Int) : Int × Int := if d == 110 then (4, 0) else if d == 105 then (5, if m = true then -1 else 1) else if s == 0 && m then (6, 0) else (3, if m = true then -s else s)
abbrev VV (d : Int) (m : Bool) (s : Int) : Value := VN (valR d m s).1 (valR d m s).2

set_option maxHeartbeats 4000000 in
theorem val_any (d : Int) (m : Bool) (s : Int) (w : World) (h1 : 0 ≤ s) (h2 : s ≤ 9007199254740992) : Calls Tryd.prog 25 #[RV d m s] w (Ret (VV d m s) w) := by
  cases m
  · go_enter Tryd.func25, Tryd.ntmps25
    go_wp2_with fail
    · exact bodyPost_ret (v := VN 4 0) (by simp [results, Tryd.results25, go_sem, *]) rfl ⟨by simp [valR, *], by repeat (first | exact Below.refl _ _ | with_reducible assumption | (refine Below.alloc ?_ (by first | omega | (simp; omega) | simp) _) | (refine Below.setCell ?_ (by first | omega | (simp; omega) | simp) _) | (refine Below.trans ?_ (Below.mono (by assumption) (by first | omega | (simp; omega) | simp))))⟩
    · exact bodyPost_ret (v := VN 5 1) (by simp [results, Tryd.results25, go_sem, *]) rfl ⟨by simp [valR, *], by repeat (first | exact Below.refl _ _ | with_reducible assumption | (refine Below.alloc ?_ (by first | omega | (simp; omega) | simp) _) | (refine Below.setCell ?_ (by first | omega | (simp; omega) | simp) _) | (refine Below.trans ?_ (Below.mono (by assumption) (by first | omega | (simp; omega) | simp))))⟩
    · exact bodyPost_ret (v := VN 3 s) (by simp [results, Tryd.results25, go_sem, *]) rfl ⟨by simp [valR, *], by repeat (first | exact Below.refl _ _ | with_reducible assumption | (refine Below.alloc ?_ (by first | omega | (simp; omega) | simp) _) | (refine Below.setCell ?_ (by first | omega | (simp; omega) | simp) _) | (refine Below.trans ?_ (Below.mono (by assumption) (by first | omega | (simp; omega) | simp))))⟩
    · exact bodyPost_ret (v := VN 3 s) (by simp [results, Tryd.results25, go_sem, *]) rfl ⟨by simp [valR, *], by repeat (first | exact Below.refl _ _ | with_reducible assumption | (refine Below.alloc ?_ (by first | omega | (simp; omega) | simp) _) | (refine Below.setCell ?_ (by first | omega | (simp; omega) | simp) _) | (refine Below.trans ?_ (Below.mono (by assumption) (by first | omega | (simp; omega) | simp))))⟩
  · go_enter Tryd.func25, Tryd.ntmps25
    go_wp2_with fail
    · exact bodyPost_ret (v := VN 4 0) (by simp [results, Tryd.results25, go_sem, *]) rfl ⟨by simp [valR, *], by repeat (first | exact Below.refl _ _ | with_reducible assumption | (refine Below.alloc ?_ (by first | omega | (simp; omega) | simp) _) | (refine Below.setCell ?_ (by first | omega | (simp; omega) | simp) _) | (refine Below.trans ?_ (Below.mono (by assumption) (by first | omega | (simp; omega) | simp))))⟩
    · exact bodyPost_ret (v := VN 5 (-1)) (by simp [results, Tryd.results25, go_sem, *]) rfl ⟨by simp [valR, *], by repeat (first | exact Below.refl _ _ | with_reducible assumption | (refine Below.alloc ?_ (by first | omega | (simp; omega) | simp) _) | (refine Below.setCell ?_ (by first | omega | (simp; omega) | simp) _) | (refine Below.trans ?_ (Below.mono (by assumption) (by first | omega | (simp; omega) | simp))))⟩
    · exact bodyPost_ret (v := VN 6 0) (by simp [results, Tryd.results25, go_sem, *]) rfl ⟨by simp [valR, *], by repeat (first | exact Below.refl _ _ | with_reducible assumption | (refine Below.alloc ?_ (by first | omega | (simp; omega) | simp) _) | (refine Below.setCell ?_ (by first | omega | (simp; omega) | simp) _) | (refine Below.trans ?_ (Below.mono (by assumption) (by first | omega | (simp; omega) | simp))))⟩
    · exact bodyPost_ret (v := VN 3 (-s)) (by simp [results, Tryd.results25, go_sem, *]) rfl ⟨by simp [valR, *], by repeat (first | exact Below.refl _ _ | with_reducible assumption | (refine Below.alloc ?_ (by first | omega | (simp; omega) | simp) _) | (refine Below.setCell ?_ (by first | omega | (simp; omega) | simp) _) | (refine Below.trans ?_ (Below.mono (by assumption) (by first | omega | (simp; omega) | simp))))⟩

set_option maxHeartbeats 4000000 in
theorem sum_ii (ma mb : Bool)  (w : World) : Calls Tryd.prog 38 #[RV 105 ma 0, RV 105 mb 0] w (Ret (if ma == mb then RT 105 ma 0 true else RT 110 false 0 true) w) := by
  cases ma <;> cases mb
  · go_enter Tryd.func38, Tryd.ntmps38
    go_wp2_with fail
    exact bodyPost_ret (v := RT 105 false 0 true) (by simp [results, Tryd.results38, go_sem, *]) rfl ⟨by simp [*], by repeat (first | exact Below.refl _ _ | with_reducible assumption | (refine Below.alloc ?_ (by first | omega | (simp; omega) | simp) _) | (refine Below.setCell ?_ (by first | omega | (simp; omega) | simp) _) | (refine Below.trans ?_ (Below.mono (by assumption) (by first | omega | (simp; omega) | simp))))⟩
  · go_enter Tryd.func38, Tryd.ntmps38
    go_wp2_with fail
    exact bodyPost_ret (v := RT 110 false 0 true) (by simp [results, Tryd.results38, go_sem, *]) rfl ⟨by simp [*], by repeat (first | exact Below.refl _ _ | with_reducible assumption | (refine Below.alloc ?_ (by first | omega | (simp; omega) | simp) _) | (refine Below.setCell ?_ (by first | omega | (simp; omega) | simp) _) | (refine Below.trans ?_ (Below.mono (by assumption) (by first | omega | (simp; omega) | simp))))⟩
  · go_enter Tryd.func38, Tryd.ntmps38
    go_wp2_with fail
    exact bodyPost_ret (v := RT 110 false 0 true) (by simp [results, Tryd.results38, go_sem, *]) rfl ⟨by simp [*], by repeat (first | exact Below.refl _ _ | with_reducible assumption | (refine Below.alloc ?_ (by first | omega | (simp; omega) | simp) _) | (refine Below.setCell ?_ (by first | omega | (simp; omega) | simp) _) | (refine Below.trans ?_ (Below.mono (by assumption) (by first | omega | (simp; omega) | simp))))⟩
  · go_enter Tryd.func38, Tryd.ntmps38
    go_wp2_with fail
    exact bodyPost_ret (v := RT 105 true 0 true) (by simp [results, Tryd.results38, go_sem, *]) rfl ⟨by simp [*], by repeat (first | exact Below.refl _ _ | with_reducible assumption | (refine Below.alloc ?_ (by first | omega | (simp; omega) | simp) _) | (refine Below.setCell ?_ (by first | omega | (simp; omega) | simp) _) | (refine Below.trans ?_ (Below.mono (by assumption) (by first | omega | (simp; omega) | simp))))⟩
set_option maxHeartbeats 4000000 in
theorem sum_iw (ma mb : Bool) (sb : Int) (w : World) : Calls Tryd.prog 38 #[RV 105 ma 0, RV 119 mb sb] w (Ret (RT 105 ma 0 true) w) := by
  cases ma <;> cases mb
  · go_enter Tryd.func38, Tryd.ntmps38
    go_wp2_with fail
    exact bodyPost_ret (v := RT 105 false 0 true) (by simp [results, Tryd.results38, go_sem, *]) rfl ⟨by simp [*], by repeat (first | exact Below.refl _ _ | with_reducible assumption | (refine Below.alloc ?_ (by first | omega | (simp; omega) | simp) _) | (refine Below.setCell ?_ (by first | omega | (simp; omega) | simp) _) | (refine Below.trans ?_ (Below.mono (by assumption) (by first | omega | (simp; omega) | simp))))⟩
  · go_enter Tryd.func38, Tryd.ntmps38
    go_wp2_with fail
    exact bodyPost_ret (v := RT 105 false 0 true) (by simp [results, Tryd.results38, go_sem, *]) rfl ⟨by simp [*], by repeat (first | exact Below.refl _ _ | with_reducible assumption | (refine Below.alloc ?_ (by first | omega | (simp; omega) | simp) _) | (refine Below.setCell ?_ (by first | omega | (simp; omega) | simp) _) | (refine Below.trans ?_ (Below.mono (by assumption) (by first | omega | (simp; omega) | simp))))⟩
  · go_enter Tryd.func38, Tryd.ntmps38
    go_wp2_with fail
    exact bodyPost_ret (v := RT 105 true 0 true) (by simp [results, Tryd.results38, go_sem, *]) rfl ⟨by simp [*], by repeat (first | exact Below.refl _ _ | with_reducible assumption | (refine Below.alloc ?_ (by first | omega | (simp; omega) | simp) _) | (refine Below.setCell ?_ (by first | omega | (simp; omega) | simp) _) | (refine Below.trans ?_ (Below.mono (by assumption) (by first | omega | (simp; omega) | simp))))⟩
  · go_enter Tryd.func38, Tryd.ntmps38
    go_wp2_with fail
    exact bodyPost_ret (v := RT 105 true 0 true) (by simp [results, Tryd.results38, go_sem, *]) rfl ⟨by simp [*], by repeat (first | exact Below.refl _ _ | with_reducible assumption | (refine Below.alloc ?_ (by first | omega | (simp; omega) | simp) _) | (refine Below.setCell ?_ (by first | omega | (simp; omega) | simp) _) | (refine Below.trans ?_ (Below.mono (by assumption) (by first | omega | (simp; omega) | simp))))⟩
set_option maxHeartbeats 4000000 in
theorem sum_wi (ma mb : Bool) (sa : Int) (w : World) : Calls Tryd.prog 38 #[RV 119 ma sa, RV 105 mb 0] w (Ret (RT 105 mb 0 true) w) := by
  cases ma <;> cases mb
  · go_enter Tryd.func38, Tryd.ntmps38
    go_wp2_with fail
    exact bodyPost_ret (v := RT 105 false 0 true) (by simp [results, Tryd.results38, go_sem, *]) rfl ⟨by simp [*], by repeat (first | exact Below.refl _ _ | with_reducible assumption | (refine Below.alloc ?_ (by first | omega | (simp; omega) | simp) _) | (refine Below.setCell ?_ (by first | omega | (simp; omega) | simp) _) | (refine Below.trans ?_ (Below.mono (by assumption) (by first | omega | (simp; omega) | simp))))⟩
  · go_enter Tryd.func38, Tryd.ntmps38
    go_wp2_with fail
    exact bodyPost_ret (v := RT 105 true 0 true) (by simp [results, Tryd.results38, go_sem, *]) rfl ⟨by simp [*], by repeat (first | exact Below.refl _ _ | with_reducible assumption | (refine Below.alloc ?_ (by first | omega | (simp; omega) | simp) _) | (refine Below.setCell ?_ (by first | omega | (simp; omega) | simp) _) | (refine Below.trans ?_ (Below.mono (by assumption) (by first | omega | (simp; omega) | simp))))⟩
  · go_enter Tryd.func38, Tryd.ntmps38
    go_wp2_with fail
    exact bodyPost_ret (v := RT 105 false 0 true) (by simp [results, Tryd.results38, go_sem, *]) rfl ⟨by simp [*], by repeat (first | exact Below.refl _ _ | with_reducible assumption | (refine Below.alloc ?_ (by first | omega | (simp; omega) | simp) _) | (refine Below.setCell ?_ (by first | omega | (simp; omega) | simp) _) | (refine Below.trans ?_ (Below.mono (by assumption) (by first | omega | (simp; omega) | simp))))⟩
  · go_enter Tryd.func38, Tryd.ntmps38
    go_wp2_with fail
    exact bodyPost_ret (v := RT 105 true 0 true) (by simp [results, Tryd.results38, go_sem, *]) rfl ⟨by simp [*], by repeat (first | exact Below.refl _ _ | with_reducible assumption | (refine Below.alloc ?_ (by first | omega | (simp; omega) | simp) _) | (refine Below.setCell ?_ (by first | omega | (simp; omega) | simp) _) | (refine Below.trans ?_ (Below.mono (by assumption) (by first | omega | (simp; omega) | simp))))⟩
set_option maxHeartbeats 4000000 in
theorem sum_same (m : Bool) (sa sb : Int) (w : World) (h1 : 0 ≤ sa) (h2 : sa ≤ 9007199254740991) (h3 : 0 ≤ sb) (h4 : sb ≤ 9007199254740991) :
    Calls Tryd.prog 38 #[RV 119 m sa, RV 119 m sb] w (Ret (RT 119 m (sa + sb) (decide (sa + sb ≤ 9007199254740991))) w) := by
  have q : (m == m) = true := by simp
  go_enter Tryd.func38, Tryd.ntmps38
  go_wp2_with fail
  go_region_held3 (fun W => W.cell? ⟨w.heap.size, 0, none⟩ = some (.int .u8 119) ∧ W.cell? ⟨w.heap.size, 1, none⟩ = some (.bool m) ∧ W.cell? ⟨w.heap.size, 2, none⟩ = some (.int .i64 (sa + sb))) (go_keep) (fail)
  go_wp2_with fail
  exact bodyPost_ret (v := RT 119 m (sa + sb) (decide (sa + sb ≤ 9007199254740991))) (by simp [results, Tryd.results38, go_sem]) rfl ⟨rfl, by first | exact (((((Below.refl _ _).alloc (Nat.le_refl _) _).alloc (by simp) _).alloc (by simp; omega) _)).drew | exact ((((Below.refl _ _).drew.alloc (Nat.le_refl _) _).alloc (by simp) _).alloc (by simp; omega) _)⟩

set_option maxHeartbeats 4000000 in
theorem sum_lt (ma mb : Bool) (sa sb : Int) (w : World) (hm : (ma == mb) = false) (h1 : 0 ≤ sa) (h2 : sa ≤ 9007199254740991) (h3 : 0 ≤ sb) (h4 : sb ≤ 9007199254740991) (h : sa < sb) :
    Calls Tryd.prog 38 #[RV 119 ma sa, RV 119 mb sb] w (Ret (RT 119 mb (sb - sa) true) w) := by
  have t : decide (sa < sb) = true := decide_eq_true h
  have t2 : (sb - sa == 0) = false := by simp; omega
  go_enter Tryd.func38, Tryd.ntmps38
  go_wp2_with fail
  exact bodyPost_ret (v := RT 119 mb (sb - sa) true) (by simp [results, Tryd.results38, go_sem, *]) rfl ⟨by simp [*], by repeat (first | exact Below.refl _ _ | with_reducible assumption | (refine Below.alloc ?_ (by first | omega | (simp; omega) | simp) _) | (refine Below.setCell ?_ (by first | omega | (simp; omega) | simp) _) | (refine Below.trans ?_ (Below.mono (by assumption) (by first | omega | (simp; omega) | simp))))⟩
set_option maxHeartbeats 4000000 in
theorem sum_gt (ma mb : Bool) (sa sb : Int) (w : World) (hm : (ma == mb) = false) (h1 : 0 ≤ sa) (h2 : sa ≤ 9007199254740991) (h3 : 0 ≤ sb) (h4 : sb ≤ 9007199254740991) (h : sb < sa) :
    Calls Tryd.prog 38 #[RV 119 ma sa, RV 119 mb sb] w (Ret (RT 119 ma (sa - sb) true) w) := by
  have t : decide (sa < sb) = false := decide_eq_false (by omega)
  have t2 : (sa - sb == 0) = false := by simp; omega
  go_enter Tryd.func38, Tryd.ntmps38
  go_wp2_with fail
  exact bodyPost_ret (v := RT 119 ma (sa - sb) true) (by simp [results, Tryd.results38, go_sem, *]) rfl ⟨by simp [*], by repeat (first | exact Below.refl _ _ | with_reducible assumption | (refine Below.alloc ?_ (by first | omega | (simp; omega) | simp) _) | (refine Below.setCell ?_ (by first | omega | (simp; omega) | simp) _) | (refine Below.trans ?_ (Below.mono (by assumption) (by first | omega | (simp; omega) | simp))))⟩
set_option maxHeartbeats 4000000 in
theorem sum_eq (ma mb : Bool) (s : Int) (w : World) (hm : (ma == mb) = false) (h1 : 0 ≤ s) (h2 : s ≤ 9007199254740991) :
    Calls Tryd.prog 38 #[RV 119 ma s, RV 119 mb s] w (Ret (RT 119 false 0 true) w) := by
  have t : decide (s < s) = false := decide_eq_false (by omega)
  go_enter Tryd.func38, Tryd.ntmps38
  go_wp2_with fail
  exact bodyPost_ret (v := RT 119 false 0 true) (by simp [results, Tryd.results38, go_sem, *]) rfl ⟨by simp [*], by repeat (first | exact Below.refl _ _ | with_reducible assumption | (refine Below.alloc ?_ (by first | omega | (simp; omega) | simp) _) | (refine Below.setCell ?_ (by first | omega | (simp; omega) | simp) _) | (refine Below.trans ?_ (Below.mono (by assumption) (by first | omega | (simp; omega) | simp))))⟩

end Go.Proofs.YtdacpebijljckaaDoor
