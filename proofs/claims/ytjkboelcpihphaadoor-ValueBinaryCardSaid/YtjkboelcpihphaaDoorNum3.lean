/- Num3: contracts and plain laws, several texts in one. -/
import Derived.Test.YtjkboelcpihphaaDoorNum2
import Derived.BigRegion
import Derived.ChangeAlike
/- Contracts of the reference's Val, sum, product, quotient, Do and Rem, by the kinds of numbers. -/
set_option linter.unusedVariables false
set_option linter.unusedSimpArgs false
namespace Go.Proofs.YtjkboelcpihphaaDoor
open Go.RowKit

abbrev RT (d : Int) (m : Bool) (s : Int) (ok : Bool) : Value := .tuple #[RV d m s, .bool ok]
def valR (d : Int) (m : Bool) (s : Int) : Int × Int := if d == 110 then (4, 0) else if d == 105 then (5, if m = true then -1 else 1) else if s == 0 && m then (6, 0) else (3, if m = true then -s else s)
abbrev VV (d : Int) (m : Bool) (s : Int) : Value := VN (valR d m s).1 (valR d m s).2

set_option maxHeartbeats 4000000 in
theorem val_any (d : Int) (m : Bool) (s : Int) (w : World) (h1 : 0 ≤ s) (h2 : s ≤ 9007199254740992) : Calls Tryd.prog 66 #[RV d m s] w (Ret (VV d m s) w) := by
  cases m
  · go_enter Tryd.func66, Tryd.ntmps66
    go_wp2_with fail
    · exact bodyPost_ret (v := VN 4 0) (by simp [results, Tryd.results66, go_sem, *]) rfl ⟨by simp [valR, *], by repeat (first | exact Below.refl _ _ | with_reducible assumption | (refine Below.alloc ?_ (by first | omega | (simp; omega) | simp) _) | (refine Below.setCell ?_ (by first | omega | (simp; omega) | simp) _) | (refine Below.trans ?_ (Below.mono (by assumption) (by first | omega | (simp; omega) | simp))))⟩
    · exact bodyPost_ret (v := VN 5 1) (by simp [results, Tryd.results66, go_sem, *]) rfl ⟨by simp [valR, *], by repeat (first | exact Below.refl _ _ | with_reducible assumption | (refine Below.alloc ?_ (by first | omega | (simp; omega) | simp) _) | (refine Below.setCell ?_ (by first | omega | (simp; omega) | simp) _) | (refine Below.trans ?_ (Below.mono (by assumption) (by first | omega | (simp; omega) | simp))))⟩
    · exact bodyPost_ret (v := VN 3 s) (by simp [results, Tryd.results66, go_sem, *]) rfl ⟨by simp [valR, *], by repeat (first | exact Below.refl _ _ | with_reducible assumption | (refine Below.alloc ?_ (by first | omega | (simp; omega) | simp) _) | (refine Below.setCell ?_ (by first | omega | (simp; omega) | simp) _) | (refine Below.trans ?_ (Below.mono (by assumption) (by first | omega | (simp; omega) | simp))))⟩
    · exact bodyPost_ret (v := VN 3 s) (by simp [results, Tryd.results66, go_sem, *]) rfl ⟨by simp [valR, *], by repeat (first | exact Below.refl _ _ | with_reducible assumption | (refine Below.alloc ?_ (by first | omega | (simp; omega) | simp) _) | (refine Below.setCell ?_ (by first | omega | (simp; omega) | simp) _) | (refine Below.trans ?_ (Below.mono (by assumption) (by first | omega | (simp; omega) | simp))))⟩
  · go_enter Tryd.func66, Tryd.ntmps66
    go_wp2_with fail
    · exact bodyPost_ret (v := VN 4 0) (by simp [results, Tryd.results66, go_sem, *]) rfl ⟨by simp [valR, *], by repeat (first | exact Below.refl _ _ | with_reducible assumption | (refine Below.alloc ?_ (by first | omega | (simp; omega) | simp) _) | (refine Below.setCell ?_ (by first | omega | (simp; omega) | simp) _) | (refine Below.trans ?_ (Below.mono (by assumption) (by first | omega | (simp; omega) | simp))))⟩
    · exact bodyPost_ret (v := VN 5 (-1)) (by simp [results, Tryd.results66, go_sem, *]) rfl ⟨by simp [valR, *], by repeat (first | exact Below.refl _ _ | with_reducible assumption | (refine Below.alloc ?_ (by first | omega | (simp; omega) | simp) _) | (refine Below.setCell ?_ (by first | omega | (simp; omega) | simp) _) | (refine Below.trans ?_ (Below.mono (by assumption) (by first | omega | (simp; omega) | simp))))⟩
    · exact bodyPost_ret (v := VN 6 0) (by simp [results, Tryd.results66, go_sem, *]) rfl ⟨by simp [valR, *], by repeat (first | exact Below.refl _ _ | with_reducible assumption | (refine Below.alloc ?_ (by first | omega | (simp; omega) | simp) _) | (refine Below.setCell ?_ (by first | omega | (simp; omega) | simp) _) | (refine Below.trans ?_ (Below.mono (by assumption) (by first | omega | (simp; omega) | simp))))⟩
    · exact bodyPost_ret (v := VN 3 (-s)) (by simp [results, Tryd.results66, go_sem, *]) rfl ⟨by simp [valR, *], by repeat (first | exact Below.refl _ _ | with_reducible assumption | (refine Below.alloc ?_ (by first | omega | (simp; omega) | simp) _) | (refine Below.setCell ?_ (by first | omega | (simp; omega) | simp) _) | (refine Below.trans ?_ (Below.mono (by assumption) (by first | omega | (simp; omega) | simp))))⟩

set_option maxHeartbeats 4000000 in
theorem sum_ii (ma mb : Bool)  (w : World) : Calls Tryd.prog 81 #[RV 105 ma 0, RV 105 mb 0] w (Ret (if ma == mb then RT 105 ma 0 true else RT 110 false 0 true) w) := by
  cases ma <;> cases mb
  · go_enter Tryd.func81, Tryd.ntmps81
    go_wp2_with fail
    exact bodyPost_ret (v := RT 105 false 0 true) (by simp [results, Tryd.results81, go_sem, *]) rfl ⟨by simp [*], by repeat (first | exact Below.refl _ _ | with_reducible assumption | (refine Below.alloc ?_ (by first | omega | (simp; omega) | simp) _) | (refine Below.setCell ?_ (by first | omega | (simp; omega) | simp) _) | (refine Below.trans ?_ (Below.mono (by assumption) (by first | omega | (simp; omega) | simp))))⟩
  · go_enter Tryd.func81, Tryd.ntmps81
    go_wp2_with fail
    exact bodyPost_ret (v := RT 110 false 0 true) (by simp [results, Tryd.results81, go_sem, *]) rfl ⟨by simp [*], by repeat (first | exact Below.refl _ _ | with_reducible assumption | (refine Below.alloc ?_ (by first | omega | (simp; omega) | simp) _) | (refine Below.setCell ?_ (by first | omega | (simp; omega) | simp) _) | (refine Below.trans ?_ (Below.mono (by assumption) (by first | omega | (simp; omega) | simp))))⟩
  · go_enter Tryd.func81, Tryd.ntmps81
    go_wp2_with fail
    exact bodyPost_ret (v := RT 110 false 0 true) (by simp [results, Tryd.results81, go_sem, *]) rfl ⟨by simp [*], by repeat (first | exact Below.refl _ _ | with_reducible assumption | (refine Below.alloc ?_ (by first | omega | (simp; omega) | simp) _) | (refine Below.setCell ?_ (by first | omega | (simp; omega) | simp) _) | (refine Below.trans ?_ (Below.mono (by assumption) (by first | omega | (simp; omega) | simp))))⟩
  · go_enter Tryd.func81, Tryd.ntmps81
    go_wp2_with fail
    exact bodyPost_ret (v := RT 105 true 0 true) (by simp [results, Tryd.results81, go_sem, *]) rfl ⟨by simp [*], by repeat (first | exact Below.refl _ _ | with_reducible assumption | (refine Below.alloc ?_ (by first | omega | (simp; omega) | simp) _) | (refine Below.setCell ?_ (by first | omega | (simp; omega) | simp) _) | (refine Below.trans ?_ (Below.mono (by assumption) (by first | omega | (simp; omega) | simp))))⟩
set_option maxHeartbeats 4000000 in
theorem sum_iw (ma mb : Bool) (sb : Int) (w : World) : Calls Tryd.prog 81 #[RV 105 ma 0, RV 119 mb sb] w (Ret (RT 105 ma 0 true) w) := by
  cases ma <;> cases mb
  · go_enter Tryd.func81, Tryd.ntmps81
    go_wp2_with fail
    exact bodyPost_ret (v := RT 105 false 0 true) (by simp [results, Tryd.results81, go_sem, *]) rfl ⟨by simp [*], by repeat (first | exact Below.refl _ _ | with_reducible assumption | (refine Below.alloc ?_ (by first | omega | (simp; omega) | simp) _) | (refine Below.setCell ?_ (by first | omega | (simp; omega) | simp) _) | (refine Below.trans ?_ (Below.mono (by assumption) (by first | omega | (simp; omega) | simp))))⟩
  · go_enter Tryd.func81, Tryd.ntmps81
    go_wp2_with fail
    exact bodyPost_ret (v := RT 105 false 0 true) (by simp [results, Tryd.results81, go_sem, *]) rfl ⟨by simp [*], by repeat (first | exact Below.refl _ _ | with_reducible assumption | (refine Below.alloc ?_ (by first | omega | (simp; omega) | simp) _) | (refine Below.setCell ?_ (by first | omega | (simp; omega) | simp) _) | (refine Below.trans ?_ (Below.mono (by assumption) (by first | omega | (simp; omega) | simp))))⟩
  · go_enter Tryd.func81, Tryd.ntmps81
    go_wp2_with fail
    exact bodyPost_ret (v := RT 105 true 0 true) (by simp [results, Tryd.results81, go_sem, *]) rfl ⟨by simp [*], by repeat (first | exact Below.refl _ _ | with_reducible assumption | (refine Below.alloc ?_ (by first | omega | (simp; omega) | simp) _) | (refine Below.setCell ?_ (by first | omega | (simp; omega) | simp) _) | (refine Below.trans ?_ (Below.mono (by assumption) (by first | omega | (simp; omega) | simp))))⟩
  · go_enter Tryd.func81, Tryd.ntmps81
    go_wp2_with fail
    exact bodyPost_ret (v := RT 105 true 0 true) (by simp [results, Tryd.results81, go_sem, *]) rfl ⟨by simp [*], by repeat (first | exact Below.refl _ _ | with_reducible assumption | (refine Below.alloc ?_ (by first | omega | (simp; omega) | simp) _) | (refine Below.setCell ?_ (by first | omega | (simp; omega) | simp) _) | (refine Below.trans ?_ (Below.mono (by assumption) (by first | omega | (simp; omega) | simp))))⟩
set_option maxHeartbeats 4000000 in
theorem sum_wi (ma mb : Bool) (sa : Int) (w : World) : Calls Tryd.prog 81 #[RV 119 ma sa, RV 105 mb 0] w (Ret (RT 105 mb 0 true) w) := by
  cases ma <;> cases mb
  · go_enter Tryd.func81, Tryd.ntmps81
    go_wp2_with fail
    exact bodyPost_ret (v := RT 105 false 0 true) (by simp [results, Tryd.results81, go_sem, *]) rfl ⟨by simp [*], by repeat (first | exact Below.refl _ _ | with_reducible assumption | (refine Below.alloc ?_ (by first | omega | (simp; omega) | simp) _) | (refine Below.setCell ?_ (by first | omega | (simp; omega) | simp) _) | (refine Below.trans ?_ (Below.mono (by assumption) (by first | omega | (simp; omega) | simp))))⟩
  · go_enter Tryd.func81, Tryd.ntmps81
    go_wp2_with fail
    exact bodyPost_ret (v := RT 105 true 0 true) (by simp [results, Tryd.results81, go_sem, *]) rfl ⟨by simp [*], by repeat (first | exact Below.refl _ _ | with_reducible assumption | (refine Below.alloc ?_ (by first | omega | (simp; omega) | simp) _) | (refine Below.setCell ?_ (by first | omega | (simp; omega) | simp) _) | (refine Below.trans ?_ (Below.mono (by assumption) (by first | omega | (simp; omega) | simp))))⟩
  · go_enter Tryd.func81, Tryd.ntmps81
    go_wp2_with fail
    exact bodyPost_ret (v := RT 105 false 0 true) (by simp [results, Tryd.results81, go_sem, *]) rfl ⟨by simp [*], by repeat (first | exact Below.refl _ _ | with_reducible assumption | (refine Below.alloc ?_ (by first | omega | (simp; omega) | simp) _) | (refine Below.setCell ?_ (by first | omega | (simp; omega) | simp) _) | (refine Below.trans ?_ (Below.mono (by assumption) (by first | omega | (simp; omega) | simp))))⟩
  · go_enter Tryd.func81, Tryd.ntmps81
    go_wp2_with fail
    exact bodyPost_ret (v := RT 105 true 0 true) (by simp [results, Tryd.results81, go_sem, *]) rfl ⟨by simp [*], by repeat (first | exact Below.refl _ _ | with_reducible assumption | (refine Below.alloc ?_ (by first | omega | (simp; omega) | simp) _) | (refine Below.setCell ?_ (by first | omega | (simp; omega) | simp) _) | (refine Below.trans ?_ (Below.mono (by assumption) (by first | omega | (simp; omega) | simp))))⟩
set_option maxHeartbeats 4000000 in
theorem sum_same (m : Bool) (sa sb : Int) (w : World) (h1 : 0 ≤ sa) (h2 : sa ≤ 9007199254740991) (h3 : 0 ≤ sb) (h4 : sb ≤ 9007199254740991) :
    Calls Tryd.prog 81 #[RV 119 m sa, RV 119 m sb] w (Ret (RT 119 m (sa + sb) (decide (sa + sb ≤ 9007199254740991))) w) := by
  have q : (m == m) = true := by simp
  go_enter Tryd.func81, Tryd.ntmps81
  go_wp2_with fail
  go_region_held3 (fun W => W.cell? ⟨w.heap.size, 0, none⟩ = some (.int .u8 119) ∧ W.cell? ⟨w.heap.size, 1, none⟩ = some (.bool m) ∧ W.cell? ⟨w.heap.size, 2, none⟩ = some (.int .i64 (sa + sb))) (go_keep) (fail)
  go_wp2_with fail
  exact bodyPost_ret (v := RT 119 m (sa + sb) (decide (sa + sb ≤ 9007199254740991))) (by simp [results, Tryd.results81, go_sem]) rfl ⟨rfl, by first | exact (((((Below.refl _ _).alloc (Nat.le_refl _) _).alloc (by simp) _).alloc (by simp; omega) _)).drew | exact ((((Below.refl _ _).drew.alloc (Nat.le_refl _) _).alloc (by simp) _).alloc (by simp; omega) _)⟩

set_option maxHeartbeats 4000000 in
theorem sum_lt (ma mb : Bool) (sa sb : Int) (w : World) (hm : (ma == mb) = false) (h1 : 0 ≤ sa) (h2 : sa ≤ 9007199254740991) (h3 : 0 ≤ sb) (h4 : sb ≤ 9007199254740991) (h : sa < sb) :
    Calls Tryd.prog 81 #[RV 119 ma sa, RV 119 mb sb] w (Ret (RT 119 mb (sb - sa) true) w) := by
  have t : decide (sa < sb) = true := decide_eq_true h
  have t2 : (sb - sa == 0) = false := by simp; omega
  go_enter Tryd.func81, Tryd.ntmps81
  go_wp2_with fail
  exact bodyPost_ret (v := RT 119 mb (sb - sa) true) (by simp [results, Tryd.results81, go_sem, *]) rfl ⟨by simp [*], by repeat (first | exact Below.refl _ _ | with_reducible assumption | (refine Below.alloc ?_ (by first | omega | (simp; omega) | simp) _) | (refine Below.setCell ?_ (by first | omega | (simp; omega) | simp) _) | (refine Below.trans ?_ (Below.mono (by assumption) (by first | omega | (simp; omega) | simp))))⟩
set_option maxHeartbeats 4000000 in
theorem sum_gt (ma mb : Bool) (sa sb : Int) (w : World) (hm : (ma == mb) = false) (h1 : 0 ≤ sa) (h2 : sa ≤ 9007199254740991) (h3 : 0 ≤ sb) (h4 : sb ≤ 9007199254740991) (h : sb < sa) :
    Calls Tryd.prog 81 #[RV 119 ma sa, RV 119 mb sb] w (Ret (RT 119 ma (sa - sb) true) w) := by
  have t : decide (sa < sb) = false := decide_eq_false (by omega)
  have t2 : (sa - sb == 0) = false := by simp; omega
  go_enter Tryd.func81, Tryd.ntmps81
  go_wp2_with fail
  exact bodyPost_ret (v := RT 119 ma (sa - sb) true) (by simp [results, Tryd.results81, go_sem, *]) rfl ⟨by simp [*], by repeat (first | exact Below.refl _ _ | with_reducible assumption | (refine Below.alloc ?_ (by first | omega | (simp; omega) | simp) _) | (refine Below.setCell ?_ (by first | omega | (simp; omega) | simp) _) | (refine Below.trans ?_ (Below.mono (by assumption) (by first | omega | (simp; omega) | simp))))⟩
set_option maxHeartbeats 4000000 in
theorem sum_eq (ma mb : Bool) (s : Int) (w : World) (hm : (ma == mb) = false) (h1 : 0 ≤ s) (h2 : s ≤ 9007199254740991) :
    Calls Tryd.prog 81 #[RV 119 ma s, RV 119 mb s] w (Ret (RT 119 false 0 true) w) := by
  have t : decide (s < s) = false := decide_eq_false (by omega)
  go_enter Tryd.func81, Tryd.ntmps81
  go_wp2_with fail
  exact bodyPost_ret (v := RT 119 false 0 true) (by simp [results, Tryd.results81, go_sem, *]) rfl ⟨by simp [*], by repeat (first | exact Below.refl _ _ | with_reducible assumption | (refine Below.alloc ?_ (by first | omega | (simp; omega) | simp) _) | (refine Below.setCell ?_ (by first | omega | (simp; omega) | simp) _) | (refine Below.trans ?_ (Below.mono (by assumption) (by first | omega | (simp; omega) | simp))))⟩

end Go.Proofs.YtjkboelcpihphaaDoor

/- Contracts of the reference's product, quotient and Rem. -/
set_option linter.unusedVariables false
set_option linter.unusedSimpArgs false
namespace Go.Proofs.YtjkboelcpihphaaDoor
open Go.RowKit

set_option maxHeartbeats 4000000 in
theorem prod_ii (ma mb : Bool)  (w : World) : Calls Tryd.prog 82 #[RV 105 ma 0, RV 105 mb 0] w (Ret (RT 105 (ma != mb) 0 true) w) := by
  cases ma <;> cases mb
  · go_enter Tryd.func82, Tryd.ntmps82
    go_wp2_with fail
    exact bodyPost_ret (v := RT 105 false 0 true) (by simp [results, Tryd.results82, go_sem, *]) rfl ⟨by simp [*], by repeat (first | exact Below.refl _ _ | with_reducible assumption | (refine Below.alloc ?_ (by first | omega | (simp; omega) | simp) _) | (refine Below.setCell ?_ (by first | omega | (simp; omega) | simp) _) | (refine Below.trans ?_ (Below.mono (by assumption) (by first | omega | (simp; omega) | simp))))⟩
  · go_enter Tryd.func82, Tryd.ntmps82
    go_wp2_with fail
    exact bodyPost_ret (v := RT 105 true 0 true) (by simp [results, Tryd.results82, go_sem, *]) rfl ⟨by simp [*], by repeat (first | exact Below.refl _ _ | with_reducible assumption | (refine Below.alloc ?_ (by first | omega | (simp; omega) | simp) _) | (refine Below.setCell ?_ (by first | omega | (simp; omega) | simp) _) | (refine Below.trans ?_ (Below.mono (by assumption) (by first | omega | (simp; omega) | simp))))⟩
  · go_enter Tryd.func82, Tryd.ntmps82
    go_wp2_with fail
    exact bodyPost_ret (v := RT 105 true 0 true) (by simp [results, Tryd.results82, go_sem, *]) rfl ⟨by simp [*], by repeat (first | exact Below.refl _ _ | with_reducible assumption | (refine Below.alloc ?_ (by first | omega | (simp; omega) | simp) _) | (refine Below.setCell ?_ (by first | omega | (simp; omega) | simp) _) | (refine Below.trans ?_ (Below.mono (by assumption) (by first | omega | (simp; omega) | simp))))⟩
  · go_enter Tryd.func82, Tryd.ntmps82
    go_wp2_with fail
    exact bodyPost_ret (v := RT 105 false 0 true) (by simp [results, Tryd.results82, go_sem, *]) rfl ⟨by simp [*], by repeat (first | exact Below.refl _ _ | with_reducible assumption | (refine Below.alloc ?_ (by first | omega | (simp; omega) | simp) _) | (refine Below.setCell ?_ (by first | omega | (simp; omega) | simp) _) | (refine Below.trans ?_ (Below.mono (by assumption) (by first | omega | (simp; omega) | simp))))⟩
set_option maxHeartbeats 4000000 in
theorem prod_iw (ma mb : Bool) (sb : Int) (w : World) : Calls Tryd.prog 82 #[RV 105 ma 0, RV 119 mb sb] w (Ret (if sb == 0 then RT 110 false 0 true else RT 105 (ma != mb) 0 true) w) := by
  cases q : (sb == 0) <;> cases ma <;> cases mb
  · go_enter Tryd.func82, Tryd.ntmps82
    go_wp2_with fail
    exact bodyPost_ret (v := RT 105 false 0 true) (by simp [results, Tryd.results82, go_sem, *]) rfl ⟨by simp [*], by repeat (first | exact Below.refl _ _ | with_reducible assumption | (refine Below.alloc ?_ (by first | omega | (simp; omega) | simp) _) | (refine Below.setCell ?_ (by first | omega | (simp; omega) | simp) _) | (refine Below.trans ?_ (Below.mono (by assumption) (by first | omega | (simp; omega) | simp))))⟩
  · go_enter Tryd.func82, Tryd.ntmps82
    go_wp2_with fail
    exact bodyPost_ret (v := RT 105 true 0 true) (by simp [results, Tryd.results82, go_sem, *]) rfl ⟨by simp [*], by repeat (first | exact Below.refl _ _ | with_reducible assumption | (refine Below.alloc ?_ (by first | omega | (simp; omega) | simp) _) | (refine Below.setCell ?_ (by first | omega | (simp; omega) | simp) _) | (refine Below.trans ?_ (Below.mono (by assumption) (by first | omega | (simp; omega) | simp))))⟩
  · go_enter Tryd.func82, Tryd.ntmps82
    go_wp2_with fail
    exact bodyPost_ret (v := RT 105 true 0 true) (by simp [results, Tryd.results82, go_sem, *]) rfl ⟨by simp [*], by repeat (first | exact Below.refl _ _ | with_reducible assumption | (refine Below.alloc ?_ (by first | omega | (simp; omega) | simp) _) | (refine Below.setCell ?_ (by first | omega | (simp; omega) | simp) _) | (refine Below.trans ?_ (Below.mono (by assumption) (by first | omega | (simp; omega) | simp))))⟩
  · go_enter Tryd.func82, Tryd.ntmps82
    go_wp2_with fail
    exact bodyPost_ret (v := RT 105 false 0 true) (by simp [results, Tryd.results82, go_sem, *]) rfl ⟨by simp [*], by repeat (first | exact Below.refl _ _ | with_reducible assumption | (refine Below.alloc ?_ (by first | omega | (simp; omega) | simp) _) | (refine Below.setCell ?_ (by first | omega | (simp; omega) | simp) _) | (refine Below.trans ?_ (Below.mono (by assumption) (by first | omega | (simp; omega) | simp))))⟩
  · go_enter Tryd.func82, Tryd.ntmps82
    go_wp2_with fail
    exact bodyPost_ret (v := RT 110 false 0 true) (by simp [results, Tryd.results82, go_sem, *]) rfl ⟨by simp [*], by repeat (first | exact Below.refl _ _ | with_reducible assumption | (refine Below.alloc ?_ (by first | omega | (simp; omega) | simp) _) | (refine Below.setCell ?_ (by first | omega | (simp; omega) | simp) _) | (refine Below.trans ?_ (Below.mono (by assumption) (by first | omega | (simp; omega) | simp))))⟩
  · go_enter Tryd.func82, Tryd.ntmps82
    go_wp2_with fail
    exact bodyPost_ret (v := RT 110 false 0 true) (by simp [results, Tryd.results82, go_sem, *]) rfl ⟨by simp [*], by repeat (first | exact Below.refl _ _ | with_reducible assumption | (refine Below.alloc ?_ (by first | omega | (simp; omega) | simp) _) | (refine Below.setCell ?_ (by first | omega | (simp; omega) | simp) _) | (refine Below.trans ?_ (Below.mono (by assumption) (by first | omega | (simp; omega) | simp))))⟩
  · go_enter Tryd.func82, Tryd.ntmps82
    go_wp2_with fail
    exact bodyPost_ret (v := RT 110 false 0 true) (by simp [results, Tryd.results82, go_sem, *]) rfl ⟨by simp [*], by repeat (first | exact Below.refl _ _ | with_reducible assumption | (refine Below.alloc ?_ (by first | omega | (simp; omega) | simp) _) | (refine Below.setCell ?_ (by first | omega | (simp; omega) | simp) _) | (refine Below.trans ?_ (Below.mono (by assumption) (by first | omega | (simp; omega) | simp))))⟩
  · go_enter Tryd.func82, Tryd.ntmps82
    go_wp2_with fail
    exact bodyPost_ret (v := RT 110 false 0 true) (by simp [results, Tryd.results82, go_sem, *]) rfl ⟨by simp [*], by repeat (first | exact Below.refl _ _ | with_reducible assumption | (refine Below.alloc ?_ (by first | omega | (simp; omega) | simp) _) | (refine Below.setCell ?_ (by first | omega | (simp; omega) | simp) _) | (refine Below.trans ?_ (Below.mono (by assumption) (by first | omega | (simp; omega) | simp))))⟩
set_option maxHeartbeats 4000000 in
theorem prod_wi (ma mb : Bool) (sa : Int) (w : World) : Calls Tryd.prog 82 #[RV 119 ma sa, RV 105 mb 0] w (Ret (if sa == 0 then RT 110 false 0 true else RT 105 (ma != mb) 0 true) w) := by
  cases q : (sa == 0) <;> cases ma <;> cases mb
  · go_enter Tryd.func82, Tryd.ntmps82
    go_wp2_with fail
    exact bodyPost_ret (v := RT 105 false 0 true) (by simp [results, Tryd.results82, go_sem, *]) rfl ⟨by simp [*], by repeat (first | exact Below.refl _ _ | with_reducible assumption | (refine Below.alloc ?_ (by first | omega | (simp; omega) | simp) _) | (refine Below.setCell ?_ (by first | omega | (simp; omega) | simp) _) | (refine Below.trans ?_ (Below.mono (by assumption) (by first | omega | (simp; omega) | simp))))⟩
  · go_enter Tryd.func82, Tryd.ntmps82
    go_wp2_with fail
    exact bodyPost_ret (v := RT 105 true 0 true) (by simp [results, Tryd.results82, go_sem, *]) rfl ⟨by simp [*], by repeat (first | exact Below.refl _ _ | with_reducible assumption | (refine Below.alloc ?_ (by first | omega | (simp; omega) | simp) _) | (refine Below.setCell ?_ (by first | omega | (simp; omega) | simp) _) | (refine Below.trans ?_ (Below.mono (by assumption) (by first | omega | (simp; omega) | simp))))⟩
  · go_enter Tryd.func82, Tryd.ntmps82
    go_wp2_with fail
    exact bodyPost_ret (v := RT 105 true 0 true) (by simp [results, Tryd.results82, go_sem, *]) rfl ⟨by simp [*], by repeat (first | exact Below.refl _ _ | with_reducible assumption | (refine Below.alloc ?_ (by first | omega | (simp; omega) | simp) _) | (refine Below.setCell ?_ (by first | omega | (simp; omega) | simp) _) | (refine Below.trans ?_ (Below.mono (by assumption) (by first | omega | (simp; omega) | simp))))⟩
  · go_enter Tryd.func82, Tryd.ntmps82
    go_wp2_with fail
    exact bodyPost_ret (v := RT 105 false 0 true) (by simp [results, Tryd.results82, go_sem, *]) rfl ⟨by simp [*], by repeat (first | exact Below.refl _ _ | with_reducible assumption | (refine Below.alloc ?_ (by first | omega | (simp; omega) | simp) _) | (refine Below.setCell ?_ (by first | omega | (simp; omega) | simp) _) | (refine Below.trans ?_ (Below.mono (by assumption) (by first | omega | (simp; omega) | simp))))⟩
  · go_enter Tryd.func82, Tryd.ntmps82
    go_wp2_with fail
    exact bodyPost_ret (v := RT 110 false 0 true) (by simp [results, Tryd.results82, go_sem, *]) rfl ⟨by simp [*], by repeat (first | exact Below.refl _ _ | with_reducible assumption | (refine Below.alloc ?_ (by first | omega | (simp; omega) | simp) _) | (refine Below.setCell ?_ (by first | omega | (simp; omega) | simp) _) | (refine Below.trans ?_ (Below.mono (by assumption) (by first | omega | (simp; omega) | simp))))⟩
  · go_enter Tryd.func82, Tryd.ntmps82
    go_wp2_with fail
    exact bodyPost_ret (v := RT 110 false 0 true) (by simp [results, Tryd.results82, go_sem, *]) rfl ⟨by simp [*], by repeat (first | exact Below.refl _ _ | with_reducible assumption | (refine Below.alloc ?_ (by first | omega | (simp; omega) | simp) _) | (refine Below.setCell ?_ (by first | omega | (simp; omega) | simp) _) | (refine Below.trans ?_ (Below.mono (by assumption) (by first | omega | (simp; omega) | simp))))⟩
  · go_enter Tryd.func82, Tryd.ntmps82
    go_wp2_with fail
    exact bodyPost_ret (v := RT 110 false 0 true) (by simp [results, Tryd.results82, go_sem, *]) rfl ⟨by simp [*], by repeat (first | exact Below.refl _ _ | with_reducible assumption | (refine Below.alloc ?_ (by first | omega | (simp; omega) | simp) _) | (refine Below.setCell ?_ (by first | omega | (simp; omega) | simp) _) | (refine Below.trans ?_ (Below.mono (by assumption) (by first | omega | (simp; omega) | simp))))⟩
  · go_enter Tryd.func82, Tryd.ntmps82
    go_wp2_with fail
    exact bodyPost_ret (v := RT 110 false 0 true) (by simp [results, Tryd.results82, go_sem, *]) rfl ⟨by simp [*], by repeat (first | exact Below.refl _ _ | with_reducible assumption | (refine Below.alloc ?_ (by first | omega | (simp; omega) | simp) _) | (refine Below.setCell ?_ (by first | omega | (simp; omega) | simp) _) | (refine Below.trans ?_ (Below.mono (by assumption) (by first | omega | (simp; omega) | simp))))⟩
set_option maxHeartbeats 4000000 in
theorem quot_ii (ma mb : Bool)  (w : World) : Calls Tryd.prog 83 #[RV 105 ma 0, RV 105 mb 0] w (Ret (RT 110 false 0 true) w) := by
  cases ma <;> cases mb
  · go_enter Tryd.func83, Tryd.ntmps83
    go_wp2_with fail
    exact bodyPost_ret (v := RT 110 false 0 true) (by simp [results, Tryd.results83, go_sem, *]) rfl ⟨by simp [*], by repeat (first | exact Below.refl _ _ | with_reducible assumption | (refine Below.alloc ?_ (by first | omega | (simp; omega) | simp) _) | (refine Below.setCell ?_ (by first | omega | (simp; omega) | simp) _) | (refine Below.trans ?_ (Below.mono (by assumption) (by first | omega | (simp; omega) | simp))))⟩
  · go_enter Tryd.func83, Tryd.ntmps83
    go_wp2_with fail
    exact bodyPost_ret (v := RT 110 false 0 true) (by simp [results, Tryd.results83, go_sem, *]) rfl ⟨by simp [*], by repeat (first | exact Below.refl _ _ | with_reducible assumption | (refine Below.alloc ?_ (by first | omega | (simp; omega) | simp) _) | (refine Below.setCell ?_ (by first | omega | (simp; omega) | simp) _) | (refine Below.trans ?_ (Below.mono (by assumption) (by first | omega | (simp; omega) | simp))))⟩
  · go_enter Tryd.func83, Tryd.ntmps83
    go_wp2_with fail
    exact bodyPost_ret (v := RT 110 false 0 true) (by simp [results, Tryd.results83, go_sem, *]) rfl ⟨by simp [*], by repeat (first | exact Below.refl _ _ | with_reducible assumption | (refine Below.alloc ?_ (by first | omega | (simp; omega) | simp) _) | (refine Below.setCell ?_ (by first | omega | (simp; omega) | simp) _) | (refine Below.trans ?_ (Below.mono (by assumption) (by first | omega | (simp; omega) | simp))))⟩
  · go_enter Tryd.func83, Tryd.ntmps83
    go_wp2_with fail
    exact bodyPost_ret (v := RT 110 false 0 true) (by simp [results, Tryd.results83, go_sem, *]) rfl ⟨by simp [*], by repeat (first | exact Below.refl _ _ | with_reducible assumption | (refine Below.alloc ?_ (by first | omega | (simp; omega) | simp) _) | (refine Below.setCell ?_ (by first | omega | (simp; omega) | simp) _) | (refine Below.trans ?_ (Below.mono (by assumption) (by first | omega | (simp; omega) | simp))))⟩
set_option maxHeartbeats 4000000 in
theorem quot_iw (ma mb : Bool) (sb : Int) (w : World) : Calls Tryd.prog 83 #[RV 105 ma 0, RV 119 mb sb] w (Ret (RT 105 (ma != mb) 0 true) w) := by
  cases q : (sb == 0) <;> cases ma <;> cases mb
  · go_enter Tryd.func83, Tryd.ntmps83
    go_wp2_with fail
    exact bodyPost_ret (v := RT 105 false 0 true) (by simp [results, Tryd.results83, go_sem, *]) rfl ⟨by simp [*], by repeat (first | exact Below.refl _ _ | with_reducible assumption | (refine Below.alloc ?_ (by first | omega | (simp; omega) | simp) _) | (refine Below.setCell ?_ (by first | omega | (simp; omega) | simp) _) | (refine Below.trans ?_ (Below.mono (by assumption) (by first | omega | (simp; omega) | simp))))⟩
  · go_enter Tryd.func83, Tryd.ntmps83
    go_wp2_with fail
    exact bodyPost_ret (v := RT 105 true 0 true) (by simp [results, Tryd.results83, go_sem, *]) rfl ⟨by simp [*], by repeat (first | exact Below.refl _ _ | with_reducible assumption | (refine Below.alloc ?_ (by first | omega | (simp; omega) | simp) _) | (refine Below.setCell ?_ (by first | omega | (simp; omega) | simp) _) | (refine Below.trans ?_ (Below.mono (by assumption) (by first | omega | (simp; omega) | simp))))⟩
  · go_enter Tryd.func83, Tryd.ntmps83
    go_wp2_with fail
    exact bodyPost_ret (v := RT 105 true 0 true) (by simp [results, Tryd.results83, go_sem, *]) rfl ⟨by simp [*], by repeat (first | exact Below.refl _ _ | with_reducible assumption | (refine Below.alloc ?_ (by first | omega | (simp; omega) | simp) _) | (refine Below.setCell ?_ (by first | omega | (simp; omega) | simp) _) | (refine Below.trans ?_ (Below.mono (by assumption) (by first | omega | (simp; omega) | simp))))⟩
  · go_enter Tryd.func83, Tryd.ntmps83
    go_wp2_with fail
    exact bodyPost_ret (v := RT 105 false 0 true) (by simp [results, Tryd.results83, go_sem, *]) rfl ⟨by simp [*], by repeat (first | exact Below.refl _ _ | with_reducible assumption | (refine Below.alloc ?_ (by first | omega | (simp; omega) | simp) _) | (refine Below.setCell ?_ (by first | omega | (simp; omega) | simp) _) | (refine Below.trans ?_ (Below.mono (by assumption) (by first | omega | (simp; omega) | simp))))⟩
  · go_enter Tryd.func83, Tryd.ntmps83
    go_wp2_with fail
    exact bodyPost_ret (v := RT 105 false 0 true) (by simp [results, Tryd.results83, go_sem, *]) rfl ⟨by simp [*], by repeat (first | exact Below.refl _ _ | with_reducible assumption | (refine Below.alloc ?_ (by first | omega | (simp; omega) | simp) _) | (refine Below.setCell ?_ (by first | omega | (simp; omega) | simp) _) | (refine Below.trans ?_ (Below.mono (by assumption) (by first | omega | (simp; omega) | simp))))⟩
  · go_enter Tryd.func83, Tryd.ntmps83
    go_wp2_with fail
    exact bodyPost_ret (v := RT 105 true 0 true) (by simp [results, Tryd.results83, go_sem, *]) rfl ⟨by simp [*], by repeat (first | exact Below.refl _ _ | with_reducible assumption | (refine Below.alloc ?_ (by first | omega | (simp; omega) | simp) _) | (refine Below.setCell ?_ (by first | omega | (simp; omega) | simp) _) | (refine Below.trans ?_ (Below.mono (by assumption) (by first | omega | (simp; omega) | simp))))⟩
  · go_enter Tryd.func83, Tryd.ntmps83
    go_wp2_with fail
    exact bodyPost_ret (v := RT 105 true 0 true) (by simp [results, Tryd.results83, go_sem, *]) rfl ⟨by simp [*], by repeat (first | exact Below.refl _ _ | with_reducible assumption | (refine Below.alloc ?_ (by first | omega | (simp; omega) | simp) _) | (refine Below.setCell ?_ (by first | omega | (simp; omega) | simp) _) | (refine Below.trans ?_ (Below.mono (by assumption) (by first | omega | (simp; omega) | simp))))⟩
  · go_enter Tryd.func83, Tryd.ntmps83
    go_wp2_with fail
    exact bodyPost_ret (v := RT 105 false 0 true) (by simp [results, Tryd.results83, go_sem, *]) rfl ⟨by simp [*], by repeat (first | exact Below.refl _ _ | with_reducible assumption | (refine Below.alloc ?_ (by first | omega | (simp; omega) | simp) _) | (refine Below.setCell ?_ (by first | omega | (simp; omega) | simp) _) | (refine Below.trans ?_ (Below.mono (by assumption) (by first | omega | (simp; omega) | simp))))⟩
set_option maxHeartbeats 4000000 in
theorem quot_wi (ma mb : Bool) (sa : Int) (w : World) : Calls Tryd.prog 83 #[RV 119 ma sa, RV 105 mb 0] w (Ret (RT 119 (ma != mb) 0 true) w) := by
  cases ma <;> cases mb
  · go_enter Tryd.func83, Tryd.ntmps83
    go_wp2_with fail
    exact bodyPost_ret (v := RT 119 false 0 true) (by simp [results, Tryd.results83, go_sem, *]) rfl ⟨by simp [*], by repeat (first | exact Below.refl _ _ | with_reducible assumption | (refine Below.alloc ?_ (by first | omega | (simp; omega) | simp) _) | (refine Below.setCell ?_ (by first | omega | (simp; omega) | simp) _) | (refine Below.trans ?_ (Below.mono (by assumption) (by first | omega | (simp; omega) | simp))))⟩
  · go_enter Tryd.func83, Tryd.ntmps83
    go_wp2_with fail
    exact bodyPost_ret (v := RT 119 true 0 true) (by simp [results, Tryd.results83, go_sem, *]) rfl ⟨by simp [*], by repeat (first | exact Below.refl _ _ | with_reducible assumption | (refine Below.alloc ?_ (by first | omega | (simp; omega) | simp) _) | (refine Below.setCell ?_ (by first | omega | (simp; omega) | simp) _) | (refine Below.trans ?_ (Below.mono (by assumption) (by first | omega | (simp; omega) | simp))))⟩
  · go_enter Tryd.func83, Tryd.ntmps83
    go_wp2_with fail
    exact bodyPost_ret (v := RT 119 true 0 true) (by simp [results, Tryd.results83, go_sem, *]) rfl ⟨by simp [*], by repeat (first | exact Below.refl _ _ | with_reducible assumption | (refine Below.alloc ?_ (by first | omega | (simp; omega) | simp) _) | (refine Below.setCell ?_ (by first | omega | (simp; omega) | simp) _) | (refine Below.trans ?_ (Below.mono (by assumption) (by first | omega | (simp; omega) | simp))))⟩
  · go_enter Tryd.func83, Tryd.ntmps83
    go_wp2_with fail
    exact bodyPost_ret (v := RT 119 false 0 true) (by simp [results, Tryd.results83, go_sem, *]) rfl ⟨by simp [*], by repeat (first | exact Below.refl _ _ | with_reducible assumption | (refine Below.alloc ?_ (by first | omega | (simp; omega) | simp) _) | (refine Below.setCell ?_ (by first | omega | (simp; omega) | simp) _) | (refine Below.trans ?_ (Below.mono (by assumption) (by first | omega | (simp; omega) | simp))))⟩
set_option maxHeartbeats 4000000 in
theorem quot_w0 (ma mb : Bool) (sa : Int) (w : World) : Calls Tryd.prog 83 #[RV 119 ma sa, RV 119 mb 0] w (Ret (if sa == 0 then RT 110 false 0 true else RT 105 (ma != mb) 0 true) w) := by
  cases q : (sa == 0) <;> cases ma <;> cases mb
  · go_enter Tryd.func83, Tryd.ntmps83
    go_wp2_with fail
    exact bodyPost_ret (v := RT 105 false 0 true) (by simp [results, Tryd.results83, go_sem, *]) rfl ⟨by simp [*], by repeat (first | exact Below.refl _ _ | with_reducible assumption | (refine Below.alloc ?_ (by first | omega | (simp; omega) | simp) _) | (refine Below.setCell ?_ (by first | omega | (simp; omega) | simp) _) | (refine Below.trans ?_ (Below.mono (by assumption) (by first | omega | (simp; omega) | simp))))⟩
  · go_enter Tryd.func83, Tryd.ntmps83
    go_wp2_with fail
    exact bodyPost_ret (v := RT 105 true 0 true) (by simp [results, Tryd.results83, go_sem, *]) rfl ⟨by simp [*], by repeat (first | exact Below.refl _ _ | with_reducible assumption | (refine Below.alloc ?_ (by first | omega | (simp; omega) | simp) _) | (refine Below.setCell ?_ (by first | omega | (simp; omega) | simp) _) | (refine Below.trans ?_ (Below.mono (by assumption) (by first | omega | (simp; omega) | simp))))⟩
  · go_enter Tryd.func83, Tryd.ntmps83
    go_wp2_with fail
    exact bodyPost_ret (v := RT 105 true 0 true) (by simp [results, Tryd.results83, go_sem, *]) rfl ⟨by simp [*], by repeat (first | exact Below.refl _ _ | with_reducible assumption | (refine Below.alloc ?_ (by first | omega | (simp; omega) | simp) _) | (refine Below.setCell ?_ (by first | omega | (simp; omega) | simp) _) | (refine Below.trans ?_ (Below.mono (by assumption) (by first | omega | (simp; omega) | simp))))⟩
  · go_enter Tryd.func83, Tryd.ntmps83
    go_wp2_with fail
    exact bodyPost_ret (v := RT 105 false 0 true) (by simp [results, Tryd.results83, go_sem, *]) rfl ⟨by simp [*], by repeat (first | exact Below.refl _ _ | with_reducible assumption | (refine Below.alloc ?_ (by first | omega | (simp; omega) | simp) _) | (refine Below.setCell ?_ (by first | omega | (simp; omega) | simp) _) | (refine Below.trans ?_ (Below.mono (by assumption) (by first | omega | (simp; omega) | simp))))⟩
  · go_enter Tryd.func83, Tryd.ntmps83
    go_wp2_with fail
    exact bodyPost_ret (v := RT 110 false 0 true) (by simp [results, Tryd.results83, go_sem, *]) rfl ⟨by simp [*], by repeat (first | exact Below.refl _ _ | with_reducible assumption | (refine Below.alloc ?_ (by first | omega | (simp; omega) | simp) _) | (refine Below.setCell ?_ (by first | omega | (simp; omega) | simp) _) | (refine Below.trans ?_ (Below.mono (by assumption) (by first | omega | (simp; omega) | simp))))⟩
  · go_enter Tryd.func83, Tryd.ntmps83
    go_wp2_with fail
    exact bodyPost_ret (v := RT 110 false 0 true) (by simp [results, Tryd.results83, go_sem, *]) rfl ⟨by simp [*], by repeat (first | exact Below.refl _ _ | with_reducible assumption | (refine Below.alloc ?_ (by first | omega | (simp; omega) | simp) _) | (refine Below.setCell ?_ (by first | omega | (simp; omega) | simp) _) | (refine Below.trans ?_ (Below.mono (by assumption) (by first | omega | (simp; omega) | simp))))⟩
  · go_enter Tryd.func83, Tryd.ntmps83
    go_wp2_with fail
    exact bodyPost_ret (v := RT 110 false 0 true) (by simp [results, Tryd.results83, go_sem, *]) rfl ⟨by simp [*], by repeat (first | exact Below.refl _ _ | with_reducible assumption | (refine Below.alloc ?_ (by first | omega | (simp; omega) | simp) _) | (refine Below.setCell ?_ (by first | omega | (simp; omega) | simp) _) | (refine Below.trans ?_ (Below.mono (by assumption) (by first | omega | (simp; omega) | simp))))⟩
  · go_enter Tryd.func83, Tryd.ntmps83
    go_wp2_with fail
    exact bodyPost_ret (v := RT 110 false 0 true) (by simp [results, Tryd.results83, go_sem, *]) rfl ⟨by simp [*], by repeat (first | exact Below.refl _ _ | with_reducible assumption | (refine Below.alloc ?_ (by first | omega | (simp; omega) | simp) _) | (refine Below.setCell ?_ (by first | omega | (simp; omega) | simp) _) | (refine Below.trans ?_ (Below.mono (by assumption) (by first | omega | (simp; omega) | simp))))⟩
set_option maxHeartbeats 4000000 in
theorem rem_x (ma mb : Bool) (d sa e sb : Int) (w : World) (h : (d == 119) = false) : Calls Tryd.prog 65 #[RV d ma sa, RV e mb sb] w (Ret (RV 110 false 0) w) := by
  have t : (d != 119) = true := by simp [bne, h]
  go_enter Tryd.func65, Tryd.ntmps65
  go_wp2
  exact bodyPost_ret (v := RV 110 false 0) (by simp [results, Tryd.results65, go_sem, *]) rfl ⟨by simp [*], by repeat (first | exact Below.refl _ _ | with_reducible assumption | (refine Below.alloc ?_ (by first | omega | (simp; omega) | simp) _) | (refine Below.setCell ?_ (by first | omega | (simp; omega) | simp) _) | (refine Below.trans ?_ (Below.mono (by assumption) (by first | omega | (simp; omega) | simp))))⟩

set_option maxHeartbeats 4000000 in
theorem rem_n (ma mb : Bool) (sa sb : Int) (w : World) : Calls Tryd.prog 65 #[RV 119 ma sa, RV 110 mb sb] w (Ret (RV 110 false 0) w) := by
  go_enter Tryd.func65, Tryd.ntmps65
  go_wp2
  exact bodyPost_ret (v := RV 110 false 0) (by simp [results, Tryd.results65, go_sem, *]) rfl ⟨by simp [*], by repeat (first | exact Below.refl _ _ | with_reducible assumption | (refine Below.alloc ?_ (by first | omega | (simp; omega) | simp) _) | (refine Below.setCell ?_ (by first | omega | (simp; omega) | simp) _) | (refine Below.trans ?_ (Below.mono (by assumption) (by first | omega | (simp; omega) | simp))))⟩

set_option maxHeartbeats 4000000 in
theorem rem_0 (ma mb : Bool) (sa : Int) (w : World) : Calls Tryd.prog 65 #[RV 119 ma sa, RV 119 mb 0] w (Ret (RV 110 false 0) w) := by
  go_enter Tryd.func65, Tryd.ntmps65
  go_wp2
  exact bodyPost_ret (v := RV 110 false 0) (by simp [results, Tryd.results65, go_sem, *]) rfl ⟨by simp [*], by repeat (first | exact Below.refl _ _ | with_reducible assumption | (refine Below.alloc ?_ (by first | omega | (simp; omega) | simp) _) | (refine Below.setCell ?_ (by first | omega | (simp; omega) | simp) _) | (refine Below.trans ?_ (Below.mono (by assumption) (by first | omega | (simp; omega) | simp))))⟩

set_option maxHeartbeats 4000000 in
theorem rem_i (ma mb : Bool) (sa : Int) (w : World) : Calls Tryd.prog 65 #[RV 119 ma sa, RV 105 mb 0] w (Ret (RV 119 ma sa) w) := by
  go_enter Tryd.func65, Tryd.ntmps65
  go_wp2
  exact bodyPost_ret (v := RV 119 ma sa) (by simp [results, Tryd.results65, go_sem, *]) rfl ⟨by simp [*], by repeat (first | exact Below.refl _ _ | with_reducible assumption | (refine Below.alloc ?_ (by first | omega | (simp; omega) | simp) _) | (refine Below.setCell ?_ (by first | omega | (simp; omega) | simp) _) | (refine Below.trans ?_ (Below.mono (by assumption) (by first | omega | (simp; omega) | simp))))⟩

end Go.Proofs.YtjkboelcpihphaaDoor

/- Contracts of the reference's product of whole numbers. -/
set_option linter.unusedVariables false
set_option linter.unusedSimpArgs false
namespace Go.Proofs.YtjkboelcpihphaaDoor
open Go.RowKit

set_option maxHeartbeats 4000000 in
theorem prod_0w_false_false (sb : Int) (w : World) (h3 : 0 ≤ sb) (h4 : sb ≤ 9007199254740991) : Calls Tryd.prog 82 #[RV 119 false 0, RV 119 false sb] w (Ret (RT 119 false 0 true) w) := by
  go_enter Tryd.func82, Tryd.ntmps82
  go_wp2_with fail
  go_region
  go_wp2
  exact bodyPost_ret (v := RT 119 false 0 true) (by simp [results, Tryd.results82, go_sem]) rfl ⟨rfl, by first | exact (((((Below.refl _ _).alloc (Nat.le_refl _) _).alloc (by simp) _).alloc (by simp; omega) _).alloc (by simp; omega) _).drew | exact ((((Below.refl _ _).drew.alloc (Nat.le_refl _) _).alloc (by simp) _).alloc (by simp; omega) _).alloc (by simp; omega) _ | exact ((((Below.refl _ _).alloc (Nat.le_refl _) _).alloc (by simp) _).alloc (by simp; omega) _).alloc (by simp; omega) _⟩

set_option maxHeartbeats 4000000 in
theorem prod_0w_false_true (sb : Int) (w : World) (h3 : 0 ≤ sb) (h4 : sb ≤ 9007199254740991) : Calls Tryd.prog 82 #[RV 119 false 0, RV 119 true sb] w (Ret (RT 119 true 0 true) w) := by
  go_enter Tryd.func82, Tryd.ntmps82
  go_wp2_with fail
  go_region
  go_wp2
  exact bodyPost_ret (v := RT 119 true 0 true) (by simp [results, Tryd.results82, go_sem]) rfl ⟨rfl, by first | exact (((((Below.refl _ _).alloc (Nat.le_refl _) _).alloc (by simp) _).alloc (by simp; omega) _).alloc (by simp; omega) _).drew | exact ((((Below.refl _ _).drew.alloc (Nat.le_refl _) _).alloc (by simp) _).alloc (by simp; omega) _).alloc (by simp; omega) _ | exact ((((Below.refl _ _).alloc (Nat.le_refl _) _).alloc (by simp) _).alloc (by simp; omega) _).alloc (by simp; omega) _⟩

set_option maxHeartbeats 4000000 in
theorem prod_0w_true_false (sb : Int) (w : World) (h3 : 0 ≤ sb) (h4 : sb ≤ 9007199254740991) : Calls Tryd.prog 82 #[RV 119 true 0, RV 119 false sb] w (Ret (RT 119 true 0 true) w) := by
  go_enter Tryd.func82, Tryd.ntmps82
  go_wp2_with fail
  go_region
  go_wp2
  exact bodyPost_ret (v := RT 119 true 0 true) (by simp [results, Tryd.results82, go_sem]) rfl ⟨rfl, by first | exact (((((Below.refl _ _).alloc (Nat.le_refl _) _).alloc (by simp) _).alloc (by simp; omega) _).alloc (by simp; omega) _).drew | exact ((((Below.refl _ _).drew.alloc (Nat.le_refl _) _).alloc (by simp) _).alloc (by simp; omega) _).alloc (by simp; omega) _ | exact ((((Below.refl _ _).alloc (Nat.le_refl _) _).alloc (by simp) _).alloc (by simp; omega) _).alloc (by simp; omega) _⟩

set_option maxHeartbeats 4000000 in
theorem prod_0w_true_true (sb : Int) (w : World) (h3 : 0 ≤ sb) (h4 : sb ≤ 9007199254740991) : Calls Tryd.prog 82 #[RV 119 true 0, RV 119 true sb] w (Ret (RT 119 false 0 true) w) := by
  go_enter Tryd.func82, Tryd.ntmps82
  go_wp2_with fail
  go_region
  go_wp2
  exact bodyPost_ret (v := RT 119 false 0 true) (by simp [results, Tryd.results82, go_sem]) rfl ⟨rfl, by first | exact (((((Below.refl _ _).alloc (Nat.le_refl _) _).alloc (by simp) _).alloc (by simp; omega) _).alloc (by simp; omega) _).drew | exact ((((Below.refl _ _).drew.alloc (Nat.le_refl _) _).alloc (by simp) _).alloc (by simp; omega) _).alloc (by simp; omega) _ | exact ((((Below.refl _ _).alloc (Nat.le_refl _) _).alloc (by simp) _).alloc (by simp; omega) _).alloc (by simp; omega) _⟩

set_option maxHeartbeats 4000000 in
theorem prod_no_false_false (sa sb : Int) (w : World) (h1 : 1 ≤ sa) (h2 : sa ≤ 9007199254740991) (h3 : 0 ≤ sb) (h4 : sb ≤ 9007199254740991) (h : 9007199254740991 / sa < sb) : Calls Tryd.prog 82 #[RV 119 false sa, RV 119 false sb] w (Ret (RT 0 false 0 false) w) := by
  have t1 : (sa != 0) = true := by simp; omega
  have t2 : ¬ sa = 0 := by omega
  have t3 : (sa == 0) = false := by simp; omega
  have t4 : decide (9007199254740991 / sa < sb) = true := decide_eq_true h
  go_enter Tryd.func82, Tryd.ntmps82
  go_wp2_with fail
  go_region
  go_wp2
  exact bodyPost_ret (v := RT 0 false 0 false) (by simp [results, Tryd.results82, go_sem]) rfl ⟨rfl, by first | exact (((((Below.refl _ _).alloc (Nat.le_refl _) _).alloc (by simp) _).alloc (by simp; omega) _).alloc (by simp; omega) _).drew | exact ((((Below.refl _ _).drew.alloc (Nat.le_refl _) _).alloc (by simp) _).alloc (by simp; omega) _).alloc (by simp; omega) _ | exact ((((Below.refl _ _).alloc (Nat.le_refl _) _).alloc (by simp) _).alloc (by simp; omega) _).alloc (by simp; omega) _⟩

set_option maxHeartbeats 4000000 in
theorem prod_no_false_true (sa sb : Int) (w : World) (h1 : 1 ≤ sa) (h2 : sa ≤ 9007199254740991) (h3 : 0 ≤ sb) (h4 : sb ≤ 9007199254740991) (h : 9007199254740991 / sa < sb) : Calls Tryd.prog 82 #[RV 119 false sa, RV 119 true sb] w (Ret (RT 0 false 0 false) w) := by
  have t1 : (sa != 0) = true := by simp; omega
  have t2 : ¬ sa = 0 := by omega
  have t3 : (sa == 0) = false := by simp; omega
  have t4 : decide (9007199254740991 / sa < sb) = true := decide_eq_true h
  go_enter Tryd.func82, Tryd.ntmps82
  go_wp2_with fail
  go_region
  go_wp2
  exact bodyPost_ret (v := RT 0 false 0 false) (by simp [results, Tryd.results82, go_sem]) rfl ⟨rfl, by first | exact (((((Below.refl _ _).alloc (Nat.le_refl _) _).alloc (by simp) _).alloc (by simp; omega) _).alloc (by simp; omega) _).drew | exact ((((Below.refl _ _).drew.alloc (Nat.le_refl _) _).alloc (by simp) _).alloc (by simp; omega) _).alloc (by simp; omega) _ | exact ((((Below.refl _ _).alloc (Nat.le_refl _) _).alloc (by simp) _).alloc (by simp; omega) _).alloc (by simp; omega) _⟩

set_option maxHeartbeats 4000000 in
theorem prod_no_true_false (sa sb : Int) (w : World) (h1 : 1 ≤ sa) (h2 : sa ≤ 9007199254740991) (h3 : 0 ≤ sb) (h4 : sb ≤ 9007199254740991) (h : 9007199254740991 / sa < sb) : Calls Tryd.prog 82 #[RV 119 true sa, RV 119 false sb] w (Ret (RT 0 false 0 false) w) := by
  have t1 : (sa != 0) = true := by simp; omega
  have t2 : ¬ sa = 0 := by omega
  have t3 : (sa == 0) = false := by simp; omega
  have t4 : decide (9007199254740991 / sa < sb) = true := decide_eq_true h
  go_enter Tryd.func82, Tryd.ntmps82
  go_wp2_with fail
  go_region
  go_wp2
  exact bodyPost_ret (v := RT 0 false 0 false) (by simp [results, Tryd.results82, go_sem]) rfl ⟨rfl, by first | exact (((((Below.refl _ _).alloc (Nat.le_refl _) _).alloc (by simp) _).alloc (by simp; omega) _).alloc (by simp; omega) _).drew | exact ((((Below.refl _ _).drew.alloc (Nat.le_refl _) _).alloc (by simp) _).alloc (by simp; omega) _).alloc (by simp; omega) _ | exact ((((Below.refl _ _).alloc (Nat.le_refl _) _).alloc (by simp) _).alloc (by simp; omega) _).alloc (by simp; omega) _⟩

set_option maxHeartbeats 4000000 in
theorem prod_no_true_true (sa sb : Int) (w : World) (h1 : 1 ≤ sa) (h2 : sa ≤ 9007199254740991) (h3 : 0 ≤ sb) (h4 : sb ≤ 9007199254740991) (h : 9007199254740991 / sa < sb) : Calls Tryd.prog 82 #[RV 119 true sa, RV 119 true sb] w (Ret (RT 0 false 0 false) w) := by
  have t1 : (sa != 0) = true := by simp; omega
  have t2 : ¬ sa = 0 := by omega
  have t3 : (sa == 0) = false := by simp; omega
  have t4 : decide (9007199254740991 / sa < sb) = true := decide_eq_true h
  go_enter Tryd.func82, Tryd.ntmps82
  go_wp2_with fail
  go_region
  go_wp2
  exact bodyPost_ret (v := RT 0 false 0 false) (by simp [results, Tryd.results82, go_sem]) rfl ⟨rfl, by first | exact (((((Below.refl _ _).alloc (Nat.le_refl _) _).alloc (by simp) _).alloc (by simp; omega) _).alloc (by simp; omega) _).drew | exact ((((Below.refl _ _).drew.alloc (Nat.le_refl _) _).alloc (by simp) _).alloc (by simp; omega) _).alloc (by simp; omega) _ | exact ((((Below.refl _ _).alloc (Nat.le_refl _) _).alloc (by simp) _).alloc (by simp; omega) _).alloc (by simp; omega) _⟩

set_option maxHeartbeats 4000000 in
theorem prod_yes_false_false (sa sb : Int) (w : World) (h1 : 1 ≤ sa) (h2 : sa ≤ 9007199254740991) (h3 : 0 ≤ sb) (h4 : sb ≤ 9007199254740991) (h : ¬ 9007199254740991 / sa < sb) (p1 : 0 ≤ sa * sb) (p2 : sa * sb ≤ 9007199254740991) : Calls Tryd.prog 82 #[RV 119 false sa, RV 119 false sb] w (Ret (RT 119 false (sa * sb) true) w) := by
  have t1 : (sa != 0) = true := by simp; omega
  have t2 : ¬ sa = 0 := by omega
  have t3 : (sa == 0) = false := by simp; omega
  have t4 : decide (9007199254740991 / sa < sb) = false := decide_eq_false h
  go_enter Tryd.func82, Tryd.ntmps82
  go_wp2_with fail
  go_region
  go_wp2
  exact bodyPost_ret (v := RT 119 false (sa * sb) true) (by simp [results, Tryd.results82, go_sem]) rfl ⟨rfl, by first | exact (((((Below.refl _ _).alloc (Nat.le_refl _) _).alloc (by simp) _).alloc (by simp; omega) _).alloc (by simp; omega) _).drew | exact ((((Below.refl _ _).drew.alloc (Nat.le_refl _) _).alloc (by simp) _).alloc (by simp; omega) _).alloc (by simp; omega) _ | exact ((((Below.refl _ _).alloc (Nat.le_refl _) _).alloc (by simp) _).alloc (by simp; omega) _).alloc (by simp; omega) _⟩

set_option maxHeartbeats 4000000 in
theorem prod_yes_false_true (sa sb : Int) (w : World) (h1 : 1 ≤ sa) (h2 : sa ≤ 9007199254740991) (h3 : 0 ≤ sb) (h4 : sb ≤ 9007199254740991) (h : ¬ 9007199254740991 / sa < sb) (p1 : 0 ≤ sa * sb) (p2 : sa * sb ≤ 9007199254740991) : Calls Tryd.prog 82 #[RV 119 false sa, RV 119 true sb] w (Ret (RT 119 true (sa * sb) true) w) := by
  have t1 : (sa != 0) = true := by simp; omega
  have t2 : ¬ sa = 0 := by omega
  have t3 : (sa == 0) = false := by simp; omega
  have t4 : decide (9007199254740991 / sa < sb) = false := decide_eq_false h
  go_enter Tryd.func82, Tryd.ntmps82
  go_wp2_with fail
  go_region
  go_wp2
  exact bodyPost_ret (v := RT 119 true (sa * sb) true) (by simp [results, Tryd.results82, go_sem]) rfl ⟨rfl, by first | exact (((((Below.refl _ _).alloc (Nat.le_refl _) _).alloc (by simp) _).alloc (by simp; omega) _).alloc (by simp; omega) _).drew | exact ((((Below.refl _ _).drew.alloc (Nat.le_refl _) _).alloc (by simp) _).alloc (by simp; omega) _).alloc (by simp; omega) _ | exact ((((Below.refl _ _).alloc (Nat.le_refl _) _).alloc (by simp) _).alloc (by simp; omega) _).alloc (by simp; omega) _⟩

set_option maxHeartbeats 4000000 in
theorem prod_yes_true_false (sa sb : Int) (w : World) (h1 : 1 ≤ sa) (h2 : sa ≤ 9007199254740991) (h3 : 0 ≤ sb) (h4 : sb ≤ 9007199254740991) (h : ¬ 9007199254740991 / sa < sb) (p1 : 0 ≤ sa * sb) (p2 : sa * sb ≤ 9007199254740991) : Calls Tryd.prog 82 #[RV 119 true sa, RV 119 false sb] w (Ret (RT 119 true (sa * sb) true) w) := by
  have t1 : (sa != 0) = true := by simp; omega
  have t2 : ¬ sa = 0 := by omega
  have t3 : (sa == 0) = false := by simp; omega
  have t4 : decide (9007199254740991 / sa < sb) = false := decide_eq_false h
  go_enter Tryd.func82, Tryd.ntmps82
  go_wp2_with fail
  go_region
  go_wp2
  exact bodyPost_ret (v := RT 119 true (sa * sb) true) (by simp [results, Tryd.results82, go_sem]) rfl ⟨rfl, by first | exact (((((Below.refl _ _).alloc (Nat.le_refl _) _).alloc (by simp) _).alloc (by simp; omega) _).alloc (by simp; omega) _).drew | exact ((((Below.refl _ _).drew.alloc (Nat.le_refl _) _).alloc (by simp) _).alloc (by simp; omega) _).alloc (by simp; omega) _ | exact ((((Below.refl _ _).alloc (Nat.le_refl _) _).alloc (by simp) _).alloc (by simp; omega) _).alloc (by simp; omega) _⟩

set_option maxHeartbeats 4000000 in
theorem prod_yes_true_true (sa sb : Int) (w : World) (h1 : 1 ≤ sa) (h2 : sa ≤ 9007199254740991) (h3 : 0 ≤ sb) (h4 : sb ≤ 9007199254740991) (h : ¬ 9007199254740991 / sa < sb) (p1 : 0 ≤ sa * sb) (p2 : sa * sb ≤ 9007199254740991) : Calls Tryd.prog 82 #[RV 119 true sa, RV 119 true sb] w (Ret (RT 119 false (sa * sb) true) w) := by
  have t1 : (sa != 0) = true := by simp; omega
  have t2 : ¬ sa = 0 := by omega
  have t3 : (sa == 0) = false := by simp; omega
  have t4 : decide (9007199254740991 / sa < sb) = false := decide_eq_false h
  go_enter Tryd.func82, Tryd.ntmps82
  go_wp2_with fail
  go_region
  go_wp2
  exact bodyPost_ret (v := RT 119 false (sa * sb) true) (by simp [results, Tryd.results82, go_sem]) rfl ⟨rfl, by first | exact (((((Below.refl _ _).alloc (Nat.le_refl _) _).alloc (by simp) _).alloc (by simp; omega) _).alloc (by simp; omega) _).drew | exact ((((Below.refl _ _).drew.alloc (Nat.le_refl _) _).alloc (by simp) _).alloc (by simp; omega) _).alloc (by simp; omega) _ | exact ((((Below.refl _ _).alloc (Nat.le_refl _) _).alloc (by simp) _).alloc (by simp; omega) _).alloc (by simp; omega) _⟩

end Go.Proofs.YtjkboelcpihphaaDoor

/- Contracts of the reference's quotient and Rem of whole numbers, and of Do. -/
set_option linter.unusedVariables false
set_option linter.unusedSimpArgs false
namespace Go.Proofs.YtjkboelcpihphaaDoor
open Go.RowKit

set_option maxHeartbeats 4000000 in
theorem do_add (da db : Int) (ma mb : Bool) (sa sb : Int) (d : Int) (m : Bool) (s : Int) (ok : Bool) (w : World) (h1 : (da == 110) = false) (h2 : (db == 110) = false)
    (C : ∀ W, Calls Tryd.prog 81 #[RV da ma sa, RV db mb sb] W (Ret (RT d m s ok) W)) : Calls Tryd.prog 67 #[.int .u8 43, RV da ma sa, RV db mb sb] w (Ret (RT d m s ok) w) := by
  have HC := Lib.hid C
  clear C
  go_enter Tryd.func67, Tryd.ntmps67
  go_wp2_with fail
  refine (HC.out _).mono ?_
  rintro e w' ⟨rfl, bI⟩
  obtain ⟨hc, hf⟩ := bcell bI
  have hz := bI.size
  (try simp only [World.size_alloc] at hz)
  go_wp2
  exact bodyPost_ret (v := RT d m s ok) (by simp [results, Tryd.results67, go_sem, hc]) rfl ⟨rfl, by repeat (first | exact Below.refl _ _ | with_reducible assumption | (refine Below.alloc ?_ (by first | omega | (simp; omega) | simp) _) | (refine Below.setCell ?_ (by first | omega | (simp; omega) | simp) _) | (refine Below.trans ?_ (Below.mono (by assumption) (by first | omega | (simp; omega) | simp))))⟩

set_option maxHeartbeats 4000000 in
theorem do_sub (da db : Int) (ma mb : Bool) (sa sb : Int) (d : Int) (m : Bool) (s : Int) (ok : Bool) (w : World) (h1 : (da == 110) = false) (h2 : (db == 110) = false)
    (C : ∀ W, Calls Tryd.prog 81 #[RV da ma sa, RV db (!mb) sb] W (Ret (RT d m s ok) W)) : Calls Tryd.prog 67 #[.int .u8 45, RV da ma sa, RV db mb sb] w (Ret (RT d m s ok) w) := by
  have HC := Lib.hid C
  clear C
  go_enter Tryd.func67, Tryd.ntmps67
  go_wp2_with fail
  refine (HC.out _).mono ?_
  rintro e w' ⟨rfl, bI⟩
  obtain ⟨hc, hf⟩ := bcell bI
  have hz := bI.size
  (try simp only [World.size_alloc] at hz)
  go_wp2
  exact bodyPost_ret (v := RT d m s ok) (by simp [results, Tryd.results67, go_sem, hc]) rfl ⟨rfl, by repeat (first | exact Below.refl _ _ | with_reducible assumption | (refine Below.alloc ?_ (by first | omega | (simp; omega) | simp) _) | (refine Below.setCell ?_ (by first | omega | (simp; omega) | simp) _) | (refine Below.trans ?_ (Below.mono (by assumption) (by first | omega | (simp; omega) | simp))))⟩

set_option maxHeartbeats 4000000 in
theorem do_mul (da db : Int) (ma mb : Bool) (sa sb : Int) (d : Int) (m : Bool) (s : Int) (ok : Bool) (w : World) (h1 : (da == 110) = false) (h2 : (db == 110) = false)
    (C : ∀ W, Calls Tryd.prog 82 #[RV da ma sa, RV db mb sb] W (Ret (RT d m s ok) W)) : Calls Tryd.prog 67 #[.int .u8 42, RV da ma sa, RV db mb sb] w (Ret (RT d m s ok) w) := by
  have HC := Lib.hid C
  clear C
  go_enter Tryd.func67, Tryd.ntmps67
  go_wp2_with fail
  refine (HC.out _).mono ?_
  rintro e w' ⟨rfl, bI⟩
  obtain ⟨hc, hf⟩ := bcell bI
  have hz := bI.size
  (try simp only [World.size_alloc] at hz)
  go_wp2
  exact bodyPost_ret (v := RT d m s ok) (by simp [results, Tryd.results67, go_sem, hc]) rfl ⟨rfl, by repeat (first | exact Below.refl _ _ | with_reducible assumption | (refine Below.alloc ?_ (by first | omega | (simp; omega) | simp) _) | (refine Below.setCell ?_ (by first | omega | (simp; omega) | simp) _) | (refine Below.trans ?_ (Below.mono (by assumption) (by first | omega | (simp; omega) | simp))))⟩

set_option maxHeartbeats 4000000 in
theorem do_div (da db : Int) (ma mb : Bool) (sa sb : Int) (d : Int) (m : Bool) (s : Int) (ok : Bool) (w : World) (h1 : (da == 110) = false) (h2 : (db == 110) = false)
    (C : ∀ W, Calls Tryd.prog 83 #[RV da ma sa, RV db mb sb] W (Ret (RT d m s ok) W)) : Calls Tryd.prog 67 #[.int .u8 47, RV da ma sa, RV db mb sb] w (Ret (RT d m s ok) w) := by
  have HC := Lib.hid C
  clear C
  go_enter Tryd.func67, Tryd.ntmps67
  go_wp2_with fail
  refine (HC.out _).mono ?_
  rintro e w' ⟨rfl, bI⟩
  obtain ⟨hc, hf⟩ := bcell bI
  have hz := bI.size
  (try simp only [World.size_alloc] at hz)
  go_wp2
  exact bodyPost_ret (v := RT d m s ok) (by simp [results, Tryd.results67, go_sem, hc]) rfl ⟨rfl, by repeat (first | exact Below.refl _ _ | with_reducible assumption | (refine Below.alloc ?_ (by first | omega | (simp; omega) | simp) _) | (refine Below.setCell ?_ (by first | omega | (simp; omega) | simp) _) | (refine Below.trans ?_ (Below.mono (by assumption) (by first | omega | (simp; omega) | simp))))⟩

set_option maxHeartbeats 4000000 in
theorem do_nan (op : Int) (da db : Int) (ma mb : Bool) (sa sb : Int) (w : World) (h : (da == 110) = true ∨ ((da == 110) = false ∧ (db == 110) = true)) : Calls Tryd.prog 67 #[.int .u8 op, RV da ma sa, RV db mb sb] w (Ret (RT 110 false 0 true) w) := by
  rcases h with t | ⟨t, t'⟩
  · go_enter Tryd.func67, Tryd.ntmps67
    go_wp2
    exact bodyPost_ret (v := RT 110 false 0 true) (by simp [results, Tryd.results67, go_sem, *]) rfl ⟨by simp [*], by repeat (first | exact Below.refl _ _ | with_reducible assumption | (refine Below.alloc ?_ (by first | omega | (simp; omega) | simp) _) | (refine Below.setCell ?_ (by first | omega | (simp; omega) | simp) _) | (refine Below.trans ?_ (Below.mono (by assumption) (by first | omega | (simp; omega) | simp))))⟩
  · go_enter Tryd.func67, Tryd.ntmps67
    go_wp2
    exact bodyPost_ret (v := RT 110 false 0 true) (by simp [results, Tryd.results67, go_sem, *]) rfl ⟨by simp [*], by repeat (first | exact Below.refl _ _ | with_reducible assumption | (refine Below.alloc ?_ (by first | omega | (simp; omega) | simp) _) | (refine Below.setCell ?_ (by first | omega | (simp; omega) | simp) _) | (refine Below.trans ?_ (Below.mono (by assumption) (by first | omega | (simp; omega) | simp))))⟩

set_option maxHeartbeats 4000000 in
theorem quot_false_false (sa sb : Int) (w : World) (h1 : 0 ≤ sa) (h2 : sa ≤ 9007199254740991) (h3 : 1 ≤ sb) (h4 : sb ≤ 9007199254740991) (p0 : 0 ≤ sa / sb) (p3 : sa / sb ≤ sa) (p1 : 0 ≤ sa / sb * sb) (p2 : sa / sb * sb ≤ sa) :
    Calls Tryd.prog 83 #[RV 119 false sa, RV 119 false sb] w (Ret (RT 119 false (sa / sb) (sa / sb * sb == sa)) w) := by
  have t2 : ¬ sb = 0 := by omega
  have t3 : (sb == 0) = false := by simp; omega
  go_enter Tryd.func83, Tryd.ntmps83
  go_wp2_with fail
  go_region
  go_wp2
  exact bodyPost_ret (v := RT 119 false (sa / sb) (sa / sb * sb == sa)) (by simp [results, Tryd.results83, go_sem]) rfl ⟨rfl, by first | exact (((((Below.refl _ _).alloc (Nat.le_refl _) _).alloc (by simp) _).alloc (by simp; omega) _).alloc (by simp; omega) _).drew | exact ((((Below.refl _ _).drew.alloc (Nat.le_refl _) _).alloc (by simp) _).alloc (by simp; omega) _).alloc (by simp; omega) _ | exact ((((Below.refl _ _).alloc (Nat.le_refl _) _).alloc (by simp) _).alloc (by simp; omega) _).alloc (by simp; omega) _⟩

set_option maxHeartbeats 4000000 in
theorem quot_false_true (sa sb : Int) (w : World) (h1 : 0 ≤ sa) (h2 : sa ≤ 9007199254740991) (h3 : 1 ≤ sb) (h4 : sb ≤ 9007199254740991) (p0 : 0 ≤ sa / sb) (p3 : sa / sb ≤ sa) (p1 : 0 ≤ sa / sb * sb) (p2 : sa / sb * sb ≤ sa) :
    Calls Tryd.prog 83 #[RV 119 false sa, RV 119 true sb] w (Ret (RT 119 true (sa / sb) (sa / sb * sb == sa)) w) := by
  have t2 : ¬ sb = 0 := by omega
  have t3 : (sb == 0) = false := by simp; omega
  go_enter Tryd.func83, Tryd.ntmps83
  go_wp2_with fail
  go_region
  go_wp2
  exact bodyPost_ret (v := RT 119 true (sa / sb) (sa / sb * sb == sa)) (by simp [results, Tryd.results83, go_sem]) rfl ⟨rfl, by first | exact (((((Below.refl _ _).alloc (Nat.le_refl _) _).alloc (by simp) _).alloc (by simp; omega) _).alloc (by simp; omega) _).drew | exact ((((Below.refl _ _).drew.alloc (Nat.le_refl _) _).alloc (by simp) _).alloc (by simp; omega) _).alloc (by simp; omega) _ | exact ((((Below.refl _ _).alloc (Nat.le_refl _) _).alloc (by simp) _).alloc (by simp; omega) _).alloc (by simp; omega) _⟩

set_option maxHeartbeats 4000000 in
theorem quot_true_false (sa sb : Int) (w : World) (h1 : 0 ≤ sa) (h2 : sa ≤ 9007199254740991) (h3 : 1 ≤ sb) (h4 : sb ≤ 9007199254740991) (p0 : 0 ≤ sa / sb) (p3 : sa / sb ≤ sa) (p1 : 0 ≤ sa / sb * sb) (p2 : sa / sb * sb ≤ sa) :
    Calls Tryd.prog 83 #[RV 119 true sa, RV 119 false sb] w (Ret (RT 119 true (sa / sb) (sa / sb * sb == sa)) w) := by
  have t2 : ¬ sb = 0 := by omega
  have t3 : (sb == 0) = false := by simp; omega
  go_enter Tryd.func83, Tryd.ntmps83
  go_wp2_with fail
  go_region
  go_wp2
  exact bodyPost_ret (v := RT 119 true (sa / sb) (sa / sb * sb == sa)) (by simp [results, Tryd.results83, go_sem]) rfl ⟨rfl, by first | exact (((((Below.refl _ _).alloc (Nat.le_refl _) _).alloc (by simp) _).alloc (by simp; omega) _).alloc (by simp; omega) _).drew | exact ((((Below.refl _ _).drew.alloc (Nat.le_refl _) _).alloc (by simp) _).alloc (by simp; omega) _).alloc (by simp; omega) _ | exact ((((Below.refl _ _).alloc (Nat.le_refl _) _).alloc (by simp) _).alloc (by simp; omega) _).alloc (by simp; omega) _⟩

set_option maxHeartbeats 4000000 in
theorem quot_true_true (sa sb : Int) (w : World) (h1 : 0 ≤ sa) (h2 : sa ≤ 9007199254740991) (h3 : 1 ≤ sb) (h4 : sb ≤ 9007199254740991) (p0 : 0 ≤ sa / sb) (p3 : sa / sb ≤ sa) (p1 : 0 ≤ sa / sb * sb) (p2 : sa / sb * sb ≤ sa) :
    Calls Tryd.prog 83 #[RV 119 true sa, RV 119 true sb] w (Ret (RT 119 false (sa / sb) (sa / sb * sb == sa)) w) := by
  have t2 : ¬ sb = 0 := by omega
  have t3 : (sb == 0) = false := by simp; omega
  go_enter Tryd.func83, Tryd.ntmps83
  go_wp2_with fail
  go_region
  go_wp2
  exact bodyPost_ret (v := RT 119 false (sa / sb) (sa / sb * sb == sa)) (by simp [results, Tryd.results83, go_sem]) rfl ⟨rfl, by first | exact (((((Below.refl _ _).alloc (Nat.le_refl _) _).alloc (by simp) _).alloc (by simp; omega) _).alloc (by simp; omega) _).drew | exact ((((Below.refl _ _).drew.alloc (Nat.le_refl _) _).alloc (by simp) _).alloc (by simp; omega) _).alloc (by simp; omega) _ | exact ((((Below.refl _ _).alloc (Nat.le_refl _) _).alloc (by simp) _).alloc (by simp; omega) _).alloc (by simp; omega) _⟩

set_option maxHeartbeats 4000000 in
theorem rem_w (ma mb : Bool) (sa sb : Int) (w : World) (h1 : 0 ≤ sa) (h2 : sa ≤ 9007199254740991) (h3 : 1 ≤ sb) (h4 : sb ≤ 9007199254740991) (p0 : 0 ≤ sa / sb) (p3 : sa / sb ≤ sa) (p1 : 0 ≤ sa / sb * sb) (p2 : sa / sb * sb ≤ sa) :
    Calls Tryd.prog 65 #[RV 119 ma sa, RV 119 mb sb] w (Ret (RV 119 ma (sa - sa / sb * sb)) w) := by
  have t2 : ¬ sb = 0 := by omega
  have t3 : (sb == 0) = false := by simp; omega
  go_enter Tryd.func65, Tryd.ntmps65
  go_wp2_with fail
  go_region
  go_wp2
  exact bodyPost_ret (v := RV 119 ma (sa - sa / sb * sb)) (by simp [results, Tryd.results65, go_sem]) rfl ⟨rfl, by first | exact ((((Below.refl _ _).alloc (Nat.le_refl _) _).alloc (by simp) _).alloc (by simp; omega) _).drew | exact (((Below.refl _ _).drew.alloc (Nat.le_refl _) _).alloc (by simp) _).alloc (by simp; omega) _ | exact (((Below.refl _ _).alloc (Nat.le_refl _) _).alloc (by simp) _).alloc (by simp; omega) _⟩

end Go.Proofs.YtjkboelcpihphaaDoor

/- What the reference's sum, product, quotient and Rem answer for any numbers, held against num's Add, Mul, Div and Rem. -/
set_option linter.unusedVariables false
set_option linter.unusedSimpArgs false
namespace Go.Proofs.YtjkboelcpihphaaDoor
open Go.RowKit

/-- A number of the reference that is not NaN. -/
def Form (d : Int) (s : Int) : Prop := (d = 105 ∧ s = 0) ∨ (d = 119 ∧ 0 ≤ s ∧ s ≤ 9007199254740991)
theorem IsNum.forms {k n : Int} (h : IsNum k n) : (k = 4 ∧ n = 0 ∧ ofR k n = (110, false, 0)) ∨ ∃ d m s, Form d s ∧ valR d m s = (k, n) ∧ ofR k n = (d, m, s) := by
  unfold IsNum at h
  rcases h with ⟨rfl, rfl⟩ | ⟨rfl, rfl | rfl⟩ | ⟨rfl, rfl⟩ | ⟨rfl, h1, h2⟩
  · exact .inl ⟨rfl, rfl, rfl⟩
  · exact .inr ⟨105, false, 0, .inl ⟨rfl, rfl⟩, rfl, rfl⟩
  · exact .inr ⟨105, true, 0, .inl ⟨rfl, rfl⟩, rfl, rfl⟩
  · exact .inr ⟨119, true, 0, .inr ⟨rfl, by decide, by decide⟩, rfl, rfl⟩
  · by_cases hn : n < 0
    · refine .inr ⟨119, true, -n, .inr ⟨rfl, by omega, by omega⟩, ?_, by simp [ofR, hn]⟩
      have : ¬ (-n) = 0 := by omega
      simp [valR, this]
    · exact .inr ⟨119, false, n, .inr ⟨rfl, by omega, by omega⟩, by simp [valR], by simp [ofR, hn]⟩

theorem val_inf (m : Bool) : valR 105 m 0 = (5, if m = true then -1 else 1) := by simp [valR]
theorem val_pos (s : Int) : valR 119 false s = (3, s) := by simp [valR]
theorem val_neg (s : Int) (h : s ≠ 0) : valR 119 true s = (3, -s) := by simp [valR, h]
theorem val_nz : valR 119 true 0 = (6, 0) := rfl
theorem neg_val (d : Int) (m : Bool) (s : Int) (h : Form d s) : negR (valR d m s).1 (valR d m s).2 = valR d (!m) s := by
  rcases h with ⟨rfl, rfl⟩ | ⟨rfl, h1, h2⟩
  · cases m <;> rfl
  · by_cases h0 : s = 0
    · subst h0; cases m <;> rfl
    · cases m
      · rw [val_pos, Bool.not_false, val_neg s h0, neg3 s h0]
      · rw [val_neg s h0, Bool.not_true, val_pos, neg3 (-s) (by omega), Int.neg_neg]

/-- What a call of the reference answers, held against what package num computes. -/
def Agrees (r : Int × Int × Bool) (C : Value → Prop) : Prop :=
  ∃ d m s ok, C (RT d m s ok) ∧ r = (if ok = true then ((valR d m s).1, (valR d m s).2, true) else (0, 0, false)) ∧ (ok = true → 0 ≤ s ∧ s ≤ 9007199254740992)
theorem intR_in (n : Int) (h1 : -9007199254740991 ≤ n) (h2 : n ≤ 9007199254740991) : intR n = (3, n, true) := by rw [intR, if_neg (by omega)]
theorem intR_out (n : Int) (h : 9007199254740991 < n ∨ n < -9007199254740991) : intR n = (0, 0, false) := by rw [intR, if_pos h]

theorem sum_form (da : Int) (ma : Bool) (sa db : Int) (mb : Bool) (sb : Int) (A : Form da sa) (B : Form db sb) :
    Agrees (addR (valR da ma sa).1 (valR da ma sa).2 (valR db mb sb).1 (valR db mb sb).2) (fun v => ∀ W, Calls Tryd.prog 81 #[RV da ma sa, RV db mb sb] W (Ret v W)) := by
  rcases A with ⟨rfl, rfl⟩ | ⟨rfl, a1, a2⟩ <;> rcases B with ⟨rfl, rfl⟩ | ⟨rfl, b1, b2⟩
  · cases ma <;> cases mb
    · exact ⟨105, false, 0, true, sum_ii false false, rfl, fun _ => by decide⟩
    · exact ⟨110, false, 0, true, sum_ii false true, rfl, fun _ => by decide⟩
    · exact ⟨110, false, 0, true, sum_ii true false, rfl, fun _ => by decide⟩
    · exact ⟨105, true, 0, true, sum_ii true true, rfl, fun _ => by decide⟩
  · refine ⟨105, ma, 0, true, sum_iw ma mb sb, ?_, fun _ => by decide⟩
    by_cases h0 : sb = 0
    · subst h0; cases ma <;> cases mb <;> rfl
    · cases ma <;> cases mb <;> first | (rw [val_pos]; rfl) | (rw [val_neg sb h0]; rfl)
  · refine ⟨105, mb, 0, true, sum_wi ma mb sa, ?_, fun _ => by decide⟩
    by_cases h0 : sa = 0
    · subst h0; cases ma <;> cases mb <;> rfl
    · cases ma <;> cases mb <;> first | (rw [val_pos]; rfl) | (rw [val_neg sa h0]; rfl)
  · by_cases hm : ma = mb
    · subst hm
      refine ⟨119, ma, sa + sb, decide (sa + sb ≤ 9007199254740991), fun W => sum_same ma sa sb W a1 a2 b1 b2, ?_, fun h => by simp at h; omega⟩
      by_cases hs : sa + sb ≤ 9007199254740991
      · rw [decide_eq_true hs, if_pos rfl]
        cases ma
        · rw [val_pos, val_pos, val_pos, add3, intR_in _ (by omega) hs]
        · by_cases h0 : sa = 0
          · subst h0
            by_cases h0' : sb = 0
            · subst h0'; rfl
            · rw [Int.zero_add, val_nz, val_neg sb h0']; rfl
          · by_cases h0' : sb = 0
            · subst h0'; rw [Int.add_zero, val_nz, val_neg sa h0]; rfl
            · rw [val_neg sa h0, val_neg sb h0', val_neg (sa + sb) (by omega), add3, intR_in _ (by omega) (by omega), show -sa + -sb = -(sa + sb) by omega]
      · rw [decide_eq_false hs, if_neg (by decide)]
        have h0 : sa ≠ 0 := by omega
        have h0' : sb ≠ 0 := by omega
        cases ma
        · rw [val_pos, val_pos, add3, intR_out _ (by omega)]
        · rw [val_neg sa h0, val_neg sb h0', add3, intR_out _ (by omega)]
    · have hmb : (ma == mb) = false := by simpa using hm
      rcases Int.lt_trichotomy sa sb with h | h | h
      · refine ⟨119, mb, sb - sa, true, fun W => sum_lt ma mb sa sb W hmb a1 a2 b1 b2 h, ?_, fun _ => by omega⟩
        rw [if_pos rfl]
        have h0' : sb ≠ 0 := by omega
        cases ma <;> cases mb <;> simp at hm
        · rw [val_pos, val_neg sb h0', val_neg (sb - sa) (by omega), add3, intR_in _ (by omega) (by omega), show sa + -sb = -(sb - sa) by omega]
        · by_cases h0 : sa = 0
          · subst h0; rw [val_nz, val_pos, val_pos, Int.sub_zero]; rfl
          · rw [val_neg sa h0, val_pos, val_pos, add3, intR_in _ (by omega) (by omega), show -sa + sb = sb - sa by omega]
      · subst h
        refine ⟨119, false, 0, true, fun W => sum_eq ma mb sa W hmb a1 a2, ?_, fun _ => by decide⟩
        rw [if_pos rfl]
        by_cases h0 : sa = 0
        · subst h0; cases ma <;> cases mb <;> first | rfl | simp at hm
        · cases ma <;> cases mb <;> simp at hm
          · rw [val_pos, val_neg sa h0, add3, intR_in _ (by omega) (by omega), Int.add_right_neg]; rfl
          · rw [val_pos, val_neg sa h0, add3, intR_in _ (by omega) (by omega), Int.add_left_neg]; rfl
      · refine ⟨119, ma, sa - sb, true, fun W => sum_gt ma mb sa sb W hmb a1 a2 b1 b2 h, ?_, fun _ => by omega⟩
        rw [if_pos rfl]
        have h0 : sa ≠ 0 := by omega
        cases ma <;> cases mb <;> simp at hm
        · by_cases h0' : sb = 0
          · subst h0'; rw [val_nz, val_pos, val_pos, Int.sub_zero]; rfl
          · rw [val_pos, val_neg sb h0', val_pos, add3, intR_in _ (by omega) (by omega), show sa + -sb = sa - sb by omega]
        · rw [val_neg sa h0, val_pos, val_neg (sa - sb) (by omega), add3, intR_in _ (by omega) (by omega), show -sa + sb = -(sa - sb) by omega]

theorem prod_ww (ma mb : Bool) (sa sb : Int) (W : World) (h1 : 1 ≤ sa) (h2 : sa ≤ 9007199254740991) (h3 : 0 ≤ sb) (h4 : sb ≤ 9007199254740991) :
    Calls Tryd.prog 82 #[RV 119 ma sa, RV 119 mb sb] W (Ret (if 9007199254740991 / sa < sb then RT 0 false 0 false else RT 119 (ma != mb) (sa * sb) true) W) := by
  by_cases h : 9007199254740991 / sa < sb
  · rw [if_pos h]
    cases ma <;> cases mb
    · exact prod_no_false_false sa sb W h1 h2 h3 h4 h
    · exact prod_no_false_true sa sb W h1 h2 h3 h4 h
    · exact prod_no_true_false sa sb W h1 h2 h3 h4 h
    · exact prod_no_true_true sa sb W h1 h2 h3 h4 h
  · rw [if_neg h]
    have p2 : sb * sa ≤ 9007199254740991 := (Int.le_ediv_iff_mul_le (by omega)).1 (by omega)
    rw [Int.mul_comm] at p2
    have p1 : 0 ≤ sa * sb := Int.mul_nonneg (by omega) h3
    cases ma <;> cases mb
    · exact prod_yes_false_false sa sb W h1 h2 h3 h4 h p1 p2
    · exact prod_yes_false_true sa sb W h1 h2 h3 h4 h p1 p2
    · exact prod_yes_true_false sa sb W h1 h2 h3 h4 h p1 p2
    · exact prod_yes_true_true sa sb W h1 h2 h3 h4 h p1 p2

theorem sign_pos (s : Int) (h : 1 ≤ s) : belowB 3 s = false ∧ noneB 3 s = false := by
  constructor
  · simp [belowB]; omega
  · simp [noneB]; omega
theorem sign_neg (s : Int) (h : 1 ≤ s) : belowB 3 (-s) = true ∧ noneB 3 (-s) = false := by
  constructor
  · simp [belowB]; omega
  · simp [noneB]; omega

theorem prod_form (da : Int) (ma : Bool) (sa db : Int) (mb : Bool) (sb : Int) (A : Form da sa) (B : Form db sb) :
    Agrees (mulR (valR da ma sa).1 (valR da ma sa).2 (valR db mb sb).1 (valR db mb sb).2) (fun v => ∀ W, Calls Tryd.prog 82 #[RV da ma sa, RV db mb sb] W (Ret v W)) := by
  rcases A with ⟨rfl, rfl⟩ | ⟨rfl, a1, a2⟩ <;> rcases B with ⟨rfl, rfl⟩ | ⟨rfl, b1, b2⟩
  · refine ⟨105, ma != mb, 0, true, prod_ii ma mb, ?_, fun _ => by decide⟩
    cases ma <;> cases mb <;> rfl
  · by_cases h0 : sb = 0
    · subst h0
      refine ⟨110, false, 0, true, fun W => prod_iw ma mb 0 W, ?_, fun _ => by decide⟩
      cases ma <;> cases mb <;> rfl
    · have p := sign_pos sb (by omega)
      have n := sign_neg sb (by omega)
      refine ⟨105, ma != mb, 0, true, fun W => by have := prod_iw ma mb sb W; rwa [if_neg (by simpa using h0)] at this, ?_, fun _ => by decide⟩
      cases ma <;> cases mb <;> first | (rw [val_pos]; simp only [val_inf, mulR, p.1, p.2]; rfl) | (rw [val_neg sb h0]; simp only [val_inf, mulR, n.1, n.2]; rfl)
  · by_cases h0 : sa = 0
    · subst h0
      refine ⟨110, false, 0, true, fun W => prod_wi ma mb 0 W, ?_, fun _ => by decide⟩
      cases ma <;> cases mb <;> rfl
    · have p := sign_pos sa (by omega)
      have n := sign_neg sa (by omega)
      refine ⟨105, ma != mb, 0, true, fun W => by have := prod_wi ma mb sa W; rwa [if_neg (by simpa using h0)] at this, ?_, fun _ => by decide⟩
      cases ma <;> cases mb <;> first | (rw [val_pos]; simp only [val_inf, mulR, p.1, p.2]; rfl) | (rw [val_neg sa h0]; simp only [val_inf, mulR, n.1, n.2]; rfl)
  · by_cases h0 : sa = 0
    · subst h0
      refine ⟨119, ma != mb, 0, true, fun W => ?_, ?_, fun _ => by decide⟩
      · cases ma <;> cases mb
        · exact prod_0w_false_false sb W b1 b2
        · exact prod_0w_false_true sb W b1 b2
        · exact prod_0w_true_false sb W b1 b2
        · exact prod_0w_true_true sb W b1 b2
      · by_cases h0' : sb = 0
        · subst h0'; cases ma <;> cases mb <;> rfl
        · have p := sign_pos sb (by omega)
          have n := sign_neg sb (by omega)
          cases ma <;> cases mb <;> first | (rw [val_pos sb]; simp only [val_pos, val_nz, mulR, p.1, p.2]; rfl) | (rw [val_neg sb h0']; simp only [val_pos, val_nz, mulR, n.1, n.2]; rfl)
    · have P := fun W => prod_ww ma mb sa sb W (by omega) a2 b1 b2
      by_cases h0' : sb = 0
      · subst h0'
        have hd : ¬ 9007199254740991 / sa < 0 := by have := Int.ediv_nonneg (show (0 : Int) ≤ 9007199254740991 by decide) (show 0 ≤ sa by omega); omega
        refine ⟨119, ma != mb, 0, true, fun W => by have := P W; rwa [if_neg hd, Int.mul_zero] at this, ?_, fun _ => by decide⟩
        have p := sign_pos sa (by omega)
        have n := sign_neg sa (by omega)
        cases ma <;> cases mb <;> first | (rw [val_pos sa]; simp only [val_pos, val_nz, mulR, p.1, p.2]; rfl) | (rw [val_neg sa h0]; simp only [val_pos, val_nz, mulR, n.1, n.2]; rfl)
      · have i1 : ∀ x : Int, (x = sa ∨ x = -sa) → IsNum 3 x := fun x hx => .inr (.inr (.inr ⟨rfl, by omega, by omega⟩))
        have i2 : ∀ x : Int, (x = sb ∨ x = -sb) → IsNum 3 x := fun x hx => .inr (.inr (.inr ⟨rfl, by omega, by omega⟩))
        have pp : 1 ≤ sa * sb := by have := Int.mul_pos (show 0 < sa by omega) (show 0 < sb by omega); omega
        have e1 : mulR (valR 119 ma sa).1 (valR 119 ma sa).2 (valR 119 mb sb).1 (valR 119 mb sb).2 = intR (if (ma != mb) = true then -(sa * sb) else sa * sb) := by
          cases ma <;> cases mb
          · rw [val_pos, val_pos, mul3 _ _ (i1 _ (.inl rfl)) (i2 _ (.inl rfl)) h0 h0']; rfl
          · rw [val_pos, val_neg sb h0', mul3 _ _ (i1 _ (.inl rfl)) (i2 _ (.inr rfl)) h0 (by show -sb ≠ 0; omega)]; show intR (sa * -sb) = _; rw [Int.mul_neg]; rfl
          · rw [val_neg sa h0, val_pos, mul3 _ _ (i1 _ (.inr rfl)) (i2 _ (.inl rfl)) (by show -sa ≠ 0; omega) h0']; show intR (-sa * sb) = _; rw [Int.neg_mul]; rfl
          · rw [val_neg sa h0, val_neg sb h0', mul3 _ _ (i1 _ (.inr rfl)) (i2 _ (.inr rfl)) (by show -sa ≠ 0; omega) (by show -sb ≠ 0; omega)]; show intR (-sa * -sb) = _; rw [Int.neg_mul_neg]; rfl
        by_cases h : 9007199254740991 / sa < sb
        · refine ⟨0, false, 0, false, fun W => by have := P W; rwa [if_pos h] at this, ?_, fun h => by cases h⟩
          have big : 9007199254740991 < sa * sb := by
            rcases Int.lt_or_le 9007199254740991 (sa * sb) with hb | hb
            · exact hb
            · rw [Int.mul_comm] at hb
              have := (Int.le_ediv_iff_mul_le (show 0 < sa by omega)).2 hb
              omega
          rw [e1, intR_out _ (by cases ma <;> cases mb <;> simp <;> omega), if_neg (by decide)]
        · have p2 : sb * sa ≤ 9007199254740991 := (Int.le_ediv_iff_mul_le (by omega)).1 (by omega)
          rw [Int.mul_comm] at p2
          refine ⟨119, ma != mb, sa * sb, true, fun W => by have := P W; rwa [if_neg h] at this, ?_, fun _ => by omega⟩
          rw [e1, if_pos rfl]
          have hne : sa * sb ≠ 0 := by omega
          cases ma <;> cases mb
          · show intR (sa * sb) = _; rw [intR_in _ (by omega) (by omega)]; show _ = ((valR 119 false (sa * sb)).1, (valR 119 false (sa * sb)).2, true); rw [val_pos]
          · show intR (-(sa * sb)) = _; rw [intR_in _ (by omega) (by omega)]; show _ = ((valR 119 true (sa * sb)).1, (valR 119 true (sa * sb)).2, true); rw [val_neg _ hne]
          · show intR (-(sa * sb)) = _; rw [intR_in _ (by omega) (by omega)]; show _ = ((valR 119 true (sa * sb)).1, (valR 119 true (sa * sb)).2, true); rw [val_neg _ hne]
          · show intR (sa * sb) = _; rw [intR_in _ (by omega) (by omega)]; show _ = ((valR 119 false (sa * sb)).1, (valR 119 false (sa * sb)).2, true); rw [val_pos]

end Go.Proofs.YtjkboelcpihphaaDoor

/- What the reference's quotient and Rem answer for any numbers, held against num's Div and Rem. -/
set_option linter.unusedVariables false
set_option linter.unusedSimpArgs false
namespace Go.Proofs.YtjkboelcpihphaaDoor
open Go.RowKit

theorem quo_facts (sa sb : Int) (h1 : 0 ≤ sa) (h3 : 1 ≤ sb) : 0 ≤ sa / sb ∧ sa / sb ≤ sa ∧ 0 ≤ sa / sb * sb ∧ sa / sb * sb ≤ sa ∧ sb * (sa / sb) + sa % sb = sa ∧ 0 ≤ sa % sb ∧ sa % sb < sb := by
  have e := Int.mul_ediv_add_emod sa sb
  have m0 := Int.emod_nonneg sa (show sb ≠ 0 by omega)
  have m1 := Int.emod_lt_of_pos sa (show 0 < sb by omega)
  have d0 := Int.ediv_nonneg h1 (show 0 ≤ sb by omega)
  have d1 := Int.ediv_le_self sb h1
  have p := Int.mul_nonneg (show 0 ≤ sb by omega) d0
  have c := Int.mul_comm sb (sa / sb)
  refine ⟨d0, d1, by omega, by omega, e, m0, m1⟩

theorem quot_ww (ma mb : Bool) (sa sb : Int) (W : World) (h1 : 0 ≤ sa) (h2 : sa ≤ 9007199254740991) (h3 : 1 ≤ sb) (h4 : sb ≤ 9007199254740991) :
    Calls Tryd.prog 83 #[RV 119 ma sa, RV 119 mb sb] W (Ret (RT 119 (ma != mb) (sa / sb) (sa / sb * sb == sa)) W) := by
  obtain ⟨p0, p3, p1, p2, _⟩ := quo_facts sa sb h1 h3
  cases ma <;> cases mb
  · exact quot_false_false sa sb W h1 h2 h3 h4 p0 p3 p1 p2
  · exact quot_false_true sa sb W h1 h2 h3 h4 p0 p3 p1 p2
  · exact quot_true_false sa sb W h1 h2 h3 h4 p0 p3 p1 p2
  · exact quot_true_true sa sb W h1 h2 h3 h4 p0 p3 p1 p2

theorem quot_form (da : Int) (ma : Bool) (sa db : Int) (mb : Bool) (sb : Int) (A : Form da sa) (B : Form db sb) :
    Agrees (divR (valR da ma sa).1 (valR da ma sa).2 (valR db mb sb).1 (valR db mb sb).2) (fun v => ∀ W, Calls Tryd.prog 83 #[RV da ma sa, RV db mb sb] W (Ret v W)) := by
  rcases A with ⟨rfl, rfl⟩ | ⟨rfl, a1, a2⟩ <;> rcases B with ⟨rfl, rfl⟩ | ⟨rfl, b1, b2⟩
  · refine ⟨110, false, 0, true, quot_ii ma mb, ?_, fun _ => by decide⟩
    cases ma <;> cases mb <;> rfl
  · refine ⟨105, ma != mb, 0, true, fun W => quot_iw ma mb sb W, ?_, fun _ => by decide⟩
    by_cases h0 : sb = 0
    · subst h0; cases ma <;> cases mb <;> rfl
    · have p := sign_pos sb (by omega)
      have n := sign_neg sb (by omega)
      cases ma <;> cases mb <;> first | (rw [val_pos]; simp only [val_inf, divR, p.1, p.2]; rfl) | (rw [val_neg sb h0]; simp only [val_inf, divR, n.1, n.2]; rfl)
  · refine ⟨119, ma != mb, 0, true, fun W => quot_wi ma mb sa W, ?_, fun _ => by decide⟩
    by_cases h0 : sa = 0
    · subst h0; cases ma <;> cases mb <;> rfl
    · have p := sign_pos sa (by omega)
      have n := sign_neg sa (by omega)
      cases ma <;> cases mb <;> first | (rw [val_pos sa]; simp only [val_pos, val_nz, val_inf, divR, p.1, p.2]; rfl) | (rw [val_neg sa h0]; simp only [val_pos, val_nz, val_inf, divR, n.1, n.2]; rfl)
  · by_cases h0' : sb = 0
    · subst h0'
      by_cases h0 : sa = 0
      · subst h0
        refine ⟨110, false, 0, true, fun W => quot_w0 ma mb 0 W, ?_, fun _ => by decide⟩
        cases ma <;> cases mb <;> rfl
      · refine ⟨105, ma != mb, 0, true, fun W => by have := quot_w0 ma mb sa W; rwa [if_neg (by simpa using h0)] at this, ?_, fun _ => by decide⟩
        have p := sign_pos sa (by omega)
        have n := sign_neg sa (by omega)
        cases ma <;> cases mb <;> first | (rw [val_pos sa]; simp only [val_pos, val_nz, val_inf, divR, p.1, p.2]; rfl) | (rw [val_neg sa h0]; simp only [val_pos, val_nz, val_inf, divR, n.1, n.2]; rfl)
    · have P := fun W => quot_ww ma mb sa sb W a1 a2 (by omega) b2
      obtain ⟨p0, p3, p1, p2, e, m0, m1⟩ := quo_facts sa sb a1 (by omega)
      by_cases h0 : sa = 0
      · subst h0
        refine ⟨119, ma != mb, 0, true, fun W => by have := P W; rwa [Int.zero_ediv, Int.zero_mul] at this, ?_, fun _ => by decide⟩
        have p := sign_pos sb (by omega)
        have n := sign_neg sb (by omega)
        cases ma <;> cases mb <;> first | (rw [val_pos sb]; simp only [val_pos, val_nz, divR, p.1, p.2]; rfl) | (rw [val_neg sb h0']; simp only [val_pos, val_nz, divR, n.1, n.2]; rfl)
      · have i1 : ∀ x : Int, (x = sa ∨ x = -sa) → IsNum 3 x := fun x hx => .inr (.inr (.inr ⟨rfl, by omega, by omega⟩))
        have i2 : ∀ x : Int, (x = sb ∨ x = -sb) → IsNum 3 x := fun x hx => .inr (.inr (.inr ⟨rfl, by omega, by omega⟩))
        have t1 : sa.tmod sb = sa % sb := Int.tmod_eq_emod_of_nonneg a1
        have t2 : sa.tdiv sb = sa / sb := Int.tdiv_eq_ediv_of_nonneg a1
        have e1 : divR (valR 119 ma sa).1 (valR 119 ma sa).2 (valR 119 mb sb).1 (valR 119 mb sb).2 = if sa % sb = 0 then (3, (if (ma != mb) = true then -(sa / sb) else sa / sb), true) else (0, 0, false) := by
          cases ma <;> cases mb
          · rw [val_pos, val_pos, div3 _ _ (i1 _ (.inl rfl)) (i2 _ (.inl rfl)) h0 h0']; show (if sa.tmod sb = 0 then _ else _) = _; rw [t1, t2]; rfl
          · rw [val_pos, val_neg sb h0', div3 _ _ (i1 _ (.inl rfl)) (i2 _ (.inr rfl)) h0 (by show -sb ≠ 0; omega)]; show (if sa.tmod (-sb) = 0 then (3, sa.tdiv (-sb), true) else _) = _; rw [Int.tmod_neg, Int.tdiv_neg, t1, t2]; rfl
          · rw [val_neg sa h0, val_pos, div3 _ _ (i1 _ (.inr rfl)) (i2 _ (.inl rfl)) (by show -sa ≠ 0; omega) h0']; show (if (-sa).tmod sb = 0 then (3, (-sa).tdiv sb, true) else _) = _; rw [Int.neg_tmod, Int.neg_tdiv, t1, t2]; simp only [Int.neg_eq_zero]; rfl
          · rw [val_neg sa h0, val_neg sb h0', div3 _ _ (i1 _ (.inr rfl)) (i2 _ (.inr rfl)) (by show -sa ≠ 0; omega) (by show -sb ≠ 0; omega)]; show (if (-sa).tmod (-sb) = 0 then (3, (-sa).tdiv (-sb), true) else _) = _; rw [Int.tmod_neg, Int.tdiv_neg, Int.neg_tmod, Int.neg_tdiv, t1, t2, Int.neg_neg]; simp only [Int.neg_eq_zero]; rfl
        have c := Int.mul_comm sb (sa / sb)
        by_cases hm : sa % sb = 0
        · have hq : (sa / sb * sb == sa) = true := by rw [beq_iff_eq]; omega
          rw [hq] at P
          refine ⟨119, ma != mb, sa / sb, true, P, ?_, fun _ => by omega⟩
          have hne : sa / sb ≠ 0 := fun h => by rw [h] at c e; omega
          rw [e1, if_pos hm, if_pos rfl]
          cases ma <;> cases mb
          · show (3, sa / sb, true) = ((valR 119 false (sa / sb)).1, (valR 119 false (sa / sb)).2, true); rw [val_pos]
          · show (3, -(sa / sb), true) = ((valR 119 true (sa / sb)).1, (valR 119 true (sa / sb)).2, true); rw [val_neg _ hne]
          · show (3, -(sa / sb), true) = ((valR 119 true (sa / sb)).1, (valR 119 true (sa / sb)).2, true); rw [val_neg _ hne]
          · show (3, sa / sb, true) = ((valR 119 false (sa / sb)).1, (valR 119 false (sa / sb)).2, true); rw [val_pos]
        · have hq : (sa / sb * sb == sa) = false := by rw [beq_eq_false_iff_ne]; omega
          rw [hq] at P
          refine ⟨119, ma != mb, sa / sb, false, P, ?_, fun h => by cases h⟩
          rw [e1, if_neg hm, if_neg (by decide)]

theorem rem_form (da : Int) (ma : Bool) (sa db : Int) (mb : Bool) (sb : Int) (A : Form da sa) (B : Form db sb) :
    ∃ d m s, (∀ W, Calls Tryd.prog 65 #[RV da ma sa, RV db mb sb] W (Ret (RV d m s) W)) ∧ valR d m s = remR (valR da ma sa).1 (valR da ma sa).2 (valR db mb sb).1 (valR db mb sb).2 ∧ 0 ≤ s ∧ s ≤ 9007199254740992 := by
  rcases A with ⟨rfl, rfl⟩ | ⟨rfl, a1, a2⟩
  · refine ⟨110, false, 0, fun W => rem_x ma mb 105 0 db sb W rfl, ?_, by decide, by decide⟩
    rw [val_inf]
    simp [valR, remR]
  rcases B with ⟨rfl, rfl⟩ | ⟨rfl, b1, b2⟩
  · refine ⟨119, ma, sa, rem_i ma mb sa, ?_, a1, by omega⟩
    by_cases h0 : sa = 0
    · subst h0; cases ma <;> cases mb <;> rfl
    · cases ma <;> cases mb <;> first | (rw [val_pos]; rfl) | (rw [val_neg sa h0]; rfl)
  · by_cases h0' : sb = 0
    · subst h0'
      refine ⟨110, false, 0, rem_0 ma mb sa, ?_, by decide, by decide⟩
      by_cases h0 : sa = 0
      · subst h0; cases ma <;> cases mb <;> rfl
      · cases ma <;> cases mb <;> first | (rw [val_pos sa]; rfl) | (rw [val_neg sa h0]; rfl)
    · obtain ⟨p0, p3, p1, p2, e, m0, m1⟩ := quo_facts sa sb a1 (by omega)
      have c := Int.mul_comm sb (sa / sb)
      have es : sa - sa / sb * sb = sa % sb := by omega
      have R := fun W => rem_w ma mb sa sb W a1 a2 (by omega) b2 p0 p3 p1 p2
      rw [es] at R
      refine ⟨119, ma, sa % sb, R, ?_, m0, by omega⟩
      have p := sign_pos sb (by omega)
      have n := sign_neg sb (by omega)
      by_cases h0 : sa = 0
      · subst h0
        rw [Int.zero_emod]
        cases ma <;> cases mb <;> first | (rw [val_pos sb]; simp only [val_pos, val_nz, remR, p.1, p.2]; rfl) | (rw [val_neg sb h0']; simp only [val_pos, val_nz, remR, n.1, n.2]; rfl)
      · have q := sign_pos sa (by omega)
        have r := sign_neg sa (by omega)
        have t1 : sa.tmod sb = sa % sb := Int.tmod_eq_emod_of_nonneg a1
        have key : ∀ y, noneB 3 y = false → (sa.tmod y = sa % sb) → remR 3 sa 3 y = valR 119 false (sa % sb) ∧ remR 3 (-sa) 3 y = valR 119 true (sa % sb) := by
          intro y hy ht
          have hn : (-sa).tmod y = -(sa % sb) := by rw [Int.neg_tmod, ht]
          by_cases hm : sa % sb = 0
          · constructor
            · rw [hm, val_pos]; simp [remR, hy, q.2, ht, hm, zkI]; omega
            · rw [hm, val_nz]; simp [remR, hy, r.2, hn, hm, zkI]; omega
          · constructor
            · rw [val_pos]; simp [remR, hy, q.2, ht, hm]
            · rw [val_neg _ hm]; simp [remR, hy, r.2, hn, hm]
        have k1 := key sb p.2 t1
        have k2 := key (-sb) n.2 (by rw [Int.tmod_neg]; exact t1)
        cases ma <;> cases mb
        · rw [val_pos sa, val_pos sb]; exact k1.1.symm
        · rw [val_pos sa, val_neg sb h0']; exact k2.1.symm
        · rw [val_neg sa h0, val_pos sb]; exact k1.2.symm
        · rw [val_neg sa h0, val_neg sb h0']; exact k2.2.symm

end Go.Proofs.YtjkboelcpihphaaDoor

/- The statement NumDoes, from its walk and plain laws. -/
set_option linter.unusedVariables false
set_option linter.unusedSimpArgs false
namespace Go.Proofs.YtjkboelcpihphaaDoor
open Go.RowKit

theorem ofR_fac {k n : Int} (h : IsNum k n) : ((ofR k n).1 == 110) = (k == 4) := by
  rcases h.forms with ⟨rfl, rfl, e⟩ | ⟨d, m, s, F, v, e⟩
  · rfl
  · rw [e]
    rcases F with ⟨rfl, rfl⟩ | ⟨rfl, _, _⟩
    · have : k = 5 := by have := congrArg (·.1) v; simpa [valR] using this.symm
      subst this; rfl
    · have : k = 6 ∨ k = 3 := by
        have h1 := congrArg (·.1) v
        simp only [valR] at h1
        by_cases hc : (s == 0 && m) = true
        · left; simpa [hc] using h1.symm
        · right; simpa [hc] using h1.symm
      rcases this with rfl | rfl <;> rfl
/-- What Do answers for an operation, held against num's own. -/
def DoOK (op : Int) (r : Int × Int × Bool) (ka na kb nb : Int) : Prop :=
  ∃ pk pn d s : Int, ∃ m ok : Bool, r = (pk, pn, ok) ∧ (∀ W, Calls Tryd.prog 67 #[.int .u8 op, OV ka na, OV kb nb] W (Ret (RT d m s ok) W)) ∧
    (ok = true → ∀ W, Calls Tryd.prog 66 #[RV d m s] W (Ret (VN pk pn) W)) ∧ (ok = false → pk = 0 ∧ pn = 0)
theorem doOK_of {op : Int} {r : Int × Int × Bool} {ka na kb nb : Int} (C : Value → Prop) (h : Agrees r C)
    (hC : ∀ d m s ok, C (RT d m s ok) → ∀ W, Calls Tryd.prog 67 #[.int .u8 op, OV ka na, OV kb nb] W (Ret (RT d m s ok) W)) : DoOK op r ka na kb nb := by
  obtain ⟨d, m, s, ok, hc, hr, hs⟩ := h
  cases ok with
  | true => exact ⟨_, _, d, s, m, true, hr, hC d m s true hc, fun _ W => val_any d m s W (hs rfl).1 (hs rfl).2, (fun h => by cases h)⟩
  | false => exact ⟨0, 0, d, s, m, false, hr, hC d m s false hc, (fun h => by cases h), fun _ => ⟨rfl, rfl⟩⟩
theorem doOK_nan {op : Int} {r : Int × Int × Bool} {ka na kb nb : Int} (hr : r = (4, 0, true)) (ha : IsNum ka na) (hb : IsNum kb nb) (h : ka = 4 ∨ kb = 4) : DoOK op r ka na kb nb := by
  refine ⟨4, 0, 110, 0, false, true, hr, fun W => do_nan op _ _ _ _ _ _ W ?_, fun _ W => val_any 110 false 0 W (by decide) (by decide), (fun h => by cases h)⟩
  have f1 := (ofR_fac ha)
  have f2 := (ofR_fac hb)
  rw [f1, f2]
  rcases h with rfl | rfl
  · exact .inl rfl
  · by_cases h4 : ka = 4
    · exact .inl (by simpa using h4)
    · exact .inr ⟨by simpa using h4, rfl⟩

theorem form_ne {d s : Int} (h : Form d s) : (d == 110) = false := by rcases h with ⟨rfl, _⟩ | ⟨rfl, _⟩ <;> rfl

theorem do_all (ka na kb nb : Int) (ha : IsNum ka na) (hb : IsNum kb nb) :
    DoOK 43 (addR ka na kb nb) ka na kb nb ∧ DoOK 45 (subR ka na kb nb) ka na kb nb ∧ DoOK 42 (mulR ka na kb nb) ka na kb nb ∧ DoOK 47 (divR ka na kb nb) ka na kb nb := by
  rcases ha.forms with ⟨rfl, rfl, e⟩ | ⟨d, m, s, F, v, e⟩
  · refine ⟨doOK_nan ?_ ha hb (.inl rfl), doOK_nan ?_ ha hb (.inl rfl), doOK_nan ?_ ha hb (.inl rfl), doOK_nan ?_ ha hb (.inl rfl)⟩
    · simp [addR]
    · simp [subR, addR]
    · simp [mulR]
    · simp [divR]
  rcases hb.forms with ⟨rfl, rfl, e'⟩ | ⟨d', m', s', F', v', e'⟩
  · refine ⟨doOK_nan ?_ ha hb (.inr rfl), doOK_nan ?_ ha hb (.inr rfl), doOK_nan ?_ ha hb (.inr rfl), doOK_nan ?_ ha hb (.inr rfl)⟩
    · simp [addR]
    · simp [subR, addR, negR]
    · simp [mulR]
    · simp [divR]
  have n1 := form_ne F
  have n2 := form_ne F'
  have g1 := sum_form d m s d' m' s' F F'
  have g2 := sum_form d m s d' (!m') s' F F'
  have g3 := prod_form d m s d' m' s' F F'
  have g4 := quot_form d m s d' m' s' F F'
  have nv := neg_val d' m' s' F'
  rw [← nv] at g2
  rw [v, v'] at g1 g2 g3 g4
  have o1 : OV ka na = RV d m s := by show RV (ofR ka na).1 (ofR ka na).2.1 (ofR ka na).2.2 = _; rw [e]
  have o2 : OV kb nb = RV d' m' s' := by show RV (ofR kb nb).1 (ofR kb nb).2.1 (ofR kb nb).2.2 = _; rw [e']
  refine ⟨doOK_of _ g1 fun x y z ok hc W => ?_, doOK_of _ g2 fun x y z ok hc W => ?_, doOK_of _ g3 fun x y z ok hc W => ?_, doOK_of _ g4 fun x y z ok hc W => ?_⟩
  · rw [o1, o2]; exact do_add d d' m m' s s' x y z ok W n1 n2 hc
  · rw [o1, o2]; exact do_sub d d' m m' s s' x y z ok W n1 n2 hc
  · rw [o1, o2]; exact do_mul d d' m m' s s' x y z ok W n1 n2 hc
  · rw [o1, o2]; exact do_div d d' m m' s s' x y z ok W n1 n2 hc

theorem rem_all (ka na kb nb : Int) (ha : IsNum ka na) (hb : IsNum kb nb) :
    ∃ x y z, (∀ W, Calls Tryd.prog 65 #[OV ka na, OV kb nb] W (Ret (RV x y z) W)) ∧ valR x y z = remR ka na kb nb ∧ 0 ≤ z ∧ z ≤ 9007199254740992 := by
  rcases ha.forms with ⟨rfl, rfl, e⟩ | ⟨d, m, s, F, v, e⟩
  · exact ⟨110, false, 0, fun W => rem_x false _ 110 0 _ _ W rfl, by simp [valR, remR], by decide, by decide⟩
  have o1 : OV ka na = RV d m s := by show RV (ofR ka na).1 (ofR ka na).2.1 (ofR ka na).2.2 = _; rw [e]
  rcases hb.forms with ⟨rfl, rfl, e'⟩ | ⟨d', m', s', F', v', e'⟩
  · refine ⟨110, false, 0, fun W => ?_, by simp [valR, remR], by decide, by decide⟩
    rw [o1]
    rcases F with ⟨rfl, rfl⟩ | ⟨rfl, _, _⟩
    · exact rem_x m false 105 0 110 0 W rfl
    · exact rem_n m false s 0 W
  have o2 : OV kb nb = RV d' m' s' := by show RV (ofR kb nb).1 (ofR kb nb).2.1 (ofR kb nb).2.2 = _; rw [e']
  obtain ⟨x, y, z, c, hv, h1, h2⟩ := rem_form d m s d' m' s' F F'
  rw [v, v'] at hv
  exact ⟨x, y, z, fun W => by rw [o1, o2]; exact c W, hv, h1, h2⟩

end Go.Proofs.YtjkboelcpihphaaDoor
