/- Contracts of the reference's quotient and Rem of whole numbers, and of Do. -/
import Derived.Test.YtdacpebijljckaaDoorNumW
import Derived.BigRegion
import Derived.ChangeAlike
set_option linter.unusedVariables false
set_option linter.unusedSimpArgs false
namespace Go.Proofs.YtdacpebijljckaaDoor
open Go.RowKit

set_option maxHeartbeats 4000000 in
theorem do_add (da db : Int) (ma mb : Bool) (sa sb : Int) (d : Int) (m : Bool) (s : Int) (ok : Bool) (w : World) (h1 : (da == 110) = false) (h2 : (db == 110) = false)
    (C : ∀ W, Calls Tryd.prog 38 #[RV da ma sa, RV db mb sb] W (Ret (RT d m s ok) W)) : Calls Tryd.prog 24 #[.int .u8 43, RV da ma sa, RV db mb sb] w (Ret (RT d m s ok) w) := by
  have HC := Lib.hid C
  clear C
  go_enter Tryd.func24, Tryd.ntmps24
  go_wp2_with fail
  refine (HC.out _).mono ?_
  rintro e w' ⟨rfl, bI⟩
  obtain ⟨hc, hf⟩ := bcell bI
  have hz := bI.size
  (try simp only [World.size_alloc] at hz)
  go_wp2
  exact bodyPost_ret (v := RT d m s ok) (by simp [results, Tryd.results24, go_sem, hc]) rfl ⟨rfl, by repeat (first | exact Below.refl _ _ | with_reducible assumption | (refine Below.alloc ?_ (by first | omega | (simp; omega) | simp) _) | (refine Below.setCell ?_ (by first | omega | (simp; omega) | simp) _) | (refine Below.trans ?_ (Below.mono (by assumption) (by first | omega | (simp; omega) | simp))))⟩

set_option maxHeartbeats 4000000 in
theorem do_sub (da db : Int) (ma mb : Bool) (sa sb : Int) (d : Int) (m : Bool) (s : Int) (ok : Bool) (w : World) (h1 : (da == 110) = false) (h2 : (db == 110) = false)
    (C : ∀ W, Calls Tryd.prog 38 #[RV da ma sa, RV db (!mb) sb] W (Ret (RT d m s ok) W)) : Calls Tryd.prog 24 #[.int .u8 45, RV da ma sa, RV db mb sb] w (Ret (RT d m s ok) w) := by
  have HC := Lib.hid C
  clear C
  go_enter Tryd.func24, Tryd.ntmps24
  go_wp2_with fail
  refine (HC.out _).mono ?_
  rintro e w' ⟨rfl, bI⟩
  obtain ⟨hc, hf⟩ := bcell bI
  have hz := bI.size
  (try simp only [World.size_alloc] at hz)
  go_wp2
  exact bodyPost_ret (v := RT d m s ok) (by simp [results, Tryd.results24, go_sem, hc]) rfl ⟨rfl, by repeat (first | exact Below.refl _ _ | with_reducible assumption | (refine Below.alloc ?_ (by first | omega | (simp; omega) | simp) _) | (refine Below.setCell ?_ (by first | omega | (simp; omega) | simp) _) | (refine Below.trans ?_ (Below.mono (by assumption) (by first | omega | (simp; omega) | simp))))⟩

set_option maxHeartbeats 4000000 in
theorem do_mul (da db : Int) (ma mb : Bool) (sa sb : Int) (d : Int) (m : Bool) (s : Int) (ok : Bool) (w : World) (h1 : (da == 110) = false) (h2 : (db == 110) = false)
    (C : ∀ W, Calls Tryd.prog 39 #[RV da ma sa, RV db mb sb] W (Ret (RT d m s ok) W)) : Calls Tryd.prog 24 #[.int .u8 42, RV da ma sa, RV db mb sb] w (Ret (RT d m s ok) w) := by
  have HC := Lib.hid C
  clear C
  go_enter Tryd.func24, Tryd.ntmps24
  go_wp2_with fail
  refine (HC.out _).mono ?_
  rintro e w' ⟨rfl, bI⟩
  obtain ⟨hc, hf⟩ := bcell bI
  have hz := bI.size
  (try simp only [World.size_alloc] at hz)
  go_wp2
  exact bodyPost_ret (v := RT d m s ok) (by simp [results, Tryd.results24, go_sem, hc]) rfl ⟨rfl, by repeat (first | exact Below.refl _ _ | with_reducible assumption | (refine Below.alloc ?_ (by first | omega | (simp; omega) | simp) _) | (refine Below.setCell ?_ (by first | omega | (simp; omega) | simp) _) | (refine Below.trans ?_ (Below.mono (by assumption) (by first | omega | (simp; omega) | simp))))⟩

set_option maxHeartbeats 4000000 in
theorem do_div (da db : Int) (ma mb : Bool) (sa sb : Int) (d : Int) (m : Bool) (s : Int) (ok : Bool) (w : World) (h1 : (da == 110) = false) (h2 : (db == 110) = false)
    (C : ∀ W, Calls Tryd.prog 40 #[RV da ma sa, RV db mb sb] W (Ret (RT d m s ok) W)) : Calls Tryd.prog 24 #[.int .u8 47, RV da ma sa, RV db mb sb] w (Ret (RT d m s ok) w) := by
  have HC := Lib.hid C
  clear C
  go_enter Tryd.func24, Tryd.ntmps24
  go_wp2_with fail
  refine (HC.out _).mono ?_
  rintro e w' ⟨rfl, bI⟩
  obtain ⟨hc, hf⟩ := bcell bI
  have hz := bI.size
  (try simp only [World.size_alloc] at hz)
  go_wp2
  exact bodyPost_ret (v := RT d m s ok) (by simp [results, Tryd.results24, go_sem, hc]) rfl ⟨rfl, by repeat (first | exact Below.refl _ _ | with_reducible assumption | (refine Below.alloc ?_ (by first | omega | (simp; omega) | simp) _) | (refine Below.setCell ?_ (by first | omega | (simp; omega) | simp) _) | (refine Below.trans ?_ (Below.mono (by assumption) (by first | omega | (simp; omega) | simp))))⟩

set_option maxHeartbeats 4000000 in
theorem do_nan (op : Int) (da db : Int) (ma mb : Bool) (sa sb : Int) (w : World) (h : (da == 110) = true ∨ ((da == 110) = false ∧ (db == 110) = true)) : Calls Tryd.prog 24 #[.int .u8 op, RV da ma sa, RV db mb sb] w (Ret (RT 110 false 0 true) w) := by
  rcases h with t | ⟨t, t'⟩
  · go_enter Tryd.func24, Tryd.ntmps24
    go_wp2
    exact bodyPost_ret (v := RT 110 false 0 true) (by simp [results, Tryd.results24, go_sem, *]) rfl ⟨by simp [*], by repeat (first | exact Below.refl _ _ | with_reducible assumption | (refine Below.alloc ?_ (by first | omega | (simp; omega) | simp) _) | (refine Below.setCell ?_ (by first | omega | (simp; omega) | simp) _) | (refine Below.trans ?_ (Below.mono (by assumption) (by first | omega | (simp; omega) | simp))))⟩
  · go_enter Tryd.func24, Tryd.ntmps24
    go_wp2
    exact bodyPost_ret (v := RT 110 false 0 true) (by simp [results, Tryd.results24, go_sem, *]) rfl ⟨by simp [*], by repeat (first | exact Below.refl _ _ | with_reducible assumption | (refine Below.alloc ?_ (by first | omega | (simp; omega) | simp) _) | (refine Below.setCell ?_ (by first | omega | (simp; omega) | simp) _) | (refine Below.trans ?_ (Below.mono (by assumption) (by first | omega | (simp; omega) | simp))))⟩

set_option maxHeartbeats 4000000 in
theorem quot_false_false (sa sb : Int) (w : World) (h1 : 0 ≤ sa) (h2 : sa ≤ 9007199254740991) (h3 : 1 ≤ sb) (h4 : sb ≤ 9007199254740991) (p0 : 0 ≤ sa / sb) (p3 : sa / sb ≤ sa) (p1 : 0 ≤ sa / sb * sb) (p2 : sa / sb * sb ≤ sa) :
    Calls Tryd.prog 40 #[RV 119 false sa, RV 119 false sb] w (Ret (RT 119 false (sa / sb) (sa / sb * sb == sa)) w) := by
  have t2 : ¬ sb = 0 := by omega
  have t3 : (sb == 0) = false := by simp; omega
  go_enter Tryd.func40, Tryd.ntmps40
  go_wp2_with fail
  go_region
  go_wp2
  exact bodyPost_ret (v := RT 119 false (sa / sb) (sa / sb * sb == sa)) (by simp [results, Tryd.results40, go_sem]) rfl ⟨rfl, by first | exact (((((Below.refl _ _).alloc (Nat.le_refl _) _).alloc (by simp) _).alloc (by simp; omega) _).alloc (by simp; omega) _).drew | exact ((((Below.refl _ _).drew.alloc (Nat.le_refl _) _).alloc (by simp) _).alloc (by simp; omega) _).alloc (by simp; omega) _ | exact ((((Below.refl _ _).alloc (Nat.le_refl _) _).alloc (by simp) _).alloc (by simp; omega) _).alloc (by simp; omega) _⟩

set_option maxHeartbeats 4000000 in
theorem quot_false_true (sa sb : Int) (w : World) (h1 : 0 ≤ sa) (h2 : sa ≤ 9007199254740991) (h3 : 1 ≤ sb) (h4 : sb ≤ 9007199254740991) (p0 : 0 ≤ sa / sb) (p3 : sa / sb ≤ sa) (p1 : 0 ≤ sa / sb * sb) (p2 : sa / sb * sb ≤ sa) :
    Calls Tryd.prog 40 #[RV 119 false sa, RV 119 true sb] w (Ret (RT 119 true (sa / sb) (sa / sb * sb == sa)) w) := by
  have t2 : ¬ sb = 0 := by omega
  have t3 : (sb == 0) = false := by simp; omega
  go_enter Tryd.func40, Tryd.ntmps40
  go_wp2_with fail
  go_region
  go_wp2
  exact bodyPost_ret (v := RT 119 true (sa / sb) (sa / sb * sb == sa)) (by simp [results, Tryd.results40, go_sem]) rfl ⟨rfl, by first | exact (((((Below.refl _ _).alloc (Nat.le_refl _) _).alloc (by simp) _).alloc (by simp; omega) _).alloc (by simp; omega) _).drew | exact ((((Below.refl _ _).drew.alloc (Nat.le_refl _) _).alloc (by simp) _).alloc (by simp; omega) _).alloc (by simp; omega) _ | exact ((((Below.refl _ _).alloc (Nat.le_refl _) _).alloc (by simp) _).alloc (by simp; omega) _).alloc (by simp; omega) _⟩

set_option maxHeartbeats 4000000 in
theorem quot_true_false (sa sb : Int) (w : World) (h1 : 0 ≤ sa) (h2 : sa ≤ 9007199254740991) (h3 : 1 ≤ sb) (h4 : sb ≤ 9007199254740991) (p0 : 0 ≤ sa / sb) (p3 : sa / sb ≤ sa) (p1 : 0 ≤ sa / sb * sb) (p2 : sa / sb * sb ≤ sa) :
    Calls Tryd.prog 40 #[RV 119 true sa, RV 119 false sb] w (Ret (RT 119 true (sa / sb) (sa / sb * sb == sa)) w) := by
  have t2 : ¬ sb = 0 := by omega
  have t3 : (sb == 0) = false := by simp; omega
  go_enter Tryd.func40, Tryd.ntmps40
  go_wp2_with fail
  go_region
  go_wp2
  exact bodyPost_ret (v := RT 119 true (sa / sb) (sa / sb * sb == sa)) (by simp [results, Tryd.results40, go_sem]) rfl ⟨rfl, by first | exact (((((Below.refl _ _).alloc (Nat.le_refl _) _).alloc (by simp) _).alloc (by simp; omega) _).alloc (by simp; omega) _).drew | exact ((((Below.refl _ _).drew.alloc (Nat.le_refl _) _).alloc (by simp) _).alloc (by simp; omega) _).alloc (by simp; omega) _ | exact ((((Below.refl _ _).alloc (Nat.le_refl _) _).alloc (by simp) _).alloc (by simp; omega) _).alloc (by simp; omega) _⟩

set_option maxHeartbeats 4000000 in
theorem quot_true_true (sa sb : Int) (w : World) (h1 : 0 ≤ sa) (h2 : sa ≤ 9007199254740991) (h3 : 1 ≤ sb) (h4 : sb ≤ 9007199254740991) (p0 : 0 ≤ sa / sb) (p3 : sa / sb ≤ sa) (p1 : 0 ≤ sa / sb * sb) (p2 : sa / sb * sb ≤ sa) :
    Calls Tryd.prog 40 #[RV 119 true sa, RV 119 true sb] w (Ret (RT 119 false (sa / sb) (sa / sb * sb == sa)) w) := by
  have t2 : ¬ sb = 0 := by omega
  have t3 : (sb == 0) = false := by simp; omega
  go_enter Tryd.func40, Tryd.ntmps40
  go_wp2_with fail
  go_region
  go_wp2
  exact bodyPost_ret (v := RT 119 false (sa / sb) (sa / sb * sb == sa)) (by simp [results, Tryd.results40, go_sem]) rfl ⟨rfl, by first | exact (((((Below.refl _ _).alloc (Nat.le_refl _) _).alloc (by simp) _).alloc (by simp; omega) _).alloc (by simp; omega) _).drew | exact ((((Below.refl _ _).drew.alloc (Nat.le_refl _) _).alloc (by simp) _).alloc (by simp; omega) _).alloc (by simp; omega) _ | exact ((((Below.refl _ _).alloc (Nat.le_refl _) _).alloc (by simp) _).alloc (by simp; omega) _).alloc (by simp; omega) _⟩

set_option maxHeartbeats 4000000 in
theorem rem_w (ma mb : Bool) (sa sb : Int) (w : World) (h1 : 0 ≤ sa) (h2 : sa ≤ 9007199254740991) (h3 : 1 ≤ sb) (h4 : sb ≤ 9007199254740991) (p0 : 0 ≤ sa / sb) (p3 : sa / sb ≤ sa) (p1 : 0 ≤ sa / sb * sb) (p2 : sa / sb * sb ≤ sa) :
    Calls Tryd.prog 27 #[RV 119 ma sa, RV 119 mb sb] w (Ret (RV 119 ma (sa - sa / sb * sb)) w) := by
  have t2 : ¬ sb = 0 := by omega
  have t3 : (sb == 0) = false := by simp; omega
  go_enter Tryd.func27, Tryd.ntmps27
  go_wp2_with fail
  go_region
  go_wp2
  exact bodyPost_ret (v := RV 119 ma (sa - sa / sb * sb)) (by simp [results, Tryd.results27, go_sem]) rfl ⟨rfl, by first | exact ((((Below.refl _ _).alloc (Nat.le_refl _) _).alloc (by simp) _).alloc (by simp; omega) _).drew | exact (((Below.refl _ _).drew.alloc (Nat.le_refl _) _).alloc (by simp) _).alloc (by simp; omega) _ | exact (((Below.refl _ _).alloc (Nat.le_refl _) _).alloc (by simp) _).alloc (by simp; omega) _⟩

end Go.Proofs.YtdacpebijljckaaDoor
