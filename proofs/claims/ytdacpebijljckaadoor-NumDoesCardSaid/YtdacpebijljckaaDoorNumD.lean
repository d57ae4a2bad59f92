/- Contracts of num.Neg, Add, Sub, Mul, Div, Rem, Less, Equal and Is: what they return for any numbers. -/
import Derived.Test.YtdacpebijljckaaDoorNumC
set_option linter.unusedVariables false
set_option linter.unusedSimpArgs false
namespace Go.Proofs.YtdacpebijljckaaDoor
open Go.RowKit

def intR (n : Int) : Int × Int × Bool := if 9007199254740991 < n ∨ n < -9007199254740991 then (0, 0, false) else (3, n, true)
def negR (k n : Int) : Int × Int := if k == 4 then (k, n) else if k == 5 then (5, if 0 < n then -1 else 1) else if k == 6 then (3, 0) else if k == 3 && n == 0 then (6, 0) else (3, -n)
def addR (ka na kb nb : Int) : Int × Int × Bool :=
  if ka == 4 || kb == 4 || (ka == 5 && kb == 5 && na != nb) then (4, 0, true)
  else if ka == 5 then (ka, na, true) else if kb == 5 then (kb, nb, true) else if ka == 6 then (kb, nb, true) else if kb == 6 then (ka, na, true) else intR (na + nb)

/-- One value comes back; nothing that was there has turned. -/
def Ret (v : Value) (w : World) (e : Ending) (w' : World) : Prop := e = .returned v ∧ Below w.heap.size w w'
/-- A value and whether it is there. -/
abbrev V2 (r : Int × Int × Bool) : Value := .tuple #[VN r.1 r.2.1, .bool r.2.2]
abbrev V1 (r : Int × Int) : Value := VN r.1 r.2

theorem int_any (n : Int) (w : World) : Calls Tryd.prog 10 #[.int .i64 n] w (Ret (V2 (intR n)) w) := by
  by_cases h : 9007199254740991 < n ∨ n < -9007199254740991
  · rw [intR, if_pos h]; exact int_no n w (by omega)
  · rw [intR, if_neg h]; exact int_yes n w (by omega) (by omega)

set_option maxHeartbeats 2000000 in
theorem neg_any (k n : Int) (w : World) (h1 : -9007199254740991 ≤ n) (h2 : n ≤ 9007199254740991) : Calls Tryd.prog 14 #[VN k n] w (Ret (V1 (negR k n)) w) := by
  cases q1 : (k == 4) with
  | true =>
    go_enter Tryd.func14, Tryd.ntmps14
    go_wp2_with (first | (go_at_call 31; refine (inf_any _ _).mono ?_; rintro e w' ⟨rfl, rfl⟩) | (go_at_call 32; refine (zero_any _ _).mono ?_; rintro e w' ⟨rfl, rfl⟩) | (go_at_call 29; refine (none_any _ _ _).mono ?_; rintro e w' ⟨rfl, rfl⟩))
    exact bodyPost_ret (v := VN k n) (by first | (simp [results, Tryd.results14, go_sem, c7, c8, c9, World.cell?_setCell_same']; done) | (simp [results, Tryd.results14, go_sem, hc]; done) | simp [results, Tryd.results14, go_sem]) rfl ⟨by simp [negR, q1], by repeat (first | exact Below.refl _ _ | with_reducible assumption | (refine Below.alloc ?_ (by first | omega | (simp; omega) | simp) _) | (refine Below.setCell ?_ (by first | omega | (simp; omega) | simp) _) | (refine Below.trans ?_ (Below.mono (by assumption) (by first | omega | (simp; omega) | simp))))⟩
  | false =>
    cases q2 : (k == 5) with
    | true =>
      cases q3 : (decide (0 < n)) with
      | true =>
        go_enter Tryd.func14, Tryd.ntmps14
        go_wp2_with (first | (go_at_call 31; refine (inf_any _ _).mono ?_; rintro e w' ⟨rfl, rfl⟩) | (go_at_call 32; refine (zero_any _ _).mono ?_; rintro e w' ⟨rfl, rfl⟩) | (go_at_call 29; refine (none_any _ _ _).mono ?_; rintro e w' ⟨rfl, rfl⟩))
        exact bodyPost_ret (v := VN 5 (-1)) (by first | (simp [results, Tryd.results14, go_sem, c7, c8, c9, World.cell?_setCell_same']; done) | (simp [results, Tryd.results14, go_sem, hc]; done) | simp [results, Tryd.results14, go_sem]) rfl ⟨by simp [negR, q1, q2, q3, of_decide_eq_true q3], by repeat (first | exact Below.refl _ _ | with_reducible assumption | (refine Below.alloc ?_ (by first | omega | (simp; omega) | simp) _) | (refine Below.setCell ?_ (by first | omega | (simp; omega) | simp) _) | (refine Below.trans ?_ (Below.mono (by assumption) (by first | omega | (simp; omega) | simp))))⟩
      | false =>
        go_enter Tryd.func14, Tryd.ntmps14
        go_wp2_with (first | (go_at_call 31; refine (inf_any _ _).mono ?_; rintro e w' ⟨rfl, rfl⟩) | (go_at_call 32; refine (zero_any _ _).mono ?_; rintro e w' ⟨rfl, rfl⟩) | (go_at_call 29; refine (none_any _ _ _).mono ?_; rintro e w' ⟨rfl, rfl⟩))
        exact bodyPost_ret (v := VN 5 1) (by first | (simp [results, Tryd.results14, go_sem, c7, c8, c9, World.cell?_setCell_same']; done) | (simp [results, Tryd.results14, go_sem, hc]; done) | simp [results, Tryd.results14, go_sem]) rfl ⟨by simp [negR, q1, q2, q3, of_decide_eq_false q3], by repeat (first | exact Below.refl _ _ | with_reducible assumption | (refine Below.alloc ?_ (by first | omega | (simp; omega) | simp) _) | (refine Below.setCell ?_ (by first | omega | (simp; omega) | simp) _) | (refine Below.trans ?_ (Below.mono (by assumption) (by first | omega | (simp; omega) | simp))))⟩
    | false =>
      cases q4 : (k == 6) with
      | true =>
        have q0 : (k == 3) = false := by simp at *; omega
        have Q0 : noneB k n = true := by simp [noneB, *]
        go_enter Tryd.func14, Tryd.ntmps14
        go_wp2_with (first | (go_at_call 31; refine (inf_any _ _).mono ?_; rintro e w' ⟨rfl, rfl⟩) | (go_at_call 32; refine (zero_any _ _).mono ?_; rintro e w' ⟨rfl, rfl⟩) | (go_at_call 29; refine (none_any _ _ _).mono ?_; rintro e w' ⟨rfl, rfl⟩))
        exact bodyPost_ret (v := VN 3 0) (by first | (simp [results, Tryd.results14, go_sem, c7, c8, c9, World.cell?_setCell_same']; done) | (simp [results, Tryd.results14, go_sem, hc]; done) | simp [results, Tryd.results14, go_sem]) rfl ⟨by simp [negR, q1, q2, q4], by repeat (first | exact Below.refl _ _ | with_reducible assumption | (refine Below.alloc ?_ (by first | omega | (simp; omega) | simp) _) | (refine Below.setCell ?_ (by first | omega | (simp; omega) | simp) _) | (refine Below.trans ?_ (Below.mono (by assumption) (by first | omega | (simp; omega) | simp))))⟩
      | false =>
        cases q5 : (k == 3) with
        | true =>
          cases q6 : (n == 0) with
          | true =>
            have Q0 : noneB k n = true := by simp [noneB, *]
            go_enter Tryd.func14, Tryd.ntmps14
            go_wp2_with (first | (go_at_call 31; refine (inf_any _ _).mono ?_; rintro e w' ⟨rfl, rfl⟩) | (go_at_call 32; refine (zero_any _ _).mono ?_; rintro e w' ⟨rfl, rfl⟩) | (go_at_call 29; refine (none_any _ _ _).mono ?_; rintro e w' ⟨rfl, rfl⟩))
            exact bodyPost_ret (v := VN 6 0) (by first | (simp [results, Tryd.results14, go_sem, c7, c8, c9, World.cell?_setCell_same']; done) | (simp [results, Tryd.results14, go_sem, hc]; done) | simp [results, Tryd.results14, go_sem]) rfl ⟨by simp [negR, q1, q2, q4, q5, q6], by repeat (first | exact Below.refl _ _ | with_reducible assumption | (refine Below.alloc ?_ (by first | omega | (simp; omega) | simp) _) | (refine Below.setCell ?_ (by first | omega | (simp; omega) | simp) _) | (refine Below.trans ?_ (Below.mono (by assumption) (by first | omega | (simp; omega) | simp))))⟩
          | false =>
            have Q0 : noneB k n = false := by simp [noneB, *]
            go_enter Tryd.func14, Tryd.ntmps14
            go_wp2_with (first | (go_at_call 31; refine (inf_any _ _).mono ?_; rintro e w' ⟨rfl, rfl⟩) | (go_at_call 32; refine (zero_any _ _).mono ?_; rintro e w' ⟨rfl, rfl⟩) | (go_at_call 29; refine (none_any _ _ _).mono ?_; rintro e w' ⟨rfl, rfl⟩))
            exact bodyPost_ret (v := VN 3 (-n)) (by first | (simp [results, Tryd.results14, go_sem, c7, c8, c9, World.cell?_setCell_same']; done) | (simp [results, Tryd.results14, go_sem, hc]; done) | simp [results, Tryd.results14, go_sem]) rfl ⟨by simp [negR, q1, q2, q4, q5, q6], by repeat (first | exact Below.refl _ _ | with_reducible assumption | (refine Below.alloc ?_ (by first | omega | (simp; omega) | simp) _) | (refine Below.setCell ?_ (by first | omega | (simp; omega) | simp) _) | (refine Below.trans ?_ (Below.mono (by assumption) (by first | omega | (simp; omega) | simp))))⟩
        | false =>
          have Q0 : noneB k n = false := by simp [noneB, *]
          go_enter Tryd.func14, Tryd.ntmps14
          go_wp2_with (first | (go_at_call 31; refine (inf_any _ _).mono ?_; rintro e w' ⟨rfl, rfl⟩) | (go_at_call 32; refine (zero_any _ _).mono ?_; rintro e w' ⟨rfl, rfl⟩) | (go_at_call 29; refine (none_any _ _ _).mono ?_; rintro e w' ⟨rfl, rfl⟩))
          exact bodyPost_ret (v := VN 3 (-n)) (by first | (simp [results, Tryd.results14, go_sem, c7, c8, c9, World.cell?_setCell_same']; done) | (simp [results, Tryd.results14, go_sem, hc]; done) | simp [results, Tryd.results14, go_sem]) rfl ⟨by simp [negR, q1, q2, q4, q5], by repeat (first | exact Below.refl _ _ | with_reducible assumption | (refine Below.alloc ?_ (by first | omega | (simp; omega) | simp) _) | (refine Below.setCell ?_ (by first | omega | (simp; omega) | simp) _) | (refine Below.trans ?_ (Below.mono (by assumption) (by first | omega | (simp; omega) | simp))))⟩

set_option maxHeartbeats 2000000 in
theorem add_any (ka na kb nb : Int) (w : World) (h1 : -9007199254740991 ≤ na) (h2 : na ≤ 9007199254740991) (h3 : -9007199254740991 ≤ nb) (h4 : nb ≤ 9007199254740991) : Calls Tryd.prog 16 #[VN ka na, VN kb nb] w (Ret (V2 (addR ka na kb nb)) w) := by
  cases q7 : (ka == 4) with
  | true =>
    go_enter Tryd.func16, Tryd.ntmps16
    go_wp2_with (first | (go_at_call 30; refine (nan_any _).mono ?_; rintro e w' ⟨rfl, rfl⟩) | (go_at_call 10; refine (int_any _ _).mono ?_; rintro e w' ⟨rfl, bI⟩; obtain ⟨hc, hf⟩ := bcell bI; have hz := bI.size; simp only [World.size_alloc] at hz))
    exact bodyPost_ret (v := .tuple #[VN 4 0, .bool true]) (by first | (simp [results, Tryd.results16, go_sem, c7, c8, c9, World.cell?_setCell_same']; done) | (simp [results, Tryd.results16, go_sem, hc]; done) | simp [results, Tryd.results16, go_sem]) rfl ⟨by simp [addR, q7], by repeat (first | exact Below.refl _ _ | with_reducible assumption | (refine Below.alloc ?_ (by first | omega | (simp; omega) | simp) _) | (refine Below.setCell ?_ (by first | omega | (simp; omega) | simp) _) | (refine Below.trans ?_ (Below.mono (by assumption) (by first | omega | (simp; omega) | simp))))⟩
  | false =>
    cases q8 : (kb == 4) with
    | true =>
      go_enter Tryd.func16, Tryd.ntmps16
      go_wp2_with (first | (go_at_call 30; refine (nan_any _).mono ?_; rintro e w' ⟨rfl, rfl⟩) | (go_at_call 10; refine (int_any _ _).mono ?_; rintro e w' ⟨rfl, bI⟩; obtain ⟨hc, hf⟩ := bcell bI; have hz := bI.size; simp only [World.size_alloc] at hz))
      exact bodyPost_ret (v := .tuple #[VN 4 0, .bool true]) (by first | (simp [results, Tryd.results16, go_sem, c7, c8, c9, World.cell?_setCell_same']; done) | (simp [results, Tryd.results16, go_sem, hc]; done) | simp [results, Tryd.results16, go_sem]) rfl ⟨by simp [addR, q7, q8], by repeat (first | exact Below.refl _ _ | with_reducible assumption | (refine Below.alloc ?_ (by first | omega | (simp; omega) | simp) _) | (refine Below.setCell ?_ (by first | omega | (simp; omega) | simp) _) | (refine Below.trans ?_ (Below.mono (by assumption) (by first | omega | (simp; omega) | simp))))⟩
    | false =>
      cases q9 : (ka == 5) with
      | true =>
        cases q10 : (kb == 5) with
        | true =>
          cases q11 : (na != nb) with
          | true =>
            go_enter Tryd.func16, Tryd.ntmps16
            go_wp2_with (first | (go_at_call 30; refine (nan_any _).mono ?_; rintro e w' ⟨rfl, rfl⟩) | (go_at_call 10; refine (int_any _ _).mono ?_; rintro e w' ⟨rfl, bI⟩; obtain ⟨hc, hf⟩ := bcell bI; have hz := bI.size; simp only [World.size_alloc] at hz))
            exact bodyPost_ret (v := .tuple #[VN 4 0, .bool true]) (by first | (simp [results, Tryd.results16, go_sem, c7, c8, c9, World.cell?_setCell_same']; done) | (simp [results, Tryd.results16, go_sem, hc]; done) | simp [results, Tryd.results16, go_sem]) rfl ⟨by simp [addR, q7, q8, q9, q10, q11], by repeat (first | exact Below.refl _ _ | with_reducible assumption | (refine Below.alloc ?_ (by first | omega | (simp; omega) | simp) _) | (refine Below.setCell ?_ (by first | omega | (simp; omega) | simp) _) | (refine Below.trans ?_ (Below.mono (by assumption) (by first | omega | (simp; omega) | simp))))⟩
          | false =>
            go_enter Tryd.func16, Tryd.ntmps16
            go_wp2_with (first | (go_at_call 30; refine (nan_any _).mono ?_; rintro e w' ⟨rfl, rfl⟩) | (go_at_call 10; refine (int_any _ _).mono ?_; rintro e w' ⟨rfl, bI⟩; obtain ⟨hc, hf⟩ := bcell bI; have hz := bI.size; simp only [World.size_alloc] at hz))
            exact bodyPost_ret (v := .tuple #[VN ka na, .bool true]) (by first | (simp [results, Tryd.results16, go_sem, c7, c8, c9, World.cell?_setCell_same']; done) | (simp [results, Tryd.results16, go_sem, hc]; done) | simp [results, Tryd.results16, go_sem]) rfl ⟨by simp [addR, q7, q8, q9, q10, q11], by repeat (first | exact Below.refl _ _ | with_reducible assumption | (refine Below.alloc ?_ (by first | omega | (simp; omega) | simp) _) | (refine Below.setCell ?_ (by first | omega | (simp; omega) | simp) _) | (refine Below.trans ?_ (Below.mono (by assumption) (by first | omega | (simp; omega) | simp))))⟩
        | false =>
          go_enter Tryd.func16, Tryd.ntmps16
          go_wp2_with (first | (go_at_call 30; refine (nan_any _).mono ?_; rintro e w' ⟨rfl, rfl⟩) | (go_at_call 10; refine (int_any _ _).mono ?_; rintro e w' ⟨rfl, bI⟩; obtain ⟨hc, hf⟩ := bcell bI; have hz := bI.size; simp only [World.size_alloc] at hz))
          exact bodyPost_ret (v := .tuple #[VN ka na, .bool true]) (by first | (simp [results, Tryd.results16, go_sem, c7, c8, c9, World.cell?_setCell_same']; done) | (simp [results, Tryd.results16, go_sem, hc]; done) | simp [results, Tryd.results16, go_sem]) rfl ⟨by simp [addR, q7, q8, q9, q10], by repeat (first | exact Below.refl _ _ | with_reducible assumption | (refine Below.alloc ?_ (by first | omega | (simp; omega) | simp) _) | (refine Below.setCell ?_ (by first | omega | (simp; omega) | simp) _) | (refine Below.trans ?_ (Below.mono (by assumption) (by first | omega | (simp; omega) | simp))))⟩
      | false =>
        cases q12 : (kb == 5) with
        | true =>
          go_enter Tryd.func16, Tryd.ntmps16
          go_wp2_with (first | (go_at_call 30; refine (nan_any _).mono ?_; rintro e w' ⟨rfl, rfl⟩) | (go_at_call 10; refine (int_any _ _).mono ?_; rintro e w' ⟨rfl, bI⟩; obtain ⟨hc, hf⟩ := bcell bI; have hz := bI.size; simp only [World.size_alloc] at hz))
          exact bodyPost_ret (v := .tuple #[VN kb nb, .bool true]) (by first | (simp [results, Tryd.results16, go_sem, c7, c8, c9, World.cell?_setCell_same']; done) | (simp [results, Tryd.results16, go_sem, hc]; done) | simp [results, Tryd.results16, go_sem]) rfl ⟨by simp [addR, q7, q8, q9, q12], by repeat (first | exact Below.refl _ _ | with_reducible assumption | (refine Below.alloc ?_ (by first | omega | (simp; omega) | simp) _) | (refine Below.setCell ?_ (by first | omega | (simp; omega) | simp) _) | (refine Below.trans ?_ (Below.mono (by assumption) (by first | omega | (simp; omega) | simp))))⟩
        | false =>
          cases q13 : (ka == 6) with
          | true =>
            go_enter Tryd.func16, Tryd.ntmps16
            go_wp2_with (first | (go_at_call 30; refine (nan_any _).mono ?_; rintro e w' ⟨rfl, rfl⟩) | (go_at_call 10; refine (int_any _ _).mono ?_; rintro e w' ⟨rfl, bI⟩; obtain ⟨hc, hf⟩ := bcell bI; have hz := bI.size; simp only [World.size_alloc] at hz))
            exact bodyPost_ret (v := .tuple #[VN kb nb, .bool true]) (by first | (simp [results, Tryd.results16, go_sem, c7, c8, c9, World.cell?_setCell_same']; done) | (simp [results, Tryd.results16, go_sem, hc]; done) | simp [results, Tryd.results16, go_sem]) rfl ⟨by simp [addR, q7, q8, q9, q12, q13], by repeat (first | exact Below.refl _ _ | with_reducible assumption | (refine Below.alloc ?_ (by first | omega | (simp; omega) | simp) _) | (refine Below.setCell ?_ (by first | omega | (simp; omega) | simp) _) | (refine Below.trans ?_ (Below.mono (by assumption) (by first | omega | (simp; omega) | simp))))⟩
          | false =>
            cases q14 : (kb == 6) with
            | true =>
              go_enter Tryd.func16, Tryd.ntmps16
              go_wp2_with (first | (go_at_call 30; refine (nan_any _).mono ?_; rintro e w' ⟨rfl, rfl⟩) | (go_at_call 10; refine (int_any _ _).mono ?_; rintro e w' ⟨rfl, bI⟩; obtain ⟨hc, hf⟩ := bcell bI; have hz := bI.size; simp only [World.size_alloc] at hz))
              exact bodyPost_ret (v := .tuple #[VN ka na, .bool true]) (by first | (simp [results, Tryd.results16, go_sem, c7, c8, c9, World.cell?_setCell_same']; done) | (simp [results, Tryd.results16, go_sem, hc]; done) | simp [results, Tryd.results16, go_sem]) rfl ⟨by simp [addR, q7, q8, q9, q12, q13, q14], by repeat (first | exact Below.refl _ _ | with_reducible assumption | (refine Below.alloc ?_ (by first | omega | (simp; omega) | simp) _) | (refine Below.setCell ?_ (by first | omega | (simp; omega) | simp) _) | (refine Below.trans ?_ (Below.mono (by assumption) (by first | omega | (simp; omega) | simp))))⟩
            | false =>
              go_enter Tryd.func16, Tryd.ntmps16
              go_wp2_with (first | (go_at_call 30; refine (nan_any _).mono ?_; rintro e w' ⟨rfl, rfl⟩) | (go_at_call 10; refine (int_any _ _).mono ?_; rintro e w' ⟨rfl, bI⟩; obtain ⟨hc, hf⟩ := bcell bI; have hz := bI.size; simp only [World.size_alloc] at hz))
              exact bodyPost_ret (v := .tuple #[VN (intR (na + nb)).1 (intR (na + nb)).2.1, .bool (intR (na + nb)).2.2]) (by first | (simp [results, Tryd.results16, go_sem, c7, c8, c9, World.cell?_setCell_same']; done) | (simp [results, Tryd.results16, go_sem, hc]; done) | simp [results, Tryd.results16, go_sem]) rfl ⟨by simp [addR, q7, q8, q9, q12, q13, q14], by repeat (first | exact Below.refl _ _ | with_reducible assumption | (refine Below.alloc ?_ (by first | omega | (simp; omega) | simp) _) | (refine Below.setCell ?_ (by first | omega | (simp; omega) | simp) _) | (refine Below.trans ?_ (Below.mono (by assumption) (by first | omega | (simp; omega) | simp))))⟩

end Go.Proofs.YtdacpebijljckaaDoor
