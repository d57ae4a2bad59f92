/- The walk of the statement NumInts. -/
import Derived.Test.YtdacpebijljckaaDoorNumH
set_option linter.unusedVariables false
namespace Go.Proofs.YtdacpebijljckaaDoor
open Go.RowKit

set_option maxHeartbeats 1000000 in
theorem is_no (k : Int) (w : World) (h : k < 3 ∨ 6 < k) : Calls Tryd.prog 11 #[VN k 0] w (Ret (.bool false) w) := by
  by_cases h3 : k < 3
  · have t1 : decide (3 ≤ k) = false := by simp; omega
    clear h
    go_enter Tryd.func11, Tryd.ntmps11
    go_wp2
    go_ret
    exact ⟨rfl, (Below.refl _ _).alloc (Nat.le_refl _) _⟩
  · have t1 : decide (3 ≤ k) = true := by simp; omega
    have t2 : decide (k ≤ 6) = false := by simp; omega
    clear h
    go_enter Tryd.func11, Tryd.ntmps11
    go_wp2
    go_ret
    exact ⟨rfl, (Below.refl _ _).alloc (Nat.le_refl _) _⟩

set_option maxHeartbeats 4000000 in
set_option maxRecDepth 10000 in
theorem ints_walk (n : Int) (w : World) (wn : (Lit.int .i64 n).wf = true) :
    Calls Tryd.prog 3 #[.int .i64 n] w fun e w' => e = .returned (.bool true) ∧ Below w.heap.size w w' := by
  have m1 := Int.tmod_lt_of_pos n (show (0 : Int) < 3 by decide)
  have m2 := Int.lt_tmod_of_pos n (show (0 : Int) < 3 by decide)
  go_enter Tryd.func3, Tryd.ntmps3
  go_wp2_with fail
  refine (fit_any _).mono ?_
  rintro e w1 ⟨rfl, b1⟩
  go_wp2_with fail
  have hz := b1.size
  have bb := b1.alloc hz (.cells #[.int .i64 n, .int .i64 (n.tmod 100), .int .i64 (9007199254740991 + n.tmod 3), .int .i64 (-9007199254740991 - n.tmod 3)] 2)
  have g0 := heap_alloc_new w1 (.cells #[.int .i64 n, .int .i64 (n.tmod 100), .int .i64 (9007199254740991 + n.tmod 3), .int .i64 (-9007199254740991 - n.tmod 3)] 2)
  generalize 9007199254740991 + n.tmod 3 = n3 at *
  generalize -9007199254740991 - n.tmod 3 = n4 at *
  generalize n.tmod 100 = n2 at *
  generalize w1.alloc (.cells #[.int .i64 n, .int .i64 n2, .int .i64 n3, .int .i64 n4] 2) = W0 at *
  clear m1 m2
  obtain ⟨B, hB⟩ : ∃ B, w1.heap.size = B := ⟨_, rfl⟩
  rw [hB] at g0 hz ⊢
  have hBw : w.heap.size ≤ B := hz
  clear hB b1 hz
  go_loopw [21] (fun i wr => ∃ k : Nat, k ≤ 4 ∧ i = .int .i64 k ∧ wr.heap[B]? = some (.cells #[.int .i64 n, .int .i64 n2, .int .i64 n3, .int .i64 n4] 2) ∧ Below w.heap.size w wr) (fun i _ => 4 - (intOf i).toNat)
  case atStart => exact ⟨0, by omega, rfl, g0, bb⟩
  case round =>
    obtain ⟨k, hk, rfl, hg, hb⟩ := hrel
    have hBs : B < wr.heap.size := (Array.getElem?_eq_some_iff.1 hg).1
    by_cases hlt : k < 4
    · have t0 : decide ((k : Int) < 4) = true := by simp; omega
      have k0 : (0 : Int) ≤ (k : Int) := by omega
      have k1 : (k : Int) < 4 := by omega
      obtain ⟨z, hcz⟩ : ∃ z, wr.cell? ⟨B, k, none⟩ = some (.int .i64 z) := by
        rw [Lib.cell_of_heap hg]
        have : k = 0 ∨ k = 1 ∨ k = 2 ∨ k = 3 := by omega
        rcases this with rfl | rfl | rfl | rfl <;> exact ⟨_, rfl⟩
      have hzs := hb.size
      by_cases hin : z ≤ 9007199254740991 ∧ -9007199254740991 ≤ z
      · obtain ⟨i1, i2⟩ := hin
        have t1 : decide (z ≤ 9007199254740991) = true := by simp; omega
        have t2 : decide (-9007199254740991 ≤ z) = true := by simp; omega
        go_wp2_with (go_at_call 10; refine (int_yes z _ i2 i1).mono ?_)
        rintro e w2 ⟨rfl, b2⟩
        have hg2 := (b2.block B hBs).trans hg
        have hz2 := b2.size
        have hb2 := hb.trans (b2.mono hzs)
        go_wp2
        go_roundw
        case rel =>
          refine ⟨k + 1, by omega, by go_num, ?_, hb2.alloc (by omega) _⟩
          rw [Lib.alloc_old _ _ _ (by omega)]; exact hg2
        case measure => simp [intOf]; omega
      · have hw : (Value.bool (decide (z ≤ 9007199254740991 ∧ -9007199254740991 ≤ z))) = .bool false := by simp [hin]
        have ho : z < -9007199254740991 ∨ 9007199254740991 < z := by omega
        by_cases hu : z ≤ 9007199254740991
        case' pos =>
          have t1 : decide (z ≤ 9007199254740991) = true := by simp; omega
          have t2 : decide (-9007199254740991 ≤ z) = false := by simp; omega
        case' neg =>
          have t1 : decide (z ≤ 9007199254740991) = false := by simp; omega
        all_goals
          have HO := Lib.hid ho
          clear ho hin hw hu
          go_wp2_with (go_at_call 10; refine (int_no z _ HO.out).mono ?_)
          rintro e w2 ⟨rfl, b2⟩
          have hg2 := (b2.block B hBs).trans hg
          have hz2 := b2.size
          have hb2 := hb.trans (b2.mono hzs)
          go_wp2
          go_roundw
          case rel =>
            refine ⟨k + 1, by omega, by go_num, ?_, hb2.alloc (by omega) _⟩
            rw [Lib.alloc_old _ _ _ (by omega)]; exact hg2
          case measure => simp [intOf]; omega
    · have t0 : decide ((k : Int) < 4) = false := by simp; omega
      have hzs := hb.size
      go_wp2_with fail
      refine (is_no 7 _ (by decide)).mono ?_
      rintro e w2 ⟨rfl, b2⟩
      go_wp2_with fail
      refine (is_no 0 _ (by decide)).mono ?_
      rintro e w3 ⟨rfl, b3⟩
      go_wp2
      go_ret
      exact ⟨rfl, hb.trans ((b2.trans (b3.mono b2.size)).mono hzs)⟩
end Go.Proofs.YtdacpebijljckaaDoor
