/- The walk of the statement TextOf. -/
import Derived.Test.YtnkddcebhffidaaDoorTxtU
import Derived.Test.YtnkddcebhffidaaDoorTxtV
set_option linter.unusedVariables false
namespace Go.Proofs.YtnkddcebhffidaaDoor
open Go.RowKit

/-- Some slice that holds these numbers comes back. -/
def GetsRow (n : Nat) (l : List Int) (w : World) (e : Ending) (w' : World) : Prop :=
  ∃ a cap, e = .returned (.slice a n cap) ∧ SliceR .i64 w' a n cap l ∧ Below w.heap.size w w'

theorem at_no (X : ByteArray) (n : Nat) (j : Int) (w : World) (hX : Hid (X.size = 2 * n)) (hn : n ≤ 100000) (h : j < 0 ∨ (n : Int) ≤ j) :
    Calls Tryd.prog 10 #[.string X, .int .i64 j] w fun e w' => e = .returned (.int .u16 0) ∧ w = w' :=
  at_out X j w (by rw [hX.out]; omega) (by rw [hX.out]; omega)
theorem at_yes (U : List Nat) (X : ByteArray) (n k : Nat) (z : Int) (w : World) (hX : Hid (X = uS U)) (hU : Fits U) (hl : Hid (U.length = n)) (hn : n ≤ 100000) (hk : k < n) (hz : Hid ((ints U).getD k 0 = z)) :
    Calls Tryd.prog 10 #[.string X, .int .i64 (k : Int)] w fun e w' => e = .returned (.int .u16 z) ∧ ∃ m, w' = w.drewN m := by
  have := hX.out
  subst this
  refine (at_in (uS U) k w (by rw [uS_size, hl.out]; omega) (by rw [uS_size, hl.out]; omega)).mono ?_
  rintro e w' ⟨rfl, hw⟩
  refine ⟨?_, hw⟩
  rw [unitAt_uS U hU, ← hz.out]
  congr 2
  simp [ints, List.getD_eq_getElem?_getD, List.getElem?_map]
  cases U[k]? <;> rfl

set_option maxHeartbeats 4000000 in
set_option maxRecDepth 100000 in
theorem textof_core (s X : ByteArray) (n : Nat) (U : List Nat) (w : World) (hs : s.size ≤ 5000) (hn : n ≤ 100000) (hX : Hid (X = uS U)) (hXn : Hid (X.size = 2 * n)) (hU : Hid (Fits U)) (hl : Hid (U.length = n))
    (C1 : ∀ W, Calls Tryd.prog 5 #[.string s] W fun e w' => e = .returned (.string X) ∧ Below W.heap.size W w')
    (C2 : ∀ W, Below w.heap.size w W → Calls Tryd.prog 6 #[.string s] W (GetsRow n (ints U) W))
    (C3 : ∀ W, Calls Tryd.prog 7 #[.string s] W fun e w' => e = .returned (.agg #[.int .i64 7, .int .i64 0, .string X]) ∧ Below W.heap.size W w')
    (C4 : ∀ a cap W, SliceR .i64 W a n cap (ints U) → Calls Tryd.prog 8 #[.slice a n cap] W fun e w' => e = .returned (.string X) ∧ Below W.heap.size W w')
    (C5 : ∀ W, Calls Tryd.prog 9 #[.string X] W fun e w' => e = .returned (.int .i64 (n : Int)) ∧ W = w') :
    Calls Tryd.prog 3 #[.string s] w fun e w' => e = .returned (.bool true) ∧ Below w.heap.size w w' := by
  have D1 := Lib.hid C1
  have D2 := Lib.hid C2
  have D3 := Lib.hid C3
  have D4 := Lib.hid C4
  have D5 := Lib.hid C5
  clear C1 C2 C3 C4 C5
  have t1 : decide ((5000 : Int) < (s.size : Int)) = false := by simp; omega
  have q1 : (X.toList != X.toList) = false := by simp
  have q2 : ((n : Int) != (n : Int)) = false := by simp
  go_enter Tryd.func3, Tryd.ntmps3
  go_wp2_with fail
  refine (fit_any _).mono ?_
  rintro e w1 ⟨rfl, b1⟩
  go_wp2_with fail
  refine (D1.out _).mono ?_
  rintro e w2 ⟨rfl, b2⟩
  have bb2 := b1.trans (b2.mono b1.size)
  clear b1 b2
  go_wp2_with fail
  refine (D2.out _ bb2).mono ?_
  rintro e w3 ⟨a, cap, rfl, hR3, b3⟩
  have bb3 := bb2.trans (b3.mono bb2.size)
  clear bb2 b3
  go_wp2_with fail
  refine (D3.out _).mono ?_
  rintro e w4 ⟨rfl, b4⟩
  have bb4 := bb3.trans (b4.mono bb3.size)
  have hR4 := hR3.below b4
  clear bb3 b4 hR3
  go_wp2_with fail
  have bb5 := bb4.alloc bb4.size (Obj.cells #[.int .i64 7, .int .i64 0, .string X] 27)
  have hR5 := hR4.below ((Below.refl _ _).alloc (Nat.le_refl _) (Obj.cells #[.int .i64 7, .int .i64 0, .string X] 27))
  have g5 := heap_alloc_new w4 (Obj.cells #[.int .i64 7, .int .i64 0, .string X] 27)
  refine (D4.out a cap _ hR5).mono ?_
  rintro e w6 ⟨rfl, b6⟩
  have bb6 := bb5.trans (b6.mono bb5.size)
  have hR6 := hR5.below b6
  have g6 := (b6.block _ (by simp)).trans g5
  have v0 : w6.cell? ⟨w4.heap.size, 0, none⟩ = some (.int .i64 7) := by rw [Lib.cell_of_heap g6]; rfl
  have v2 : w6.cell? ⟨w4.heap.size, 2, none⟩ = some (.string X) := by rw [Lib.cell_of_heap g6]; rfl
  clear bb4 bb5 hR4 hR5 g5 g6 b6
  go_wp2_with fail
  refine (D5.out _).mono ?_
  rintro e w7 ⟨rfl, rfl⟩
  go_wp2_with fail
  have HR := Lib.hid hR6
  clear hR6 v0 v2 q1 t1
  go_loopw [6] (fun i wr => ∃ j : Int, -1 ≤ j ∧ j ≤ (n : Int) + 1 ∧ i = .int .i64 j ∧ Hid (SliceR .i64 wr a n cap (ints U)) ∧ Below w.heap.size w wr) (fun i _ => ((n : Int) + 1 - intOf i).toNat)
  case atStart => exact ⟨-1, by omega, by omega, rfl, HR, bb6⟩
  case round =>
    obtain ⟨j, hj1, hj2, rfl, hR, hb⟩ := hrel
    by_cases hle : j ≤ (n : Int)
    · have t2 : decide (j ≤ (n : Int)) = true := decide_eq_true hle
      by_cases hin : 0 ≤ j ∧ j < (n : Int)
      · obtain ⟨h0, h1⟩ := hin
        obtain ⟨k, rfl⟩ := Int.eq_ofNat_of_zero_le h0
        have hk : k < n := by omega
        obtain ⟨b, off, rfl, hlt, hcs⟩ := hR.out.2.2.2.2 (by omega)
        have hck := hcs k hk
        obtain ⟨z, hz⟩ : ∃ z, (ints U).getD k 0 = z := ⟨_, rfl⟩
        rw [hz] at hck
        have HZ := Lib.hid hz
        have z0 : 0 ≤ z ∧ z ≤ 65535 := by
          rw [← hz]
          have hf := hU.out
          simp only [ints, List.getD_eq_getElem?_getD, List.getElem?_map]
          cases hq : U[k]? with
          | none => simp
          | some u => have := hf u (List.mem_of_getElem? hq); simp; omega
        obtain ⟨z1, z2⟩ := z0
        have q3 : (z != z) = false := by simp
        have t3 : decide (0 ≤ (k : Int)) = true := by simp
        have t4 : decide (k < n) = true := decide_eq_true hk
        clear hcs hlt hz
        have DA := Lib.hid (fun W => at_yes U X n k z W hX hU.out hl hn hk HZ)
        go_wp2_with fail
        refine (DA.out _).mono ?_
        rintro e w8 ⟨rfl, m, rfl⟩
        go_wp2_with fail
        go_roundw
        case rel => exact ⟨_, by omega, by omega, rfl, Lib.hid (hR.out.drewN m), below_drewN hb m⟩
        case measure => simp [intOf]; omega
      · have hout : j < 0 ∨ (n : Int) ≤ j := by omega
        have HO := Lib.hid hout
        have t5 : decide (0 ≤ j) = false ∨ decide (j < (n : Int)) = false := by
          rcases hout with h | h
          · left; simp; omega
          · right; simp; omega
        have DA := Lib.hid (fun W => at_no X n j W hXn hn HO.out)
        clear hin hout
        rcases t5 with t5 | t5
        all_goals
          go_wp2_with fail
          all_goals
            refine (DA.out _).mono ?_
            rintro e w8 ⟨rfl, rfl⟩
            go_wp2_with fail
            go_roundw
            case rel => exact ⟨_, by omega, by omega, rfl, hR, hb⟩
            case measure => simp [intOf]; omega
    · have t2 : decide (j ≤ (n : Int)) = false := decide_eq_false hle
      go_wp2
      go_ret
      exact ⟨rfl, hb⟩

end Go.Proofs.YtnkddcebhffidaaDoor
