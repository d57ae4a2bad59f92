/- Contract of the reference's List: the units of a string as a new row. -/
import Derived.Test.YtnkddcebhffidaaTxtN
set_option linter.unusedVariables false
namespace Go.Proofs.Ytnkddcebhffidaa
open Go.RowKit

/-- A new row of the call's own that holds these numbers. -/
def NewInts (B : Nat) (w : World) (l : List Nat) (e : Ending) (w' : World) : Prop :=
  ∃ v, e = .returned v ∧ w'.ownsRow B 3 1 v l.length (numCells .i64 (ints l)) ∧ Below B w w'

set_option maxHeartbeats 2000000 in
set_option maxRecDepth 100000 in
theorem list_any (s : ByteArray) (w : World) (hs : s.size ≤ 1000000000) :
    Calls Try.prog 16 #[.string s] w (NewInts w.heap.size w (unitsTo s (s.size / 2))) := by
  obtain ⟨i0, hi, hz0, hz1, hz2⟩ := info_parts infoInt
  go_enter Try.func16, Try.ntmps16
  go_wp2
  go_loopw [3, 4] (fun v i wr => ∃ k : Nat, k ≤ s.size / 2 ∧ i = .int .i64 (2 * k : Nat) ∧ wr.ownsRow w.heap.size 3 1 v k (numCells .i64 (ints (unitsTo s k))) ∧ Below w.heap.size w wr) (fun _ i _ => s.size - (intOf i).toNat)
  case atStart => exact ⟨0, Nat.zero_le _, rfl, World.ownsRow_nil _ _ _ _, Below.refl _ _⟩
  case round =>
    obtain ⟨k, hk, rfl, hown, hb⟩ := hrel
    by_cases hlt : 2 * k + 1 < s.size
    · have e2 : 0 ≤ 2 * (k : Int) := by omega
      have e3 : (2 * (k : Int)).toNat = 2 * k := by omega
      have e5 : 2 * (k : Int) < s.size := by omega
      have f5 : 2 * (k : Int) + 1 < s.size := by omega
      have f1 : IntKind.i64.wrap (2 * (k : Int) + 1) = 2 * (k : Int) + 1 := IntWalk.i64_in _ (by omega)
      have f2 : 0 ≤ 2 * (k : Int) + 1 := by omega
      have f3 : (2 * (k : Int) + 1).toNat = 2 * k + 1 := by omega
      have g0 := UInt8.toNat_lt s[2 * k]
      have g1 := UInt8.toNat_lt s[2 * k + 1]
      have hz := hb.size
      have x1 : IntKind.i64.wrap (s[2 * k].toNat : Int) = s[2 * k].toNat := IntWalk.i64_in _ (by omega)
      have x2 : IntKind.i64.wrap (s[2 * k + 1].toNat : Int) = s[2 * k + 1].toNat := IntWalk.i64_in _ (by omega)
      have x3 : IntKind.i64.wrap ((s[2 * k].toNat : Int) * 256) = (s[2 * k].toNat : Int) * 256 := IntWalk.i64_in _ (by omega)
      have x4 : IntKind.i64.wrap ((s[2 * k].toNat : Int) * 256 + (s[2 * k + 1].toNat : Int)) = (s[2 * k].toNat : Int) * 256 + (s[2 * k + 1].toNat : Int) := IntWalk.i64_in _ (by omega)
      go_wp2_with fail
      go_region_held3 (fun w' => True) (trivial)
        ((refine step_append_lies _ (by rfl) _ _ _ (by rfl) w.heap.size 3 i0 _ 1 8 Try.underlying34 hi hz0 hz1 hz2 rfl (by omega) u3 k _ (by rfl) ((hown.alloc _).drew) ⟨wr.heap.size, 0, none⟩ 1 1 [.int .i64 ((s[2 * k].toNat : Int) * 256 + (s[2 * k + 1].toNat : Int))] (by rfl) (by rfl) (World.news_of_block (cs := #[.int .i64 ((s[2 * k].toNat : Int) * 256 + (s[2 * k + 1].toNat : Int))]) (t := 3) (fr := (0, 0)) (heap_alloc_new wr _)) (by simp [Value.oneCell']) (by omega) (by unfold maxLen; omega) (by omega) (by simp; omega) (wr.heap.size + 1) (by simp) ?_; intro gg cap w1 hown1 hgrow hat hlt))
      all_goals
        have hb2 := ((hb.alloc hz (.cells #[.int .i64 ((s[2 * k].toNat : Int) * 256 + (s[2 * k + 1].toNat : Int))] 3)).drew).grown hgrow (by simp; omega) (fun k' hk' => ((hown.alloc (.cells #[.int .i64 ((s[2 * k].toNat : Int) * 256 + (s[2 * k + 1].toNat : Int))] 3)).lt k' hk').1)
        clear x1 x2 x3 x4
        go_wp2
        go_roundw
        case rel =>
          refine ⟨k + 1, by omega, by go_num, ?_, hb2⟩
          have he : (s[2 * k].toNat : Int) * 256 + (s[2 * k + 1].toNat : Int) = ((unitAt s k : Nat) : Int) := by
            rw [unitAt, getD_byte s (2 * k) (by omega), getD_byte s (2 * k + 1) (by omega)]; omega
          rw [he] at hown1
          rw [unitsTo_succ, ints_append, numCells_append]
          exact hown1
        case measure => simp [intOf]; omega
    · have hk2 : k = s.size / 2 := by omega
      have t1 : decide (2 * (k : Int) + 1 < (s.size : Int)) = false := by simp; omega
      have H2 := Lib.hid hk2
      clear hk2
      go_wp2
      go_ret
      refine ⟨_, rfl, ?_, hb⟩
      rw [unitsTo_length, ← H2.out]
      exact hown
end Go.Proofs.Ytnkddcebhffidaa
