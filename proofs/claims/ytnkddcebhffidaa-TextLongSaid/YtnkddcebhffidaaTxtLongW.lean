/- The walk of the statement TextLong: for every number n the call returns true and changes nothing that was there. -/
import Derived.Test.YtnkddcebhffidaaTxtJ
set_option linter.unusedVariables false
namespace Go.Proofs.Ytnkddcebhffidaa
open Go.RowKit

set_option maxHeartbeats 2000000 in
set_option maxRecDepth 100000 in
theorem long_walk (n : Int) (w : World) (wn : (Lit.int .i64 n).wf = true) :
    Calls Try.prog 4 #[.int .i64 n] w fun e w' => e = .returned (.bool true) ∧ Below w.heap.size w w' := by
  obtain ⟨N, hN, hN2⟩ := norm_mod n 5 (by decide) (by decide)
  obtain ⟨i0, hi, hz0, hz1, hz2⟩ := info_parts infoByte
  have hN3 : (N : Int) ≤ 4 := by omega
  clear hN2
  have hN0 : (0 : Int) ≤ N := by omega
  go_enter Try.func4, Try.ntmps4
  go_wp2_with fail
  refine (fit_any _).mono ?_
  rintro e w1 ⟨rfl, b1⟩
  have s1 := b1.size
  go_wp2_with (at_make; refine wpList_make_full _ rfl _ _ 23 rfl w.heap.size 5 i0 (.int .u8 0) 1 Try.underlying23 hi hz0 hz1 .i64 .i64 _ _ (16380 + 2 * N) rfl rfl (by omega) (by omega) (by rw [hz2]; omega) (by unfold maxLen; omega) s1 ?_)
  intro w2 hown2 hg2
  rw [madeCells_bytes] at hown2
  have b2 := b1.grown hg2 s1 (fun k hk => by cases hk)
  have hc2 := conv_row w2 _ _ _ (zeros (16380 + 2 * N)) (by rw [zeros_length]; exact hown2)
  rw [zeros_length] at hc2
  have s2 := b2.size
  clear hown2 hg2 b1 s1
  go_wp2_with (at_make; refine wpList_make_full _ rfl _ _ 23 rfl w.heap.size 5 i0 (.int .u8 0) 1 Try.underlying23 hi hz0 hz1 .i64 .i64 _ _ 16384 rfl rfl rfl rfl (by rw [hz2]; omega) (by unfold maxLen; omega) s2 ?_)
  intro w3 hown3 hg3
  rw [madeCells_bytes] at hown3
  have b3 := b2.grown hg3 s2 (fun k hk => by cases hk)
  have hc3 := conv_row w3 _ _ _ (zeros 16384) (by rw [zeros_length]; exact hown3)
  rw [zeros_length] at hc3
  clear hown3 hg3 b2 s2 hc2
  have hy1 : ByteArray.size ⟨(zeros (16380 + 2 * N)).toArray⟩ = 16380 + 2 * N := by rw [size_bytes, zeros_length]
  have hy2 : ByteArray.size ⟨(zeros 16384).toArray⟩ = 16384 := by rw [size_bytes, zeros_length]
  generalize (⟨(zeros (16380 + 2 * N)).toArray⟩ : ByteArray) = a at *
  generalize (⟨(zeros 16384).toArray⟩ : ByteArray) = b at *
  by_cases h : N ≤ 2
  · have t1 : decide ((N : Int) - 2 ≤ 0) = true := by simp; omega
    go_wp2_with (go_at_call 12; refine (join_yes a b _ (show _ ≤ 16384 by omega) (by omega) (by omega)).mono ?_; rintro e w' ⟨rfl, rfl⟩)
    go_ret
    exact ⟨rfl, b3⟩
  · have t1 : decide ((N : Int) - 2 ≤ 0) = false := by simp; omega
    go_wp2_with (go_at_call 12; refine (join_no a b _ (show 16384 < _ by omega) (by omega) (by omega)).mono ?_; rintro e w' ⟨rfl, rfl⟩)
    go_ret
    exact ⟨rfl, b3⟩
end Go.Proofs.Ytnkddcebhffidaa
