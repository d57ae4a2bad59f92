/- Contracts of the statements' own Num, and of num.Sub. -/
import Derived.Test.YtdacpebijljckaaDoorNumG
set_option linter.unusedVariables false
set_option linter.unusedSimpArgs false
namespace Go.Proofs.YtdacpebijljckaaDoor
open Go.RowKit

/-- The number that the statements make of any. -/
def numR (n : Int) : Int × Int :=
  if bits BinOp.and IntKind.i64 n 15 == 0 then (4, 0) else if bits BinOp.and IntKind.i64 n 15 == 1 then (5, 1) else if bits BinOp.and IntKind.i64 n 15 == 2 then (5, -1)
  else if bits BinOp.and IntKind.i64 n 15 == 3 then (6, 0) else (3, (n / 16).tmod 9007199254740992)
theorem tmod53 (x : Int) : IsNum 3 (x.tmod 9007199254740992) := by
  have m1 := Int.tmod_lt_of_pos x (show (0 : Int) < 9007199254740992 by decide)
  have m2 := Int.lt_tmod_of_pos x (show (0 : Int) < 9007199254740992 by decide)
  unfold IsNum; omega
theorem numR_is (n : Int) : IsNum (numR n).1 (numR n).2 := by
  unfold numR
  repeat' split
  · unfold IsNum; decide
  · unfold IsNum; decide
  · unfold IsNum; decide
  · unfold IsNum; decide
  · exact tmod53 _

set_option maxHeartbeats 4000000 in
theorem num_any (n : Int) (w : World) (wn : (Lit.int .i64 n).wf = true) : Calls Tryd.prog 12 #[.int .i64 n] w (Ret (V1 (numR n)) w) := by
  go_enter Tryd.func12, Tryd.ntmps12
  go_wp2_with fail
  · exact bodyPost_ret (v := VN 4 0) (by simp [results, Tryd.results12, go_sem]) rfl ⟨by simp [numR, *], (Below.refl _ _).alloc (Nat.le_refl _) _⟩
  · exact bodyPost_ret (v := VN 5 1) (by simp [results, Tryd.results12, go_sem]) rfl ⟨by simp [numR, *], (Below.refl _ _).alloc (Nat.le_refl _) _⟩
  · exact bodyPost_ret (v := VN 5 (-1)) (by simp [results, Tryd.results12, go_sem]) rfl ⟨by simp [numR, *], (Below.refl _ _).alloc (Nat.le_refl _) _⟩
  · exact bodyPost_ret (v := VN 6 0) (by simp [results, Tryd.results12, go_sem]) rfl ⟨by simp [numR, *], (Below.refl _ _).alloc (Nat.le_refl _) _⟩
  · exact bodyPost_ret (v := VN 3 ((n / 16).tmod 9007199254740992)) (by simp [results, Tryd.results12, go_sem]) rfl ⟨by simp [numR, *], (Below.refl _ _).alloc (Nat.le_refl _) _⟩

end Go.Proofs.YtdacpebijljckaaDoor
