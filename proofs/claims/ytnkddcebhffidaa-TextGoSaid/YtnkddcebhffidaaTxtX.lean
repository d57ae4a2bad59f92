/- Contracts of text's functions at strings that are written as lists of units. -/
import Derived.Test.YtnkddcebhffidaaTxtS
import Derived.Test.YtnkddcebhffidaaTxtD
set_option linter.unusedVariables false
namespace Go.Proofs.Ytnkddcebhffidaa
open Go.RowKit

theorem comp_uS (l m : List Nat) (hl : Fits l) (hm : Fits m) (w : World) :
    Calls Try.prog 14 #[.string (uS l), .string (uS m)] w fun e w' => e = .returned (.int .i64 (cmpL l m)) ∧ w = w' := by
  have := compare_any (uS l) (uS m) w
  rw [show (uS l).data.toList = unitsB l from rfl, show (uS m).data.toList = unitsB m from rfl, compareBytes_units l m hl hm] at this
  exact this

theorem index_uS (l : List Nat) (hl : Fits l) (w : World) (hn : l.length ≤ 100000000) :
    Calls Try.prog 10 #[.string (uS l)] w fun e w' => e = .returned (.int .i64 (idxL l)) ∧ ∃ n, w' = w.drewN n := by
  have := index_any (uS l) w (by rw [uS_size]; omega)
  rw [indexOf_uS l hl] at this
  exact this

theorem sub_uS (l : List Nat) (n : Nat) (fr to : Int) (w : World) (hn : l.length = n) (hn2 : n ≤ 100000000) :
    Calls Try.prog 17 #[.string (uS l), .int .i64 fr, .int .i64 to] w fun e w' => e = .returned (.string (uS ((l.take (subTo n to)).drop (subFrom n fr to)))) ∧ w = w' := by
  have := sub_any (uS l) fr to w (by rw [uS_size]; omega)
  rw [uS_size, show 2 * l.length / 2 = n by omega, uS_extract l _ _ (subFrom_le n fr to) (by rw [hn]; exact subTo_le n to)] at this
  exact this

theorem sub_uS' (l : List Nat) (n : Nat) (fr to : Int) (T F : Nat) (w : World) (hn : Hid (l.length = n)) (hn2 : n ≤ 100000000) (hT : Hid (subTo n to = T)) (hF : Hid (subFrom n fr to = F)) :
    Calls Try.prog 17 #[.string (uS l), .int .i64 fr, .int .i64 to] w fun e w' => e = .returned (.string (uS ((l.take T).drop F))) ∧ w = w' := by
  have := sub_uS l n fr to w hn.out hn2
  rw [hT.out, hF.out] at this
  exact this

end Go.Proofs.Ytnkddcebhffidaa
