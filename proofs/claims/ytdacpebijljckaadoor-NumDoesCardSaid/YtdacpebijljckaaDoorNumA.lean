/- Contracts of package num's small functions: numbers as values. -/
import Derived.Test.YtdacpebijljckaaDoorProg
import Derived.WalkKit
import Derived.WalkSpells
import Derived.WalkLawsBesides
import Derived.WalkSmall
import Derived.Lib.Hide
import Derived.BigCall
set_option linter.unusedVariables false
namespace Go.Proofs.YtdacpebijljckaaDoor
open Go.RowKit

/-- A value of kind k and number n, without units. -/
abbrev VN (k n : Int) : Value := .agg #[.int .i64 k, .int .i64 n, .string ⟨#[]⟩]

theorem bcell {W w1 : World} (hb : Below W.heap.size W w1) : (∀ b o, b < W.heap.size → w1.cell? ⟨b, o, none⟩ = W.cell? ⟨b, o, none⟩) ∧ (∀ b o, b < W.heap.size → w1.frozen? ⟨b, o, none⟩ = W.frozen? ⟨b, o, none⟩) :=
  ⟨fun b o h => hb.cell (p := ⟨b, o, none⟩) h, fun b o h => hb.frozen (p := ⟨b, o, none⟩) h⟩

set_option maxHeartbeats 1000000 in
theorem int_yes (n : Int) (w : World) (h1 : -9007199254740991 ≤ n) (h2 : n ≤ 9007199254740991) :
    Calls Tryd.prog 10 #[.int .i64 n] w fun e w' => e = .returned (.tuple #[VN 3 n, .bool true]) ∧ Below w.heap.size w w' := by
  go_enter Tryd.func10, Tryd.ntmps10
  go_wp2
  exact bodyPost_ret (v := .tuple #[VN 3 n, .bool true]) (by simp [results, Tryd.results10, go_sem]) rfl ⟨rfl, (Below.refl _ _).alloc (Nat.le_refl _) _⟩

set_option maxHeartbeats 1000000 in
theorem int_no (n : Int) (w : World) (h : n < -9007199254740991 ∨ 9007199254740991 < n) :
    Calls Tryd.prog 10 #[.int .i64 n] w fun e w' => e = .returned (.tuple #[VN 0 0, .bool false]) ∧ Below w.heap.size w w' := by
  by_cases h2 : 9007199254740991 < n
  · clear h
    go_enter Tryd.func10, Tryd.ntmps10
    go_wp2
    exact bodyPost_ret (v := .tuple #[VN 0 0, .bool false]) (by simp [results, Tryd.results10, go_sem]) rfl ⟨rfl, (Below.refl _ _).alloc (Nat.le_refl _) _⟩
  · have h3 : n < -9007199254740991 := by omega
    clear h
    go_enter Tryd.func10, Tryd.ntmps10
    go_wp2
    exact bodyPost_ret (v := .tuple #[VN 0 0, .bool false]) (by simp [results, Tryd.results10, go_sem]) rfl ⟨rfl, (Below.refl _ _).alloc (Nat.le_refl _) _⟩

end Go.Proofs.YtdacpebijljckaaDoor
