/- OtableAll: calls that open no cursor. -/
import Derived.Test.YtlgnjbdkkpjjaaaOtW
set_option linter.unusedVariables false
set_option linter.unusedSimpArgs false
namespace Go.Proofs.Ytlgnjbdkkpjjaaa
open Go.RowKit Go.Sort
/-- What a call of play leaves; at most xm cursors. -/
def PlayX (w0 : World) (B T M xm : Nat) (j : Nat) (e : Ending) (w' : World) : Prop :=
  e = .returned (.bool true) ∧ ∃ (A : List Ent) (D : List (Nat × Nat)) (O : Nat → Prop) (L : List Ent) (cl : Nat) (R : Nat → Prop) (lv cv dv : Value) (X : List Cu), Mem w0 w' B T M A D O L cl R lv cv dv X ∧ Rel A D L cl X ∧ L.length ≤ j ∧ cl ≤ j ∧ X.length ≤ xm
end Go.Proofs.Ytlgnjbdkkpjjaaa
