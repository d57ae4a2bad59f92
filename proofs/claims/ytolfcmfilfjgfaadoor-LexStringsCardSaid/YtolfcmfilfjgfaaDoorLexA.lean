/- Scanning, the small parts: letters, digits. -/
import Derived.Test.YtolfcmfilfjgfaaDoorShelf
import Derived.Test.YtolfcmfilfjgfaaDoorProg
import Derived.WalkKit
import Derived.Below
import Derived.Lib.Hide
import Derived.Deep.DeepCutAuto
set_option linter.unusedVariables false
set_option linter.unusedSimpArgs false
namespace Go.Proofs.YtolfcmfilfjgfaaDoor
open Go.RowKit

def letterB (b : UInt8) : Bool := b == 95 || b == 36 || (97 ≤ b && b ≤ 122) || (65 ≤ b && b ≤ 90)
def digitB (b : UInt8) : Bool := 48 ≤ b && b ≤ 57
theorem u8_le (a b : UInt8) : (decide (a ≤ b)) = decide ((a.toNat : Int) ≤ (b.toNat : Int)) := by
  rw [decide_eq_decide, UInt8.le_iff_toNat_le]; omega
theorem u8_eq (a b : UInt8) : (a == b) = ((a.toNat : Int) == (b.toNat : Int)) := by
  rw [Bool.eq_iff_iff, beq_iff_eq, beq_iff_eq]
  constructor
  · rintro rfl; rfl
  · intro h; exact UInt8.toNat_inj.1 (by omega)
theorem letter_any (b : UInt8) (w : World) : Calls Tryd.prog 15 #[.int .u8 (b.toNat : Int)] w fun e w' => e = .returned (.bool (letterB b)) ∧ w = w' := by
  have hb : letterB b = (((b.toNat : Int) == 95) || ((b.toNat : Int) == 36) || (decide ((97 : Int) ≤ (b.toNat : Int)) && decide ((b.toNat : Int) ≤ 122)) || (decide ((65 : Int) ≤ (b.toNat : Int)) && decide ((b.toNat : Int) ≤ 90))) := by
    unfold letterB
    rw [u8_eq, u8_eq, u8_le, u8_le, u8_le, u8_le]; rfl
  rw [hb]
  clear hb
  generalize (b.toNat : Int) = z
  obtain ⟨g1, h1⟩ : ∃ g, (z == 95) = g := ⟨_, rfl⟩
  obtain ⟨g2, h2⟩ : ∃ g, (z == 36) = g := ⟨_, rfl⟩
  obtain ⟨g3, h3⟩ : ∃ g, decide ((97 : Int) ≤ z) = g := ⟨_, rfl⟩
  obtain ⟨g4, h4⟩ : ∃ g, decide (z ≤ 122) = g := ⟨_, rfl⟩
  obtain ⟨g5, h5⟩ : ∃ g, decide ((65 : Int) ≤ z) = g := ⟨_, rfl⟩
  obtain ⟨g6, h6⟩ : ∃ g, decide (z ≤ 90) = g := ⟨_, rfl⟩
  rw [h1, h2, h3, h4, h5, h6]
  cases g1 <;> cases g2 <;> cases g3 <;> cases g4 <;> cases g5 <;> cases g6
  all_goals
    go_enter Tryd.func15, Tryd.ntmps15
    go_wp2
    go_ret
    exact ⟨rfl, rfl⟩
theorem digit_any (b : UInt8) (w : World) : Calls Tryd.prog 17 #[.int .u8 (b.toNat : Int)] w fun e w' => e = .returned (.bool (digitB b)) ∧ w = w' := by
  have hb : digitB b = (decide ((48 : Int) ≤ (b.toNat : Int)) && decide ((b.toNat : Int) ≤ 57)) := by
    unfold digitB
    rw [u8_le, u8_le]; rfl
  rw [hb]
  clear hb
  generalize (b.toNat : Int) = z
  obtain ⟨g1, h1⟩ : ∃ g, decide ((48 : Int) ≤ z) = g := ⟨_, rfl⟩
  obtain ⟨g2, h2⟩ : ∃ g, decide (z ≤ 57) = g := ⟨_, rfl⟩
  rw [h1, h2]
  cases g1 <;> cases g2
  all_goals
    go_enter Tryd.func17, Tryd.ntmps17
    go_wp2
    go_ret
    exact ⟨rfl, rfl⟩
end Go.Proofs.YtolfcmfilfjgfaaDoor
