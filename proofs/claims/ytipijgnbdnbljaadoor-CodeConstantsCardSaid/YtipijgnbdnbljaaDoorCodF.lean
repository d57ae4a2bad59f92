/- Contract of the statements' own example 'fit' (code): it returns true. -/
import Derived.Test.YtipijgnbdnbljaaDoorCodR
import Derived.Test.YtipijgnbdnbljaaDoorWld
set_option linter.unusedVariables false
set_option linter.unusedSimpArgs false
namespace Go.Proofs.YtipijgnbdnbljaaDoor
open Go.RowKit

theorem oper9 : operR 9 = ⟨#[61, 61, 61]⟩ := by decide
theorem last4 : lastOp ⟨#[37]⟩ 11 = 4 := by decide +kernel
theorem right2 : rightR [(2, 0, 0), (61, 0, 0)] 0 [] = true := by decide

set_option maxHeartbeats 2000000 in
theorem fit_any (w : World) (h : Tb w) : Calls Tryd.prog 7 #[] w (Ret (.bool true) w) := by
  have C1 := Lib.hid (fun (W : World) (hW : Tb W) => operator_any 9 W hW)
  have C2 := Lib.hid (fun (W : World) (hW : Tb W) => operators_any ⟨#[37]⟩ W hW)
  rw [oper9] at C1
  rw [last4] at C2
  have HT := Lib.hid h
  clear h
  go_enter Tryd.func7, Tryd.ntmps7
  go_wp2_with fail
  have k1 : Blk _ _ _ _ := (Blk.new w 36 #[.int .i64 2, .int .i64 0, .int .i64 0, .int .i64 61, .int .i64 0, .int .i64 0]).alloc (.cells #[.string ⟨#[]⟩, .int .i64 0, .int .i64 0, .bool false, .bool false, .bool false, .bool false, .bool false, .slice (some ⟨w.heap.size, 0, none⟩) 2 2, .slice none 0 0, .slice none 0 0] 33)
  have k2 := Blk.new (w.alloc (.cells #[.int .i64 2, .int .i64 0, .int .i64 0, .int .i64 61, .int .i64 0, .int .i64 0] 36)) 33 #[.string ⟨#[]⟩, .int .i64 0, .int .i64 0, .bool false, .bool false, .bool false, .bool false, .bool false, .slice (some ⟨w.heap.size, 0, none⟩) 2 2, .slice none 0 0, .slice none 0 0]
  have b0 : Below w.heap.size w ((w.alloc (.cells #[.int .i64 2, .int .i64 0, .int .i64 0, .int .i64 61, .int .i64 0, .int .i64 0] 36)).alloc (.cells #[.string ⟨#[]⟩, .int .i64 0, .int .i64 0, .bool false, .bool false, .bool false, .bool false, .bool false, .slice (some ⟨w.heap.size, 0, none⟩) 2 2, .slice none 0 0, .slice none 0 0] 33)) := ((Below.refl _ _).alloc (Nat.le_refl _) _).alloc (by simp) _
  rw [World.size_alloc] at k2
  generalize (w.alloc (.cells #[.int .i64 2, .int .i64 0, .int .i64 0, .int .i64 61, .int .i64 0, .int .i64 0] 36)).alloc (.cells #[.string ⟨#[]⟩, .int .i64 0, .int .i64 0, .bool false, .bool false, .bool false, .bool false, .bool false, .slice (some ⟨w.heap.size, 0, none⟩) 2 2, .slice none 0 0, .slice none 0 0] 33) = W at *
  have hk1 := k1.lt
  have hk2 := k2.lt
  refine (C1.out _ (HT.out.below b0)).mono ?_
  rintro e w1 ⟨rfl, b1⟩
  have b1' := b0.trans (b1.mono b0.size)
  go_wp2_with fail
  refine (C2.out _ (HT.out.below b1')).mono ?_
  rintro e w2 ⟨rfl, b2⟩
  have b2' := b1'.trans (b2.mono b1'.size)
  have q1 := (k1.below b1 hk1).below b2 (Nat.lt_of_lt_of_le hk1 b1.size)
  have q2 := (k2.below b1 hk2).below b2 (Nat.lt_of_lt_of_le hk2 b1.size)
  clear k1 k2 b0 b1 b2 b1'
  go_wp2_with fail
  refine (right_core (w.heap.size + 1) (some ⟨w.heap.size, 0, none⟩) none none 2 2 0 0 0 [(2, 0, 0), (61, 0, 0)] [] (fun _ => ⟨0, 0, none⟩) w2 rfl (by decide) (by decide) (by decide) (by rw [q2.cell]; rfl) (by rw [q2.cell]; rfl) (by rw [q2.cell]; rfl)
    ⟨fun _ => ⟨_, rfl, q1.lt, fun k hk => by
      have hk2 : k < 2 := hk
      match k, hk2 with
      | 0, _ => exact ⟨by rw [q1.cell]; rfl, by rw [q1.cell]; rfl, by rw [q1.cell]; rfl⟩
      | 1, _ => exact ⟨by rw [q1.cell]; rfl, by rw [q1.cell]; rfl, by rw [q1.cell]; rfl⟩⟩⟩
    (fun h => absurd h (by decide)) (fun k hk => absurd hk (by simp))).mono ?_
  rw [right2]
  rintro e w3 ⟨rfl, b3⟩
  go_wp2
  go_ret
  exact ⟨rfl, b2'.trans (b3.mono b2'.size)⟩
end Go.Proofs.YtipijgnbdnbljaaDoor
