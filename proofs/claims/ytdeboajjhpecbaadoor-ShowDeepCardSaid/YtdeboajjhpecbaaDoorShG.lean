/- Show: cut, Show. -/
import Derived.Test.YtdeboajjhpecbaaDoorShF
set_option linter.unusedVariables false
set_option linter.unusedSimpArgs false
namespace Go.Proofs.YtdeboajjhpecbaaDoor.Hp
open Go.RowKit Go.Proofs.YtdeboajjhpecbaaDoor Go.Shelf
set_option maxHeartbeats 4000000 in
theorem cut_any (s : ByteArray) (hs : s.size ≤ 16384) (w : World) : Calls Tryd.prog 23 #[.string s] w (ShwP s w) := by
  have t1 : decide ((s.size : Int) ≤ 16384) = true := by simp; omega
  go_enter Tryd.func23, Tryd.ntmps23
  go_wp2_with (fail)
  have hm : (min ((s.size : Int)) 16384).toNat = s.size := by omega
  rw [hm]
  have hx : s.extract 0 s.size = s := by simp
  rw [hx]
  go_ret
  exact ⟨rfl, Below.refl _ _⟩
set_option maxHeartbeats 4000000 in
theorem Show_any (m : Nat) (k n : Int) (s g : ByteArray) (hg : g.size ≤ 16384) (w : World)
    (hS : ∀ W, Below w.heap.size w W → Calls Tryd.prog 24 #[.pointer (some ⟨m, 0, none⟩), VS k n s, .int .i64 0] W (ShwP g W)) :
    Calls Tryd.prog 10 #[.pointer (some ⟨m, 0, none⟩), VS k n s] w (ShwP g w) := by
  have b0 : Below w.heap.size w (w.alloc (.cells #[.int .i64 k, .int .i64 n, .string s] 26)) := (Below.refl _ _).alloc (Nat.le_refl _) _
  have HS := Lib.hid (hS _ b0)
  have HB := Lib.hid b0
  clear hS b0
  go_enter Tryd.func10, Tryd.ntmps10
  go_wp2_with (fail)
  refine HS.out.mono ?_
  rintro e w1 ⟨rfl, b1⟩
  have HB1 := Lib.hid (HB.out.trans (b1.mono HB.out.size))
  clear b1 HS HB
  go_wp2_with (fail)
  refine (cut_any g hg _).mono ?_
  rintro e w2 ⟨rfl, b2⟩
  have HB2 := Lib.hid (HB1.out.trans (b2.mono HB1.out.size))
  clear b2 HB1
  go_wp2
  go_ret
  exact ⟨rfl, HB2.out⟩
end Go.Proofs.YtdeboajjhpecbaaDoor.Hp
