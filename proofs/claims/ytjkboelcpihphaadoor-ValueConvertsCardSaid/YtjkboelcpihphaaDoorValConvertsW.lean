/- The walk of the statement ValueConverts. -/
import Derived.Test.YtjkboelcpihphaaDoorValI
import Derived.Lib.QuietBelow
set_option linter.unusedVariables false
set_option linter.unusedSimpArgs false
namespace Go.Proofs.YtjkboelcpihphaaDoor
open Go.RowKit Go.Sort

set_option maxHeartbeats 8000000 in
set_option maxRecDepth 100000 in
theorem conv_ok (K N : Int) (a : Option Addr) (na ca : Nat) (k n : Int) (s : ByteArray) (c d : Int) (t : ByteArray) (r : Bool) (w : World) (hna : na ≤ 2000) (hk8 : (k == 8) = false)
    (CF : ∀ W, Below w.heap.size w W → Calls Tryd.prog 9 #[] W (Ret (.bool true) W))
    (CV : ∀ W, Below w.heap.size w W → Calls Tryd.prog 10 #[SeedV K N a na ca] W (Ret (VS k n s) W))
    (C1 : ∀ W, Calls Tryd.prog 29 #[VS k n s] W (Ret (.tuple #[VN c d, .int .i64 0]) W))
    (C2 : ∀ W, Calls Tryd.prog 30 #[VS k n s] W (Ret (.tuple #[VN c d, .int .i64 0]) W))
    (C3 : ∀ W, Below w.heap.size w W → Calls Tryd.prog 14 #[VS k n s] W (Ret (.tuple #[.string t, .int .i64 0]) W))
    (C4 : ∀ W, Below w.heap.size w W → Calls Tryd.prog 31 #[VS k n s] W (Ret (.tuple #[.string t, .int .i64 0]) W))
    (C5 : ∀ W, Below w.heap.size w W → Calls Tryd.prog 32 #[VS k n s] W (Ret (.tuple #[VS 7 0 t, .int .i64 0]) W))
    (C6 : ∀ W, Calls Tryd.prog 12 #[VS k n s] W (Ret (.bool r) W))
    (C7 : ∀ W, Calls Tryd.prog 33 #[VS k n s] W (Ret (.bool r) W)) :
    Calls Tryd.prog 8 #[SeedV K N a na ca] w fun e w' => e = .returned (.bool true) ∧ Below w.heap.size w w' := by
  have HCF := Lib.hid CF
  have HCV := Lib.hid CV
  have HC1 := Lib.hid C1
  have HC2 := Lib.hid C2
  have HC3 := Lib.hid C3
  have HC4 := Lib.hid C4
  have HC5 := Lib.hid C5
  have HC6 := Lib.hid C6
  have HC7 := Lib.hid C7
  clear CF CV C1 C2 C3 C4 C5 C6 C7
  have s1 : decide ((2000 : Int) < (na : Int)) = false := by simp; omega
  go_enter Tryd.func8, Tryd.ntmps8
  go_wp2_with fail
  have k_q := Blk.new w 24 #[.int .i64 K, .int .i64 N, .slice a na ca]
  have bb : Below w.heap.size w _ := ((Below.refl _ _).alloc (Nat.le_refl _) (.cells #[.int .i64 K, .int .i64 N, .slice a na ca] 24))
  generalize (w.alloc (.cells #[.int .i64 K, .int .i64 N, .slice a na ca] 24)) = W0 at *
  refine (HCF.out _ bb).mono ?_
  rintro e w1 ⟨rfl, b1⟩
  have k_q := k_q.below b1 k_q.lt
  have bb := bb.trans (b1.mono bb.size)
  have x_q0 : w1.cell? ⟨w.heap.size, 0, none⟩ = some (.int .i64 K) := by rw [k_q.cell]; rfl
  have x_q1 : w1.cell? ⟨w.heap.size, 1, none⟩ = some (.int .i64 N) := by rw [k_q.cell]; rfl
  have x_q2 : w1.cell? ⟨w.heap.size, 2, none⟩ = some (.slice a na ca) := by rw [k_q.cell]; rfl
  have l_q := k_q.lt
  go_wp2_with fail
  refine (HCV.out _ bb).mono ?_
  rintro e w2 ⟨rfl, b2⟩
  clear x_q0 x_q1 x_q2 l_q
  have k_q := k_q.below b2 k_q.lt
  have bb := bb.trans (b2.mono bb.size)
  have x_q0 : w2.cell? ⟨w.heap.size, 0, none⟩ = some (.int .i64 K) := by rw [k_q.cell]; rfl
  have x_q1 : w2.cell? ⟨w.heap.size, 1, none⟩ = some (.int .i64 N) := by rw [k_q.cell]; rfl
  have x_q2 : w2.cell? ⟨w.heap.size, 2, none⟩ = some (.slice a na ca) := by rw [k_q.cell]; rfl
  have l_q := k_q.lt
  go_wp2_with fail
  have k_q := k_q.alloc (.cells #[.int .i64 k, .int .i64 n, .string s] 27)
  have k_x := Blk.new w2 27 #[.int .i64 k, .int .i64 n, .string s]
  have bb := bb.alloc bb.size (.cells #[.int .i64 k, .int .i64 n, .string s] 27)
  clear x_q0 x_q1 x_q2 l_q
  generalize w2.alloc (.cells #[.int .i64 k, .int .i64 n, .string s] 27) = V1 at *
  have x_q0 : V1.cell? ⟨w.heap.size, 0, none⟩ = some (.int .i64 K) := by rw [k_q.cell]; rfl
  have x_q1 : V1.cell? ⟨w.heap.size, 1, none⟩ = some (.int .i64 N) := by rw [k_q.cell]; rfl
  have x_q2 : V1.cell? ⟨w.heap.size, 2, none⟩ = some (.slice a na ca) := by rw [k_q.cell]; rfl
  have l_q := k_q.lt
  have x_x0 : V1.cell? ⟨w2.heap.size, 0, none⟩ = some (.int .i64 k) := by rw [k_x.cell]; rfl
  have x_x1 : V1.cell? ⟨w2.heap.size, 1, none⟩ = some (.int .i64 n) := by rw [k_x.cell]; rfl
  have x_x2 : V1.cell? ⟨w2.heap.size, 2, none⟩ = some (.string s) := by rw [k_x.cell]; rfl
  have l_x := k_x.lt
  refine (HC1.out _).mono ?_
  rintro e w3 ⟨rfl, b3⟩
  clear x_q0 x_q1 x_q2 l_q x_x0 x_x1 x_x2 l_x
  have k_q := k_q.below b3 k_q.lt
  have k_x := k_x.below b3 k_x.lt
  have bb := bb.trans (b3.mono bb.size)
  have x_q0 : w3.cell? ⟨w.heap.size, 0, none⟩ = some (.int .i64 K) := by rw [k_q.cell]; rfl
  have x_q1 : w3.cell? ⟨w.heap.size, 1, none⟩ = some (.int .i64 N) := by rw [k_q.cell]; rfl
  have x_q2 : w3.cell? ⟨w.heap.size, 2, none⟩ = some (.slice a na ca) := by rw [k_q.cell]; rfl
  have l_q := k_q.lt
  have x_x0 : w3.cell? ⟨w2.heap.size, 0, none⟩ = some (.int .i64 k) := by rw [k_x.cell]; rfl
  have x_x1 : w3.cell? ⟨w2.heap.size, 1, none⟩ = some (.int .i64 n) := by rw [k_x.cell]; rfl
  have x_x2 : w3.cell? ⟨w2.heap.size, 2, none⟩ = some (.string s) := by rw [k_x.cell]; rfl
  have l_x := k_x.lt
  go_wp2_with fail
  have k_q := k_q.alloc (.cells #[.int .i64 c, .int .i64 d, .string ⟨#[]⟩] 27)
  have k_x := k_x.alloc (.cells #[.int .i64 c, .int .i64 d, .string ⟨#[]⟩] 27)
  have k_n := Blk.new w3 27 #[.int .i64 c, .int .i64 d, .string ⟨#[]⟩]
  have bb := bb.alloc bb.size (.cells #[.int .i64 c, .int .i64 d, .string ⟨#[]⟩] 27)
  clear x_q0 x_q1 x_q2 l_q x_x0 x_x1 x_x2 l_x
  generalize w3.alloc (.cells #[.int .i64 c, .int .i64 d, .string ⟨#[]⟩] 27) = V2 at *
  have x_q0 : V2.cell? ⟨w.heap.size, 0, none⟩ = some (.int .i64 K) := by rw [k_q.cell]; rfl
  have x_q1 : V2.cell? ⟨w.heap.size, 1, none⟩ = some (.int .i64 N) := by rw [k_q.cell]; rfl
  have x_q2 : V2.cell? ⟨w.heap.size, 2, none⟩ = some (.slice a na ca) := by rw [k_q.cell]; rfl
  have l_q := k_q.lt
  have x_x0 : V2.cell? ⟨w2.heap.size, 0, none⟩ = some (.int .i64 k) := by rw [k_x.cell]; rfl
  have x_x1 : V2.cell? ⟨w2.heap.size, 1, none⟩ = some (.int .i64 n) := by rw [k_x.cell]; rfl
  have x_x2 : V2.cell? ⟨w2.heap.size, 2, none⟩ = some (.string s) := by rw [k_x.cell]; rfl
  have l_x := k_x.lt
  have x_n0 : V2.cell? ⟨w3.heap.size, 0, none⟩ = some (.int .i64 c) := by rw [k_n.cell]; rfl
  have x_n1 : V2.cell? ⟨w3.heap.size, 1, none⟩ = some (.int .i64 d) := by rw [k_n.cell]; rfl
  have x_n2 : V2.cell? ⟨w3.heap.size, 2, none⟩ = some (.string ⟨#[]⟩) := by rw [k_n.cell]; rfl
  have l_n := k_n.lt
  refine (HC2.out _).mono ?_
  rintro e w4 ⟨rfl, b4⟩
  clear x_q0 x_q1 x_q2 l_q x_x0 x_x1 x_x2 l_x x_n0 x_n1 x_n2 l_n
  have k_q := k_q.below b4 k_q.lt
  have k_x := k_x.below b4 k_x.lt
  have k_n := k_n.below b4 k_n.lt
  have bb := bb.trans (b4.mono bb.size)
  have x_q0 : w4.cell? ⟨w.heap.size, 0, none⟩ = some (.int .i64 K) := by rw [k_q.cell]; rfl
  have x_q1 : w4.cell? ⟨w.heap.size, 1, none⟩ = some (.int .i64 N) := by rw [k_q.cell]; rfl
  have x_q2 : w4.cell? ⟨w.heap.size, 2, none⟩ = some (.slice a na ca) := by rw [k_q.cell]; rfl
  have l_q := k_q.lt
  have x_x0 : w4.cell? ⟨w2.heap.size, 0, none⟩ = some (.int .i64 k) := by rw [k_x.cell]; rfl
  have x_x1 : w4.cell? ⟨w2.heap.size, 1, none⟩ = some (.int .i64 n) := by rw [k_x.cell]; rfl
  have x_x2 : w4.cell? ⟨w2.heap.size, 2, none⟩ = some (.string s) := by rw [k_x.cell]; rfl
  have l_x := k_x.lt
  have x_n0 : w4.cell? ⟨w3.heap.size, 0, none⟩ = some (.int .i64 c) := by rw [k_n.cell]; rfl
  have x_n1 : w4.cell? ⟨w3.heap.size, 1, none⟩ = some (.int .i64 d) := by rw [k_n.cell]; rfl
  have x_n2 : w4.cell? ⟨w3.heap.size, 2, none⟩ = some (.string ⟨#[]⟩) := by rw [k_n.cell]; rfl
  have l_n := k_n.lt
  go_wp2_with fail
  have k_q := k_q.alloc (.cells #[.int .i64 c, .int .i64 d, .string ⟨#[]⟩] 27)
  have k_x := k_x.alloc (.cells #[.int .i64 c, .int .i64 d, .string ⟨#[]⟩] 27)
  have k_n := k_n.alloc (.cells #[.int .i64 c, .int .i64 d, .string ⟨#[]⟩] 27)
  have k_m := Blk.new w4 27 #[.int .i64 c, .int .i64 d, .string ⟨#[]⟩]
  have bb := bb.alloc bb.size (.cells #[.int .i64 c, .int .i64 d, .string ⟨#[]⟩] 27)
  clear x_q0 x_q1 x_q2 l_q x_x0 x_x1 x_x2 l_x x_n0 x_n1 x_n2 l_n
  generalize w4.alloc (.cells #[.int .i64 c, .int .i64 d, .string ⟨#[]⟩] 27) = V3 at *
  have x_q0 : V3.cell? ⟨w.heap.size, 0, none⟩ = some (.int .i64 K) := by rw [k_q.cell]; rfl
  have x_q1 : V3.cell? ⟨w.heap.size, 1, none⟩ = some (.int .i64 N) := by rw [k_q.cell]; rfl
  have x_q2 : V3.cell? ⟨w.heap.size, 2, none⟩ = some (.slice a na ca) := by rw [k_q.cell]; rfl
  have l_q := k_q.lt
  have x_x0 : V3.cell? ⟨w2.heap.size, 0, none⟩ = some (.int .i64 k) := by rw [k_x.cell]; rfl
  have x_x1 : V3.cell? ⟨w2.heap.size, 1, none⟩ = some (.int .i64 n) := by rw [k_x.cell]; rfl
  have x_x2 : V3.cell? ⟨w2.heap.size, 2, none⟩ = some (.string s) := by rw [k_x.cell]; rfl
  have l_x := k_x.lt
  have x_n0 : V3.cell? ⟨w3.heap.size, 0, none⟩ = some (.int .i64 c) := by rw [k_n.cell]; rfl
  have x_n1 : V3.cell? ⟨w3.heap.size, 1, none⟩ = some (.int .i64 d) := by rw [k_n.cell]; rfl
  have x_n2 : V3.cell? ⟨w3.heap.size, 2, none⟩ = some (.string ⟨#[]⟩) := by rw [k_n.cell]; rfl
  have l_n := k_n.lt
  have x_m0 : V3.cell? ⟨w4.heap.size, 0, none⟩ = some (.int .i64 c) := by rw [k_m.cell]; rfl
  have x_m1 : V3.cell? ⟨w4.heap.size, 1, none⟩ = some (.int .i64 d) := by rw [k_m.cell]; rfl
  have x_m2 : V3.cell? ⟨w4.heap.size, 2, none⟩ = some (.string ⟨#[]⟩) := by rw [k_m.cell]; rfl
  have l_m := k_m.lt
  refine (HC3.out _ bb).mono ?_
  rintro e w5 ⟨rfl, b5⟩
  clear x_q0 x_q1 x_q2 l_q x_x0 x_x1 x_x2 l_x x_n0 x_n1 x_n2 l_n x_m0 x_m1 x_m2 l_m
  have k_q := k_q.below b5 k_q.lt
  have k_x := k_x.below b5 k_x.lt
  have k_n := k_n.below b5 k_n.lt
  have k_m := k_m.below b5 k_m.lt
  have bb := bb.trans (b5.mono bb.size)
  have x_q0 : w5.cell? ⟨w.heap.size, 0, none⟩ = some (.int .i64 K) := by rw [k_q.cell]; rfl
  have x_q1 : w5.cell? ⟨w.heap.size, 1, none⟩ = some (.int .i64 N) := by rw [k_q.cell]; rfl
  have x_q2 : w5.cell? ⟨w.heap.size, 2, none⟩ = some (.slice a na ca) := by rw [k_q.cell]; rfl
  have l_q := k_q.lt
  have x_x0 : w5.cell? ⟨w2.heap.size, 0, none⟩ = some (.int .i64 k) := by rw [k_x.cell]; rfl
  have x_x1 : w5.cell? ⟨w2.heap.size, 1, none⟩ = some (.int .i64 n) := by rw [k_x.cell]; rfl
  have x_x2 : w5.cell? ⟨w2.heap.size, 2, none⟩ = some (.string s) := by rw [k_x.cell]; rfl
  have l_x := k_x.lt
  have x_n0 : w5.cell? ⟨w3.heap.size, 0, none⟩ = some (.int .i64 c) := by rw [k_n.cell]; rfl
  have x_n1 : w5.cell? ⟨w3.heap.size, 1, none⟩ = some (.int .i64 d) := by rw [k_n.cell]; rfl
  have x_n2 : w5.cell? ⟨w3.heap.size, 2, none⟩ = some (.string ⟨#[]⟩) := by rw [k_n.cell]; rfl
  have l_n := k_n.lt
  have x_m0 : w5.cell? ⟨w4.heap.size, 0, none⟩ = some (.int .i64 c) := by rw [k_m.cell]; rfl
  have x_m1 : w5.cell? ⟨w4.heap.size, 1, none⟩ = some (.int .i64 d) := by rw [k_m.cell]; rfl
  have x_m2 : w5.cell? ⟨w4.heap.size, 2, none⟩ = some (.string ⟨#[]⟩) := by rw [k_m.cell]; rfl
  have l_m := k_m.lt
  go_wp2_with fail
  refine (HC4.out _ bb).mono ?_
  rintro e w6 ⟨rfl, b6⟩
  clear x_q0 x_q1 x_q2 l_q x_x0 x_x1 x_x2 l_x x_n0 x_n1 x_n2 l_n x_m0 x_m1 x_m2 l_m
  have k_q := k_q.below b6 k_q.lt
  have k_x := k_x.below b6 k_x.lt
  have k_n := k_n.below b6 k_n.lt
  have k_m := k_m.below b6 k_m.lt
  have bb := bb.trans (b6.mono bb.size)
  have x_q0 : w6.cell? ⟨w.heap.size, 0, none⟩ = some (.int .i64 K) := by rw [k_q.cell]; rfl
  have x_q1 : w6.cell? ⟨w.heap.size, 1, none⟩ = some (.int .i64 N) := by rw [k_q.cell]; rfl
  have x_q2 : w6.cell? ⟨w.heap.size, 2, none⟩ = some (.slice a na ca) := by rw [k_q.cell]; rfl
  have l_q := k_q.lt
  have x_x0 : w6.cell? ⟨w2.heap.size, 0, none⟩ = some (.int .i64 k) := by rw [k_x.cell]; rfl
  have x_x1 : w6.cell? ⟨w2.heap.size, 1, none⟩ = some (.int .i64 n) := by rw [k_x.cell]; rfl
  have x_x2 : w6.cell? ⟨w2.heap.size, 2, none⟩ = some (.string s) := by rw [k_x.cell]; rfl
  have l_x := k_x.lt
  have x_n0 : w6.cell? ⟨w3.heap.size, 0, none⟩ = some (.int .i64 c) := by rw [k_n.cell]; rfl
  have x_n1 : w6.cell? ⟨w3.heap.size, 1, none⟩ = some (.int .i64 d) := by rw [k_n.cell]; rfl
  have x_n2 : w6.cell? ⟨w3.heap.size, 2, none⟩ = some (.string ⟨#[]⟩) := by rw [k_n.cell]; rfl
  have l_n := k_n.lt
  have x_m0 : w6.cell? ⟨w4.heap.size, 0, none⟩ = some (.int .i64 c) := by rw [k_m.cell]; rfl
  have x_m1 : w6.cell? ⟨w4.heap.size, 1, none⟩ = some (.int .i64 d) := by rw [k_m.cell]; rfl
  have x_m2 : w6.cell? ⟨w4.heap.size, 2, none⟩ = some (.string ⟨#[]⟩) := by rw [k_m.cell]; rfl
  have l_m := k_m.lt
  go_wp2_with fail
  refine (HC5.out _ bb).mono ?_
  rintro e w7 ⟨rfl, b7⟩
  clear x_q0 x_q1 x_q2 l_q x_x0 x_x1 x_x2 l_x x_n0 x_n1 x_n2 l_n x_m0 x_m1 x_m2 l_m
  have k_q := k_q.below b7 k_q.lt
  have k_x := k_x.below b7 k_x.lt
  have k_n := k_n.below b7 k_n.lt
  have k_m := k_m.below b7 k_m.lt
  have bb := bb.trans (b7.mono bb.size)
  have x_q0 : w7.cell? ⟨w.heap.size, 0, none⟩ = some (.int .i64 K) := by rw [k_q.cell]; rfl
  have x_q1 : w7.cell? ⟨w.heap.size, 1, none⟩ = some (.int .i64 N) := by rw [k_q.cell]; rfl
  have x_q2 : w7.cell? ⟨w.heap.size, 2, none⟩ = some (.slice a na ca) := by rw [k_q.cell]; rfl
  have l_q := k_q.lt
  have x_x0 : w7.cell? ⟨w2.heap.size, 0, none⟩ = some (.int .i64 k) := by rw [k_x.cell]; rfl
  have x_x1 : w7.cell? ⟨w2.heap.size, 1, none⟩ = some (.int .i64 n) := by rw [k_x.cell]; rfl
  have x_x2 : w7.cell? ⟨w2.heap.size, 2, none⟩ = some (.string s) := by rw [k_x.cell]; rfl
  have l_x := k_x.lt
  have x_n0 : w7.cell? ⟨w3.heap.size, 0, none⟩ = some (.int .i64 c) := by rw [k_n.cell]; rfl
  have x_n1 : w7.cell? ⟨w3.heap.size, 1, none⟩ = some (.int .i64 d) := by rw [k_n.cell]; rfl
  have x_n2 : w7.cell? ⟨w3.heap.size, 2, none⟩ = some (.string ⟨#[]⟩) := by rw [k_n.cell]; rfl
  have l_n := k_n.lt
  have x_m0 : w7.cell? ⟨w4.heap.size, 0, none⟩ = some (.int .i64 c) := by rw [k_m.cell]; rfl
  have x_m1 : w7.cell? ⟨w4.heap.size, 1, none⟩ = some (.int .i64 d) := by rw [k_m.cell]; rfl
  have x_m2 : w7.cell? ⟨w4.heap.size, 2, none⟩ = some (.string ⟨#[]⟩) := by rw [k_m.cell]; rfl
  have l_m := k_m.lt
  go_upto_region 11 with fail
  have k_q := k_q.alloc (.cells #[.int .i64 7, .int .i64 0, .string t] 27)
  have k_x := k_x.alloc (.cells #[.int .i64 7, .int .i64 0, .string t] 27)
  have k_n := k_n.alloc (.cells #[.int .i64 7, .int .i64 0, .string t] 27)
  have k_m := k_m.alloc (.cells #[.int .i64 7, .int .i64 0, .string t] 27)
  have k_p := Blk.new w7 27 #[.int .i64 7, .int .i64 0, .string t]
  have bb := bb.alloc bb.size (.cells #[.int .i64 7, .int .i64 0, .string t] 27)
  clear x_q0 x_q1 x_q2 l_q x_x0 x_x1 x_x2 l_x x_n0 x_n1 x_n2 l_n x_m0 x_m1 x_m2 l_m
  generalize w7.alloc (.cells #[.int .i64 7, .int .i64 0, .string t] 27) = V4 at *
  have x_q0 : V4.cell? ⟨w.heap.size, 0, none⟩ = some (.int .i64 K) := by rw [k_q.cell]; rfl
  have x_q1 : V4.cell? ⟨w.heap.size, 1, none⟩ = some (.int .i64 N) := by rw [k_q.cell]; rfl
  have x_q2 : V4.cell? ⟨w.heap.size, 2, none⟩ = some (.slice a na ca) := by rw [k_q.cell]; rfl
  have l_q := k_q.lt
  have x_x0 : V4.cell? ⟨w2.heap.size, 0, none⟩ = some (.int .i64 k) := by rw [k_x.cell]; rfl
  have x_x1 : V4.cell? ⟨w2.heap.size, 1, none⟩ = some (.int .i64 n) := by rw [k_x.cell]; rfl
  have x_x2 : V4.cell? ⟨w2.heap.size, 2, none⟩ = some (.string s) := by rw [k_x.cell]; rfl
  have l_x := k_x.lt
  have x_n0 : V4.cell? ⟨w3.heap.size, 0, none⟩ = some (.int .i64 c) := by rw [k_n.cell]; rfl
  have x_n1 : V4.cell? ⟨w3.heap.size, 1, none⟩ = some (.int .i64 d) := by rw [k_n.cell]; rfl
  have x_n2 : V4.cell? ⟨w3.heap.size, 2, none⟩ = some (.string ⟨#[]⟩) := by rw [k_n.cell]; rfl
  have l_n := k_n.lt
  have x_m0 : V4.cell? ⟨w4.heap.size, 0, none⟩ = some (.int .i64 c) := by rw [k_m.cell]; rfl
  have x_m1 : V4.cell? ⟨w4.heap.size, 1, none⟩ = some (.int .i64 d) := by rw [k_m.cell]; rfl
  have x_m2 : V4.cell? ⟨w4.heap.size, 2, none⟩ = some (.string ⟨#[]⟩) := by rw [k_m.cell]; rfl
  have l_m := k_m.lt
  have x_p0 : V4.cell? ⟨w7.heap.size, 0, none⟩ = some (.int .i64 7) := by rw [k_p.cell]; rfl
  have x_p1 : V4.cell? ⟨w7.heap.size, 1, none⟩ = some (.int .i64 0) := by rw [k_p.cell]; rfl
  have x_p2 : V4.cell? ⟨w7.heap.size, 2, none⟩ = some (.string t) := by rw [k_p.cell]; rfl
  have l_p := k_p.lt
  have Q_q0 := fun d os => cell_regrown x_q0 d os
  have Q_q1 := fun d os => cell_regrown x_q1 d os
  have Q_q2 := fun d os => cell_regrown x_q2 d os
  have Q_x0 := fun d os => cell_regrown x_x0 d os
  have Q_x1 := fun d os => cell_regrown x_x1 d os
  have Q_x2 := fun d os => cell_regrown x_x2 d os
  have Q_n0 := fun d os => cell_regrown x_n0 d os
  have Q_n1 := fun d os => cell_regrown x_n1 d os
  have Q_n2 := fun d os => cell_regrown x_n2 d os
  have Q_m0 := fun d os => cell_regrown x_m0 d os
  have Q_m1 := fun d os => cell_regrown x_m1 d os
  have Q_m2 := fun d os => cell_regrown x_m2 d os
  have Q_p0 := fun d os => cell_regrown x_p0 d os
  have Q_p1 := fun d os => cell_regrown x_p1 d os
  have Q_p2 := fun d os => cell_regrown x_p2 d os
  have up := fun d os => bb.trans ((below_regrown V4 d os).mono bb.size)
  have D1 := fun d os => Calls.regrown_of (HC6.out (grow (redrawn V4 d) os))
  have D2 := fun d os => Calls.regrown_of (HC7.out (grow (redrawn V4 d) os))
  clear x_q0 x_q1 x_q2 x_x0 x_x1 x_x2 x_n0 x_n1 x_n2 x_m0 x_m1 x_m2 x_p0 x_p1 x_p2
  have q1 : (t.toList == t.toList) = true := by simp
  have q2 : (c == c) = true := by simp
  have q3 : (d == d) = true := by simp
  have q4 : (r == r) = true := by simp
  have q5 : (s.toList == s.toList) = true := by simp
  have q6 : (n == n) = true := by simp
  refine wp_region_quiet_below (by kernel_rfl) (by kernel_rfl) ?_
  repeat (first | go_big_quiet_step (first | with_reducible exact D1 _ _ | with_reducible exact D2 _ _) | quiet_step (first | with_reducible exact D1 _ _ | with_reducible exact D2 _ _))
  refine wpQuiet_nil ?_
  intro _ hw'
  obtain ⟨⟨dq, osq⟩, hw''⟩ := hw'
  subst hw''
  have be := up dq osq
  have bq := below_regrown V4 dq osq
  clear D1 D2 up Q_q0 Q_q1 Q_q2 Q_x0 Q_x1 Q_x2 Q_n0 Q_n1 Q_n2 Q_m0 Q_m1 Q_m2 Q_p0 Q_p1 Q_p2
  clear l_q l_x l_n l_m l_p
  have k_q := k_q.below bq k_q.lt
  have k_x := k_x.below bq k_x.lt
  have k_n := k_n.below bq k_n.lt
  have k_m := k_m.below bq k_m.lt
  have k_p := k_p.below bq k_p.lt
  generalize grow (redrawn V4 dq) osq = E at *
  have x_q0 : E.cell? ⟨w.heap.size, 0, none⟩ = some (.int .i64 K) := by rw [k_q.cell]; rfl
  have x_q1 : E.cell? ⟨w.heap.size, 1, none⟩ = some (.int .i64 N) := by rw [k_q.cell]; rfl
  have x_q2 : E.cell? ⟨w.heap.size, 2, none⟩ = some (.slice a na ca) := by rw [k_q.cell]; rfl
  have l_q := k_q.lt
  have x_x0 : E.cell? ⟨w2.heap.size, 0, none⟩ = some (.int .i64 k) := by rw [k_x.cell]; rfl
  have x_x1 : E.cell? ⟨w2.heap.size, 1, none⟩ = some (.int .i64 n) := by rw [k_x.cell]; rfl
  have x_x2 : E.cell? ⟨w2.heap.size, 2, none⟩ = some (.string s) := by rw [k_x.cell]; rfl
  have l_x := k_x.lt
  have x_n0 : E.cell? ⟨w3.heap.size, 0, none⟩ = some (.int .i64 c) := by rw [k_n.cell]; rfl
  have x_n1 : E.cell? ⟨w3.heap.size, 1, none⟩ = some (.int .i64 d) := by rw [k_n.cell]; rfl
  have x_n2 : E.cell? ⟨w3.heap.size, 2, none⟩ = some (.string ⟨#[]⟩) := by rw [k_n.cell]; rfl
  have l_n := k_n.lt
  have x_m0 : E.cell? ⟨w4.heap.size, 0, none⟩ = some (.int .i64 c) := by rw [k_m.cell]; rfl
  have x_m1 : E.cell? ⟨w4.heap.size, 1, none⟩ = some (.int .i64 d) := by rw [k_m.cell]; rfl
  have x_m2 : E.cell? ⟨w4.heap.size, 2, none⟩ = some (.string ⟨#[]⟩) := by rw [k_m.cell]; rfl
  have l_m := k_m.lt
  have x_p0 : E.cell? ⟨w7.heap.size, 0, none⟩ = some (.int .i64 7) := by rw [k_p.cell]; rfl
  have x_p1 : E.cell? ⟨w7.heap.size, 1, none⟩ = some (.int .i64 0) := by rw [k_p.cell]; rfl
  have x_p2 : E.cell? ⟨w7.heap.size, 2, none⟩ = some (.string t) := by rw [k_p.cell]; rfl
  have l_p := k_p.lt
  go_wp2_with fail
  go_ret
  exact ⟨by simp, be⟩
set_option maxHeartbeats 8000000 in
set_option maxRecDepth 100000 in
theorem conv_str (K N : Int) (a : Option Addr) (na ca : Nat) (k n : Int) (s : ByteArray) (t : ByteArray) (r : Bool) (w : World) (hna : na ≤ 2000) (hk8 : (k == 8) = false)
    (CF : ∀ W, Below w.heap.size w W → Calls Tryd.prog 9 #[] W (Ret (.bool true) W))
    (CV : ∀ W, Below w.heap.size w W → Calls Tryd.prog 10 #[SeedV K N a na ca] W (Ret (VS k n s) W))
    (C1 : ∀ W, Calls Tryd.prog 29 #[VS k n s] W (Ret (.tuple #[VN 0 0, .int .i64 2]) W))
    (C2 : ∀ W, Calls Tryd.prog 30 #[VS k n s] W (Ret (.tuple #[VN 0 0, .int .i64 2]) W))
    (C3 : ∀ W, Below w.heap.size w W → Calls Tryd.prog 14 #[VS k n s] W (Ret (.tuple #[.string t, .int .i64 0]) W))
    (C4 : ∀ W, Below w.heap.size w W → Calls Tryd.prog 31 #[VS k n s] W (Ret (.tuple #[.string t, .int .i64 0]) W))
    (C5 : ∀ W, Below w.heap.size w W → Calls Tryd.prog 32 #[VS k n s] W (Ret (.tuple #[VS 7 0 t, .int .i64 0]) W))
    (C6 : ∀ W, Calls Tryd.prog 12 #[VS k n s] W (Ret (.bool r) W))
    (C7 : ∀ W, Calls Tryd.prog 33 #[VS k n s] W (Ret (.bool r) W)) :
    Calls Tryd.prog 8 #[SeedV K N a na ca] w fun e w' => e = .returned (.bool true) ∧ Below w.heap.size w w' := by
  have HCF := Lib.hid CF
  have HCV := Lib.hid CV
  have HC1 := Lib.hid C1
  have HC2 := Lib.hid C2
  have HC3 := Lib.hid C3
  have HC4 := Lib.hid C4
  have HC5 := Lib.hid C5
  have HC6 := Lib.hid C6
  have HC7 := Lib.hid C7
  clear CF CV C1 C2 C3 C4 C5 C6 C7
  have s1 : decide ((2000 : Int) < (na : Int)) = false := by simp; omega
  go_enter Tryd.func8, Tryd.ntmps8
  go_wp2_with fail
  have k_q := Blk.new w 24 #[.int .i64 K, .int .i64 N, .slice a na ca]
  have bb : Below w.heap.size w _ := ((Below.refl _ _).alloc (Nat.le_refl _) (.cells #[.int .i64 K, .int .i64 N, .slice a na ca] 24))
  generalize (w.alloc (.cells #[.int .i64 K, .int .i64 N, .slice a na ca] 24)) = W0 at *
  refine (HCF.out _ bb).mono ?_
  rintro e w1 ⟨rfl, b1⟩
  have k_q := k_q.below b1 k_q.lt
  have bb := bb.trans (b1.mono bb.size)
  have x_q0 : w1.cell? ⟨w.heap.size, 0, none⟩ = some (.int .i64 K) := by rw [k_q.cell]; rfl
  have x_q1 : w1.cell? ⟨w.heap.size, 1, none⟩ = some (.int .i64 N) := by rw [k_q.cell]; rfl
  have x_q2 : w1.cell? ⟨w.heap.size, 2, none⟩ = some (.slice a na ca) := by rw [k_q.cell]; rfl
  have l_q := k_q.lt
  go_wp2_with fail
  refine (HCV.out _ bb).mono ?_
  rintro e w2 ⟨rfl, b2⟩
  clear x_q0 x_q1 x_q2 l_q
  have k_q := k_q.below b2 k_q.lt
  have bb := bb.trans (b2.mono bb.size)
  have x_q0 : w2.cell? ⟨w.heap.size, 0, none⟩ = some (.int .i64 K) := by rw [k_q.cell]; rfl
  have x_q1 : w2.cell? ⟨w.heap.size, 1, none⟩ = some (.int .i64 N) := by rw [k_q.cell]; rfl
  have x_q2 : w2.cell? ⟨w.heap.size, 2, none⟩ = some (.slice a na ca) := by rw [k_q.cell]; rfl
  have l_q := k_q.lt
  go_wp2_with fail
  have k_q := k_q.alloc (.cells #[.int .i64 k, .int .i64 n, .string s] 27)
  have k_x := Blk.new w2 27 #[.int .i64 k, .int .i64 n, .string s]
  have bb := bb.alloc bb.size (.cells #[.int .i64 k, .int .i64 n, .string s] 27)
  clear x_q0 x_q1 x_q2 l_q
  generalize w2.alloc (.cells #[.int .i64 k, .int .i64 n, .string s] 27) = V1 at *
  have x_q0 : V1.cell? ⟨w.heap.size, 0, none⟩ = some (.int .i64 K) := by rw [k_q.cell]; rfl
  have x_q1 : V1.cell? ⟨w.heap.size, 1, none⟩ = some (.int .i64 N) := by rw [k_q.cell]; rfl
  have x_q2 : V1.cell? ⟨w.heap.size, 2, none⟩ = some (.slice a na ca) := by rw [k_q.cell]; rfl
  have l_q := k_q.lt
  have x_x0 : V1.cell? ⟨w2.heap.size, 0, none⟩ = some (.int .i64 k) := by rw [k_x.cell]; rfl
  have x_x1 : V1.cell? ⟨w2.heap.size, 1, none⟩ = some (.int .i64 n) := by rw [k_x.cell]; rfl
  have x_x2 : V1.cell? ⟨w2.heap.size, 2, none⟩ = some (.string s) := by rw [k_x.cell]; rfl
  have l_x := k_x.lt
  refine (HC1.out _).mono ?_
  rintro e w3 ⟨rfl, b3⟩
  clear x_q0 x_q1 x_q2 l_q x_x0 x_x1 x_x2 l_x
  have k_q := k_q.below b3 k_q.lt
  have k_x := k_x.below b3 k_x.lt
  have bb := bb.trans (b3.mono bb.size)
  have x_q0 : w3.cell? ⟨w.heap.size, 0, none⟩ = some (.int .i64 K) := by rw [k_q.cell]; rfl
  have x_q1 : w3.cell? ⟨w.heap.size, 1, none⟩ = some (.int .i64 N) := by rw [k_q.cell]; rfl
  have x_q2 : w3.cell? ⟨w.heap.size, 2, none⟩ = some (.slice a na ca) := by rw [k_q.cell]; rfl
  have l_q := k_q.lt
  have x_x0 : w3.cell? ⟨w2.heap.size, 0, none⟩ = some (.int .i64 k) := by rw [k_x.cell]; rfl
  have x_x1 : w3.cell? ⟨w2.heap.size, 1, none⟩ = some (.int .i64 n) := by rw [k_x.cell]; rfl
  have x_x2 : w3.cell? ⟨w2.heap.size, 2, none⟩ = some (.string s) := by rw [k_x.cell]; rfl
  have l_x := k_x.lt
  go_wp2_with fail
  have k_q := k_q.alloc (.cells #[.int .i64 0, .int .i64 0, .string ⟨#[]⟩] 27)
  have k_x := k_x.alloc (.cells #[.int .i64 0, .int .i64 0, .string ⟨#[]⟩] 27)
  have k_n := Blk.new w3 27 #[.int .i64 0, .int .i64 0, .string ⟨#[]⟩]
  have bb := bb.alloc bb.size (.cells #[.int .i64 0, .int .i64 0, .string ⟨#[]⟩] 27)
  clear x_q0 x_q1 x_q2 l_q x_x0 x_x1 x_x2 l_x
  generalize w3.alloc (.cells #[.int .i64 0, .int .i64 0, .string ⟨#[]⟩] 27) = V2 at *
  have x_q0 : V2.cell? ⟨w.heap.size, 0, none⟩ = some (.int .i64 K) := by rw [k_q.cell]; rfl
  have x_q1 : V2.cell? ⟨w.heap.size, 1, none⟩ = some (.int .i64 N) := by rw [k_q.cell]; rfl
  have x_q2 : V2.cell? ⟨w.heap.size, 2, none⟩ = some (.slice a na ca) := by rw [k_q.cell]; rfl
  have l_q := k_q.lt
  have x_x0 : V2.cell? ⟨w2.heap.size, 0, none⟩ = some (.int .i64 k) := by rw [k_x.cell]; rfl
  have x_x1 : V2.cell? ⟨w2.heap.size, 1, none⟩ = some (.int .i64 n) := by rw [k_x.cell]; rfl
  have x_x2 : V2.cell? ⟨w2.heap.size, 2, none⟩ = some (.string s) := by rw [k_x.cell]; rfl
  have l_x := k_x.lt
  have x_n0 : V2.cell? ⟨w3.heap.size, 0, none⟩ = some (.int .i64 0) := by rw [k_n.cell]; rfl
  have x_n1 : V2.cell? ⟨w3.heap.size, 1, none⟩ = some (.int .i64 0) := by rw [k_n.cell]; rfl
  have x_n2 : V2.cell? ⟨w3.heap.size, 2, none⟩ = some (.string ⟨#[]⟩) := by rw [k_n.cell]; rfl
  have l_n := k_n.lt
  refine (HC2.out _).mono ?_
  rintro e w4 ⟨rfl, b4⟩
  clear x_q0 x_q1 x_q2 l_q x_x0 x_x1 x_x2 l_x x_n0 x_n1 x_n2 l_n
  have k_q := k_q.below b4 k_q.lt
  have k_x := k_x.below b4 k_x.lt
  have k_n := k_n.below b4 k_n.lt
  have bb := bb.trans (b4.mono bb.size)
  have x_q0 : w4.cell? ⟨w.heap.size, 0, none⟩ = some (.int .i64 K) := by rw [k_q.cell]; rfl
  have x_q1 : w4.cell? ⟨w.heap.size, 1, none⟩ = some (.int .i64 N) := by rw [k_q.cell]; rfl
  have x_q2 : w4.cell? ⟨w.heap.size, 2, none⟩ = some (.slice a na ca) := by rw [k_q.cell]; rfl
  have l_q := k_q.lt
  have x_x0 : w4.cell? ⟨w2.heap.size, 0, none⟩ = some (.int .i64 k) := by rw [k_x.cell]; rfl
  have x_x1 : w4.cell? ⟨w2.heap.size, 1, none⟩ = some (.int .i64 n) := by rw [k_x.cell]; rfl
  have x_x2 : w4.cell? ⟨w2.heap.size, 2, none⟩ = some (.string s) := by rw [k_x.cell]; rfl
  have l_x := k_x.lt
  have x_n0 : w4.cell? ⟨w3.heap.size, 0, none⟩ = some (.int .i64 0) := by rw [k_n.cell]; rfl
  have x_n1 : w4.cell? ⟨w3.heap.size, 1, none⟩ = some (.int .i64 0) := by rw [k_n.cell]; rfl
  have x_n2 : w4.cell? ⟨w3.heap.size, 2, none⟩ = some (.string ⟨#[]⟩) := by rw [k_n.cell]; rfl
  have l_n := k_n.lt
  go_wp2_with fail
  have k_q := k_q.alloc (.cells #[.int .i64 0, .int .i64 0, .string ⟨#[]⟩] 27)
  have k_x := k_x.alloc (.cells #[.int .i64 0, .int .i64 0, .string ⟨#[]⟩] 27)
  have k_n := k_n.alloc (.cells #[.int .i64 0, .int .i64 0, .string ⟨#[]⟩] 27)
  have k_m := Blk.new w4 27 #[.int .i64 0, .int .i64 0, .string ⟨#[]⟩]
  have bb := bb.alloc bb.size (.cells #[.int .i64 0, .int .i64 0, .string ⟨#[]⟩] 27)
  clear x_q0 x_q1 x_q2 l_q x_x0 x_x1 x_x2 l_x x_n0 x_n1 x_n2 l_n
  generalize w4.alloc (.cells #[.int .i64 0, .int .i64 0, .string ⟨#[]⟩] 27) = V3 at *
  have x_q0 : V3.cell? ⟨w.heap.size, 0, none⟩ = some (.int .i64 K) := by rw [k_q.cell]; rfl
  have x_q1 : V3.cell? ⟨w.heap.size, 1, none⟩ = some (.int .i64 N) := by rw [k_q.cell]; rfl
  have x_q2 : V3.cell? ⟨w.heap.size, 2, none⟩ = some (.slice a na ca) := by rw [k_q.cell]; rfl
  have l_q := k_q.lt
  have x_x0 : V3.cell? ⟨w2.heap.size, 0, none⟩ = some (.int .i64 k) := by rw [k_x.cell]; rfl
  have x_x1 : V3.cell? ⟨w2.heap.size, 1, none⟩ = some (.int .i64 n) := by rw [k_x.cell]; rfl
  have x_x2 : V3.cell? ⟨w2.heap.size, 2, none⟩ = some (.string s) := by rw [k_x.cell]; rfl
  have l_x := k_x.lt
  have x_n0 : V3.cell? ⟨w3.heap.size, 0, none⟩ = some (.int .i64 0) := by rw [k_n.cell]; rfl
  have x_n1 : V3.cell? ⟨w3.heap.size, 1, none⟩ = some (.int .i64 0) := by rw [k_n.cell]; rfl
  have x_n2 : V3.cell? ⟨w3.heap.size, 2, none⟩ = some (.string ⟨#[]⟩) := by rw [k_n.cell]; rfl
  have l_n := k_n.lt
  have x_m0 : V3.cell? ⟨w4.heap.size, 0, none⟩ = some (.int .i64 0) := by rw [k_m.cell]; rfl
  have x_m1 : V3.cell? ⟨w4.heap.size, 1, none⟩ = some (.int .i64 0) := by rw [k_m.cell]; rfl
  have x_m2 : V3.cell? ⟨w4.heap.size, 2, none⟩ = some (.string ⟨#[]⟩) := by rw [k_m.cell]; rfl
  have l_m := k_m.lt
  refine (HC3.out _ bb).mono ?_
  rintro e w5 ⟨rfl, b5⟩
  clear x_q0 x_q1 x_q2 l_q x_x0 x_x1 x_x2 l_x x_n0 x_n1 x_n2 l_n x_m0 x_m1 x_m2 l_m
  have k_q := k_q.below b5 k_q.lt
  have k_x := k_x.below b5 k_x.lt
  have k_n := k_n.below b5 k_n.lt
  have k_m := k_m.below b5 k_m.lt
  have bb := bb.trans (b5.mono bb.size)
  have x_q0 : w5.cell? ⟨w.heap.size, 0, none⟩ = some (.int .i64 K) := by rw [k_q.cell]; rfl
  have x_q1 : w5.cell? ⟨w.heap.size, 1, none⟩ = some (.int .i64 N) := by rw [k_q.cell]; rfl
  have x_q2 : w5.cell? ⟨w.heap.size, 2, none⟩ = some (.slice a na ca) := by rw [k_q.cell]; rfl
  have l_q := k_q.lt
  have x_x0 : w5.cell? ⟨w2.heap.size, 0, none⟩ = some (.int .i64 k) := by rw [k_x.cell]; rfl
  have x_x1 : w5.cell? ⟨w2.heap.size, 1, none⟩ = some (.int .i64 n) := by rw [k_x.cell]; rfl
  have x_x2 : w5.cell? ⟨w2.heap.size, 2, none⟩ = some (.string s) := by rw [k_x.cell]; rfl
  have l_x := k_x.lt
  have x_n0 : w5.cell? ⟨w3.heap.size, 0, none⟩ = some (.int .i64 0) := by rw [k_n.cell]; rfl
  have x_n1 : w5.cell? ⟨w3.heap.size, 1, none⟩ = some (.int .i64 0) := by rw [k_n.cell]; rfl
  have x_n2 : w5.cell? ⟨w3.heap.size, 2, none⟩ = some (.string ⟨#[]⟩) := by rw [k_n.cell]; rfl
  have l_n := k_n.lt
  have x_m0 : w5.cell? ⟨w4.heap.size, 0, none⟩ = some (.int .i64 0) := by rw [k_m.cell]; rfl
  have x_m1 : w5.cell? ⟨w4.heap.size, 1, none⟩ = some (.int .i64 0) := by rw [k_m.cell]; rfl
  have x_m2 : w5.cell? ⟨w4.heap.size, 2, none⟩ = some (.string ⟨#[]⟩) := by rw [k_m.cell]; rfl
  have l_m := k_m.lt
  go_wp2_with fail
  refine (HC4.out _ bb).mono ?_
  rintro e w6 ⟨rfl, b6⟩
  clear x_q0 x_q1 x_q2 l_q x_x0 x_x1 x_x2 l_x x_n0 x_n1 x_n2 l_n x_m0 x_m1 x_m2 l_m
  have k_q := k_q.below b6 k_q.lt
  have k_x := k_x.below b6 k_x.lt
  have k_n := k_n.below b6 k_n.lt
  have k_m := k_m.below b6 k_m.lt
  have bb := bb.trans (b6.mono bb.size)
  have x_q0 : w6.cell? ⟨w.heap.size, 0, none⟩ = some (.int .i64 K) := by rw [k_q.cell]; rfl
  have x_q1 : w6.cell? ⟨w.heap.size, 1, none⟩ = some (.int .i64 N) := by rw [k_q.cell]; rfl
  have x_q2 : w6.cell? ⟨w.heap.size, 2, none⟩ = some (.slice a na ca) := by rw [k_q.cell]; rfl
  have l_q := k_q.lt
  have x_x0 : w6.cell? ⟨w2.heap.size, 0, none⟩ = some (.int .i64 k) := by rw [k_x.cell]; rfl
  have x_x1 : w6.cell? ⟨w2.heap.size, 1, none⟩ = some (.int .i64 n) := by rw [k_x.cell]; rfl
  have x_x2 : w6.cell? ⟨w2.heap.size, 2, none⟩ = some (.string s) := by rw [k_x.cell]; rfl
  have l_x := k_x.lt
  have x_n0 : w6.cell? ⟨w3.heap.size, 0, none⟩ = some (.int .i64 0) := by rw [k_n.cell]; rfl
  have x_n1 : w6.cell? ⟨w3.heap.size, 1, none⟩ = some (.int .i64 0) := by rw [k_n.cell]; rfl
  have x_n2 : w6.cell? ⟨w3.heap.size, 2, none⟩ = some (.string ⟨#[]⟩) := by rw [k_n.cell]; rfl
  have l_n := k_n.lt
  have x_m0 : w6.cell? ⟨w4.heap.size, 0, none⟩ = some (.int .i64 0) := by rw [k_m.cell]; rfl
  have x_m1 : w6.cell? ⟨w4.heap.size, 1, none⟩ = some (.int .i64 0) := by rw [k_m.cell]; rfl
  have x_m2 : w6.cell? ⟨w4.heap.size, 2, none⟩ = some (.string ⟨#[]⟩) := by rw [k_m.cell]; rfl
  have l_m := k_m.lt
  go_wp2_with fail
  refine (HC5.out _ bb).mono ?_
  rintro e w7 ⟨rfl, b7⟩
  clear x_q0 x_q1 x_q2 l_q x_x0 x_x1 x_x2 l_x x_n0 x_n1 x_n2 l_n x_m0 x_m1 x_m2 l_m
  have k_q := k_q.below b7 k_q.lt
  have k_x := k_x.below b7 k_x.lt
  have k_n := k_n.below b7 k_n.lt
  have k_m := k_m.below b7 k_m.lt
  have bb := bb.trans (b7.mono bb.size)
  have x_q0 : w7.cell? ⟨w.heap.size, 0, none⟩ = some (.int .i64 K) := by rw [k_q.cell]; rfl
  have x_q1 : w7.cell? ⟨w.heap.size, 1, none⟩ = some (.int .i64 N) := by rw [k_q.cell]; rfl
  have x_q2 : w7.cell? ⟨w.heap.size, 2, none⟩ = some (.slice a na ca) := by rw [k_q.cell]; rfl
  have l_q := k_q.lt
  have x_x0 : w7.cell? ⟨w2.heap.size, 0, none⟩ = some (.int .i64 k) := by rw [k_x.cell]; rfl
  have x_x1 : w7.cell? ⟨w2.heap.size, 1, none⟩ = some (.int .i64 n) := by rw [k_x.cell]; rfl
  have x_x2 : w7.cell? ⟨w2.heap.size, 2, none⟩ = some (.string s) := by rw [k_x.cell]; rfl
  have l_x := k_x.lt
  have x_n0 : w7.cell? ⟨w3.heap.size, 0, none⟩ = some (.int .i64 0) := by rw [k_n.cell]; rfl
  have x_n1 : w7.cell? ⟨w3.heap.size, 1, none⟩ = some (.int .i64 0) := by rw [k_n.cell]; rfl
  have x_n2 : w7.cell? ⟨w3.heap.size, 2, none⟩ = some (.string ⟨#[]⟩) := by rw [k_n.cell]; rfl
  have l_n := k_n.lt
  have x_m0 : w7.cell? ⟨w4.heap.size, 0, none⟩ = some (.int .i64 0) := by rw [k_m.cell]; rfl
  have x_m1 : w7.cell? ⟨w4.heap.size, 1, none⟩ = some (.int .i64 0) := by rw [k_m.cell]; rfl
  have x_m2 : w7.cell? ⟨w4.heap.size, 2, none⟩ = some (.string ⟨#[]⟩) := by rw [k_m.cell]; rfl
  have l_m := k_m.lt
  go_upto_region 11 with fail
  have k_q := k_q.alloc (.cells #[.int .i64 7, .int .i64 0, .string t] 27)
  have k_x := k_x.alloc (.cells #[.int .i64 7, .int .i64 0, .string t] 27)
  have k_n := k_n.alloc (.cells #[.int .i64 7, .int .i64 0, .string t] 27)
  have k_m := k_m.alloc (.cells #[.int .i64 7, .int .i64 0, .string t] 27)
  have k_p := Blk.new w7 27 #[.int .i64 7, .int .i64 0, .string t]
  have bb := bb.alloc bb.size (.cells #[.int .i64 7, .int .i64 0, .string t] 27)
  clear x_q0 x_q1 x_q2 l_q x_x0 x_x1 x_x2 l_x x_n0 x_n1 x_n2 l_n x_m0 x_m1 x_m2 l_m
  generalize w7.alloc (.cells #[.int .i64 7, .int .i64 0, .string t] 27) = V4 at *
  have x_q0 : V4.cell? ⟨w.heap.size, 0, none⟩ = some (.int .i64 K) := by rw [k_q.cell]; rfl
  have x_q1 : V4.cell? ⟨w.heap.size, 1, none⟩ = some (.int .i64 N) := by rw [k_q.cell]; rfl
  have x_q2 : V4.cell? ⟨w.heap.size, 2, none⟩ = some (.slice a na ca) := by rw [k_q.cell]; rfl
  have l_q := k_q.lt
  have x_x0 : V4.cell? ⟨w2.heap.size, 0, none⟩ = some (.int .i64 k) := by rw [k_x.cell]; rfl
  have x_x1 : V4.cell? ⟨w2.heap.size, 1, none⟩ = some (.int .i64 n) := by rw [k_x.cell]; rfl
  have x_x2 : V4.cell? ⟨w2.heap.size, 2, none⟩ = some (.string s) := by rw [k_x.cell]; rfl
  have l_x := k_x.lt
  have x_n0 : V4.cell? ⟨w3.heap.size, 0, none⟩ = some (.int .i64 0) := by rw [k_n.cell]; rfl
  have x_n1 : V4.cell? ⟨w3.heap.size, 1, none⟩ = some (.int .i64 0) := by rw [k_n.cell]; rfl
  have x_n2 : V4.cell? ⟨w3.heap.size, 2, none⟩ = some (.string ⟨#[]⟩) := by rw [k_n.cell]; rfl
  have l_n := k_n.lt
  have x_m0 : V4.cell? ⟨w4.heap.size, 0, none⟩ = some (.int .i64 0) := by rw [k_m.cell]; rfl
  have x_m1 : V4.cell? ⟨w4.heap.size, 1, none⟩ = some (.int .i64 0) := by rw [k_m.cell]; rfl
  have x_m2 : V4.cell? ⟨w4.heap.size, 2, none⟩ = some (.string ⟨#[]⟩) := by rw [k_m.cell]; rfl
  have l_m := k_m.lt
  have x_p0 : V4.cell? ⟨w7.heap.size, 0, none⟩ = some (.int .i64 7) := by rw [k_p.cell]; rfl
  have x_p1 : V4.cell? ⟨w7.heap.size, 1, none⟩ = some (.int .i64 0) := by rw [k_p.cell]; rfl
  have x_p2 : V4.cell? ⟨w7.heap.size, 2, none⟩ = some (.string t) := by rw [k_p.cell]; rfl
  have l_p := k_p.lt
  have Q_q0 := fun d os => cell_regrown x_q0 d os
  have Q_q1 := fun d os => cell_regrown x_q1 d os
  have Q_q2 := fun d os => cell_regrown x_q2 d os
  have Q_x0 := fun d os => cell_regrown x_x0 d os
  have Q_x1 := fun d os => cell_regrown x_x1 d os
  have Q_x2 := fun d os => cell_regrown x_x2 d os
  have Q_n0 := fun d os => cell_regrown x_n0 d os
  have Q_n1 := fun d os => cell_regrown x_n1 d os
  have Q_n2 := fun d os => cell_regrown x_n2 d os
  have Q_m0 := fun d os => cell_regrown x_m0 d os
  have Q_m1 := fun d os => cell_regrown x_m1 d os
  have Q_m2 := fun d os => cell_regrown x_m2 d os
  have Q_p0 := fun d os => cell_regrown x_p0 d os
  have Q_p1 := fun d os => cell_regrown x_p1 d os
  have Q_p2 := fun d os => cell_regrown x_p2 d os
  have up := fun d os => bb.trans ((below_regrown V4 d os).mono bb.size)
  have D1 := fun d os => Calls.regrown_of (HC6.out (grow (redrawn V4 d) os))
  have D2 := fun d os => Calls.regrown_of (HC7.out (grow (redrawn V4 d) os))
  clear x_q0 x_q1 x_q2 x_x0 x_x1 x_x2 x_n0 x_n1 x_n2 x_m0 x_m1 x_m2 x_p0 x_p1 x_p2
  have q1 : (t.toList == t.toList) = true := by simp
  have q4 : (r == r) = true := by simp
  have q5 : (s.toList == s.toList) = true := by simp
  have q6 : (n == n) = true := by simp
  refine wp_region_quiet_below (by kernel_rfl) (by kernel_rfl) ?_
  repeat (first | go_big_quiet_step (first | with_reducible exact D1 _ _ | with_reducible exact D2 _ _) | quiet_step (first | with_reducible exact D1 _ _ | with_reducible exact D2 _ _))
  refine wpQuiet_nil ?_
  intro _ hw'
  obtain ⟨⟨dq, osq⟩, hw''⟩ := hw'
  subst hw''
  have be := up dq osq
  have bq := below_regrown V4 dq osq
  clear D1 D2 up Q_q0 Q_q1 Q_q2 Q_x0 Q_x1 Q_x2 Q_n0 Q_n1 Q_n2 Q_m0 Q_m1 Q_m2 Q_p0 Q_p1 Q_p2
  clear l_q l_x l_n l_m l_p
  have k_q := k_q.below bq k_q.lt
  have k_x := k_x.below bq k_x.lt
  have k_n := k_n.below bq k_n.lt
  have k_m := k_m.below bq k_m.lt
  have k_p := k_p.below bq k_p.lt
  generalize grow (redrawn V4 dq) osq = E at *
  have x_q0 : E.cell? ⟨w.heap.size, 0, none⟩ = some (.int .i64 K) := by rw [k_q.cell]; rfl
  have x_q1 : E.cell? ⟨w.heap.size, 1, none⟩ = some (.int .i64 N) := by rw [k_q.cell]; rfl
  have x_q2 : E.cell? ⟨w.heap.size, 2, none⟩ = some (.slice a na ca) := by rw [k_q.cell]; rfl
  have l_q := k_q.lt
  have x_x0 : E.cell? ⟨w2.heap.size, 0, none⟩ = some (.int .i64 k) := by rw [k_x.cell]; rfl
  have x_x1 : E.cell? ⟨w2.heap.size, 1, none⟩ = some (.int .i64 n) := by rw [k_x.cell]; rfl
  have x_x2 : E.cell? ⟨w2.heap.size, 2, none⟩ = some (.string s) := by rw [k_x.cell]; rfl
  have l_x := k_x.lt
  have x_n0 : E.cell? ⟨w3.heap.size, 0, none⟩ = some (.int .i64 0) := by rw [k_n.cell]; rfl
  have x_n1 : E.cell? ⟨w3.heap.size, 1, none⟩ = some (.int .i64 0) := by rw [k_n.cell]; rfl
  have x_n2 : E.cell? ⟨w3.heap.size, 2, none⟩ = some (.string ⟨#[]⟩) := by rw [k_n.cell]; rfl
  have l_n := k_n.lt
  have x_m0 : E.cell? ⟨w4.heap.size, 0, none⟩ = some (.int .i64 0) := by rw [k_m.cell]; rfl
  have x_m1 : E.cell? ⟨w4.heap.size, 1, none⟩ = some (.int .i64 0) := by rw [k_m.cell]; rfl
  have x_m2 : E.cell? ⟨w4.heap.size, 2, none⟩ = some (.string ⟨#[]⟩) := by rw [k_m.cell]; rfl
  have l_m := k_m.lt
  have x_p0 : E.cell? ⟨w7.heap.size, 0, none⟩ = some (.int .i64 7) := by rw [k_p.cell]; rfl
  have x_p1 : E.cell? ⟨w7.heap.size, 1, none⟩ = some (.int .i64 0) := by rw [k_p.cell]; rfl
  have x_p2 : E.cell? ⟨w7.heap.size, 2, none⟩ = some (.string t) := by rw [k_p.cell]; rfl
  have l_p := k_p.lt
  go_wp2_with fail
  go_ret
  exact ⟨by simp, be⟩
set_option maxHeartbeats 8000000 in
set_option maxRecDepth 100000 in
theorem conv_hard (K N : Int) (a : Option Addr) (na ca : Nat) (k n : Int) (s : ByteArray) (r : Bool) (w : World) (hna : na ≤ 2000) (hk8 : (k == 8) = false)
    (CF : ∀ W, Below w.heap.size w W → Calls Tryd.prog 9 #[] W (Ret (.bool true) W))
    (CV : ∀ W, Below w.heap.size w W → Calls Tryd.prog 10 #[SeedV K N a na ca] W (Ret (VS k n s) W))
    (C1 : ∀ W, Calls Tryd.prog 29 #[VS k n s] W (Ret (.tuple #[VN 0 0, .int .i64 2]) W))
    (C2 : ∀ W, Calls Tryd.prog 30 #[VS k n s] W (Ret (.tuple #[VN 0 0, .int .i64 2]) W))
    (C3 : ∀ W, Below w.heap.size w W → Calls Tryd.prog 14 #[VS k n s] W (Ret (.tuple #[.string ⟨#[]⟩, .int .i64 2]) W))
    (C4 : ∀ W, Below w.heap.size w W → Calls Tryd.prog 31 #[VS k n s] W (Ret (.tuple #[.string ⟨#[]⟩, .int .i64 2]) W))
    (C5 : ∀ W, Below w.heap.size w W → Calls Tryd.prog 32 #[VS k n s] W (Ret (.tuple #[VS 7 0 ⟨#[]⟩, .int .i64 2]) W))
    (C6 : ∀ W, Calls Tryd.prog 12 #[VS k n s] W (Ret (.bool r) W))
    (C7 : ∀ W, Calls Tryd.prog 33 #[VS k n s] W (Ret (.bool r) W)) :
    Calls Tryd.prog 8 #[SeedV K N a na ca] w fun e w' => e = .returned (.bool true) ∧ Below w.heap.size w w' := by
  have HCF := Lib.hid CF
  have HCV := Lib.hid CV
  have HC1 := Lib.hid C1
  have HC2 := Lib.hid C2
  have HC3 := Lib.hid C3
  have HC4 := Lib.hid C4
  have HC5 := Lib.hid C5
  have HC6 := Lib.hid C6
  have HC7 := Lib.hid C7
  clear CF CV C1 C2 C3 C4 C5 C6 C7
  have s1 : decide ((2000 : Int) < (na : Int)) = false := by simp; omega
  go_enter Tryd.func8, Tryd.ntmps8
  go_wp2_with fail
  have k_q := Blk.new w 24 #[.int .i64 K, .int .i64 N, .slice a na ca]
  have bb : Below w.heap.size w _ := ((Below.refl _ _).alloc (Nat.le_refl _) (.cells #[.int .i64 K, .int .i64 N, .slice a na ca] 24))
  generalize (w.alloc (.cells #[.int .i64 K, .int .i64 N, .slice a na ca] 24)) = W0 at *
  refine (HCF.out _ bb).mono ?_
  rintro e w1 ⟨rfl, b1⟩
  have k_q := k_q.below b1 k_q.lt
  have bb := bb.trans (b1.mono bb.size)
  have x_q0 : w1.cell? ⟨w.heap.size, 0, none⟩ = some (.int .i64 K) := by rw [k_q.cell]; rfl
  have x_q1 : w1.cell? ⟨w.heap.size, 1, none⟩ = some (.int .i64 N) := by rw [k_q.cell]; rfl
  have x_q2 : w1.cell? ⟨w.heap.size, 2, none⟩ = some (.slice a na ca) := by rw [k_q.cell]; rfl
  have l_q := k_q.lt
  go_wp2_with fail
  refine (HCV.out _ bb).mono ?_
  rintro e w2 ⟨rfl, b2⟩
  clear x_q0 x_q1 x_q2 l_q
  have k_q := k_q.below b2 k_q.lt
  have bb := bb.trans (b2.mono bb.size)
  have x_q0 : w2.cell? ⟨w.heap.size, 0, none⟩ = some (.int .i64 K) := by rw [k_q.cell]; rfl
  have x_q1 : w2.cell? ⟨w.heap.size, 1, none⟩ = some (.int .i64 N) := by rw [k_q.cell]; rfl
  have x_q2 : w2.cell? ⟨w.heap.size, 2, none⟩ = some (.slice a na ca) := by rw [k_q.cell]; rfl
  have l_q := k_q.lt
  go_wp2_with fail
  have k_q := k_q.alloc (.cells #[.int .i64 k, .int .i64 n, .string s] 27)
  have k_x := Blk.new w2 27 #[.int .i64 k, .int .i64 n, .string s]
  have bb := bb.alloc bb.size (.cells #[.int .i64 k, .int .i64 n, .string s] 27)
  clear x_q0 x_q1 x_q2 l_q
  generalize w2.alloc (.cells #[.int .i64 k, .int .i64 n, .string s] 27) = V1 at *
  have x_q0 : V1.cell? ⟨w.heap.size, 0, none⟩ = some (.int .i64 K) := by rw [k_q.cell]; rfl
  have x_q1 : V1.cell? ⟨w.heap.size, 1, none⟩ = some (.int .i64 N) := by rw [k_q.cell]; rfl
  have x_q2 : V1.cell? ⟨w.heap.size, 2, none⟩ = some (.slice a na ca) := by rw [k_q.cell]; rfl
  have l_q := k_q.lt
  have x_x0 : V1.cell? ⟨w2.heap.size, 0, none⟩ = some (.int .i64 k) := by rw [k_x.cell]; rfl
  have x_x1 : V1.cell? ⟨w2.heap.size, 1, none⟩ = some (.int .i64 n) := by rw [k_x.cell]; rfl
  have x_x2 : V1.cell? ⟨w2.heap.size, 2, none⟩ = some (.string s) := by rw [k_x.cell]; rfl
  have l_x := k_x.lt
  refine (HC1.out _).mono ?_
  rintro e w3 ⟨rfl, b3⟩
  clear x_q0 x_q1 x_q2 l_q x_x0 x_x1 x_x2 l_x
  have k_q := k_q.below b3 k_q.lt
  have k_x := k_x.below b3 k_x.lt
  have bb := bb.trans (b3.mono bb.size)
  have x_q0 : w3.cell? ⟨w.heap.size, 0, none⟩ = some (.int .i64 K) := by rw [k_q.cell]; rfl
  have x_q1 : w3.cell? ⟨w.heap.size, 1, none⟩ = some (.int .i64 N) := by rw [k_q.cell]; rfl
  have x_q2 : w3.cell? ⟨w.heap.size, 2, none⟩ = some (.slice a na ca) := by rw [k_q.cell]; rfl
  have l_q := k_q.lt
  have x_x0 : w3.cell? ⟨w2.heap.size, 0, none⟩ = some (.int .i64 k) := by rw [k_x.cell]; rfl
  have x_x1 : w3.cell? ⟨w2.heap.size, 1, none⟩ = some (.int .i64 n) := by rw [k_x.cell]; rfl
  have x_x2 : w3.cell? ⟨w2.heap.size, 2, none⟩ = some (.string s) := by rw [k_x.cell]; rfl
  have l_x := k_x.lt
  go_wp2_with fail
  have k_q := k_q.alloc (.cells #[.int .i64 0, .int .i64 0, .string ⟨#[]⟩] 27)
  have k_x := k_x.alloc (.cells #[.int .i64 0, .int .i64 0, .string ⟨#[]⟩] 27)
  have k_n := Blk.new w3 27 #[.int .i64 0, .int .i64 0, .string ⟨#[]⟩]
  have bb := bb.alloc bb.size (.cells #[.int .i64 0, .int .i64 0, .string ⟨#[]⟩] 27)
  clear x_q0 x_q1 x_q2 l_q x_x0 x_x1 x_x2 l_x
  generalize w3.alloc (.cells #[.int .i64 0, .int .i64 0, .string ⟨#[]⟩] 27) = V2 at *
  have x_q0 : V2.cell? ⟨w.heap.size, 0, none⟩ = some (.int .i64 K) := by rw [k_q.cell]; rfl
  have x_q1 : V2.cell? ⟨w.heap.size, 1, none⟩ = some (.int .i64 N) := by rw [k_q.cell]; rfl
  have x_q2 : V2.cell? ⟨w.heap.size, 2, none⟩ = some (.slice a na ca) := by rw [k_q.cell]; rfl
  have l_q := k_q.lt
  have x_x0 : V2.cell? ⟨w2.heap.size, 0, none⟩ = some (.int .i64 k) := by rw [k_x.cell]; rfl
  have x_x1 : V2.cell? ⟨w2.heap.size, 1, none⟩ = some (.int .i64 n) := by rw [k_x.cell]; rfl
  have x_x2 : V2.cell? ⟨w2.heap.size, 2, none⟩ = some (.string s) := by rw [k_x.cell]; rfl
  have l_x := k_x.lt
  have x_n0 : V2.cell? ⟨w3.heap.size, 0, none⟩ = some (.int .i64 0) := by rw [k_n.cell]; rfl
  have x_n1 : V2.cell? ⟨w3.heap.size, 1, none⟩ = some (.int .i64 0) := by rw [k_n.cell]; rfl
  have x_n2 : V2.cell? ⟨w3.heap.size, 2, none⟩ = some (.string ⟨#[]⟩) := by rw [k_n.cell]; rfl
  have l_n := k_n.lt
  refine (HC2.out _).mono ?_
  rintro e w4 ⟨rfl, b4⟩
  clear x_q0 x_q1 x_q2 l_q x_x0 x_x1 x_x2 l_x x_n0 x_n1 x_n2 l_n
  have k_q := k_q.below b4 k_q.lt
  have k_x := k_x.below b4 k_x.lt
  have k_n := k_n.below b4 k_n.lt
  have bb := bb.trans (b4.mono bb.size)
  have x_q0 : w4.cell? ⟨w.heap.size, 0, none⟩ = some (.int .i64 K) := by rw [k_q.cell]; rfl
  have x_q1 : w4.cell? ⟨w.heap.size, 1, none⟩ = some (.int .i64 N) := by rw [k_q.cell]; rfl
  have x_q2 : w4.cell? ⟨w.heap.size, 2, none⟩ = some (.slice a na ca) := by rw [k_q.cell]; rfl
  have l_q := k_q.lt
  have x_x0 : w4.cell? ⟨w2.heap.size, 0, none⟩ = some (.int .i64 k) := by rw [k_x.cell]; rfl
  have x_x1 : w4.cell? ⟨w2.heap.size, 1, none⟩ = some (.int .i64 n) := by rw [k_x.cell]; rfl
  have x_x2 : w4.cell? ⟨w2.heap.size, 2, none⟩ = some (.string s) := by rw [k_x.cell]; rfl
  have l_x := k_x.lt
  have x_n0 : w4.cell? ⟨w3.heap.size, 0, none⟩ = some (.int .i64 0) := by rw [k_n.cell]; rfl
  have x_n1 : w4.cell? ⟨w3.heap.size, 1, none⟩ = some (.int .i64 0) := by rw [k_n.cell]; rfl
  have x_n2 : w4.cell? ⟨w3.heap.size, 2, none⟩ = some (.string ⟨#[]⟩) := by rw [k_n.cell]; rfl
  have l_n := k_n.lt
  go_wp2_with fail
  have k_q := k_q.alloc (.cells #[.int .i64 0, .int .i64 0, .string ⟨#[]⟩] 27)
  have k_x := k_x.alloc (.cells #[.int .i64 0, .int .i64 0, .string ⟨#[]⟩] 27)
  have k_n := k_n.alloc (.cells #[.int .i64 0, .int .i64 0, .string ⟨#[]⟩] 27)
  have k_m := Blk.new w4 27 #[.int .i64 0, .int .i64 0, .string ⟨#[]⟩]
  have bb := bb.alloc bb.size (.cells #[.int .i64 0, .int .i64 0, .string ⟨#[]⟩] 27)
  clear x_q0 x_q1 x_q2 l_q x_x0 x_x1 x_x2 l_x x_n0 x_n1 x_n2 l_n
  generalize w4.alloc (.cells #[.int .i64 0, .int .i64 0, .string ⟨#[]⟩] 27) = V3 at *
  have x_q0 : V3.cell? ⟨w.heap.size, 0, none⟩ = some (.int .i64 K) := by rw [k_q.cell]; rfl
  have x_q1 : V3.cell? ⟨w.heap.size, 1, none⟩ = some (.int .i64 N) := by rw [k_q.cell]; rfl
  have x_q2 : V3.cell? ⟨w.heap.size, 2, none⟩ = some (.slice a na ca) := by rw [k_q.cell]; rfl
  have l_q := k_q.lt
  have x_x0 : V3.cell? ⟨w2.heap.size, 0, none⟩ = some (.int .i64 k) := by rw [k_x.cell]; rfl
  have x_x1 : V3.cell? ⟨w2.heap.size, 1, none⟩ = some (.int .i64 n) := by rw [k_x.cell]; rfl
  have x_x2 : V3.cell? ⟨w2.heap.size, 2, none⟩ = some (.string s) := by rw [k_x.cell]; rfl
  have l_x := k_x.lt
  have x_n0 : V3.cell? ⟨w3.heap.size, 0, none⟩ = some (.int .i64 0) := by rw [k_n.cell]; rfl
  have x_n1 : V3.cell? ⟨w3.heap.size, 1, none⟩ = some (.int .i64 0) := by rw [k_n.cell]; rfl
  have x_n2 : V3.cell? ⟨w3.heap.size, 2, none⟩ = some (.string ⟨#[]⟩) := by rw [k_n.cell]; rfl
  have l_n := k_n.lt
  have x_m0 : V3.cell? ⟨w4.heap.size, 0, none⟩ = some (.int .i64 0) := by rw [k_m.cell]; rfl
  have x_m1 : V3.cell? ⟨w4.heap.size, 1, none⟩ = some (.int .i64 0) := by rw [k_m.cell]; rfl
  have x_m2 : V3.cell? ⟨w4.heap.size, 2, none⟩ = some (.string ⟨#[]⟩) := by rw [k_m.cell]; rfl
  have l_m := k_m.lt
  refine (HC3.out _ bb).mono ?_
  rintro e w5 ⟨rfl, b5⟩
  clear x_q0 x_q1 x_q2 l_q x_x0 x_x1 x_x2 l_x x_n0 x_n1 x_n2 l_n x_m0 x_m1 x_m2 l_m
  have k_q := k_q.below b5 k_q.lt
  have k_x := k_x.below b5 k_x.lt
  have k_n := k_n.below b5 k_n.lt
  have k_m := k_m.below b5 k_m.lt
  have bb := bb.trans (b5.mono bb.size)
  have x_q0 : w5.cell? ⟨w.heap.size, 0, none⟩ = some (.int .i64 K) := by rw [k_q.cell]; rfl
  have x_q1 : w5.cell? ⟨w.heap.size, 1, none⟩ = some (.int .i64 N) := by rw [k_q.cell]; rfl
  have x_q2 : w5.cell? ⟨w.heap.size, 2, none⟩ = some (.slice a na ca) := by rw [k_q.cell]; rfl
  have l_q := k_q.lt
  have x_x0 : w5.cell? ⟨w2.heap.size, 0, none⟩ = some (.int .i64 k) := by rw [k_x.cell]; rfl
  have x_x1 : w5.cell? ⟨w2.heap.size, 1, none⟩ = some (.int .i64 n) := by rw [k_x.cell]; rfl
  have x_x2 : w5.cell? ⟨w2.heap.size, 2, none⟩ = some (.string s) := by rw [k_x.cell]; rfl
  have l_x := k_x.lt
  have x_n0 : w5.cell? ⟨w3.heap.size, 0, none⟩ = some (.int .i64 0) := by rw [k_n.cell]; rfl
  have x_n1 : w5.cell? ⟨w3.heap.size, 1, none⟩ = some (.int .i64 0) := by rw [k_n.cell]; rfl
  have x_n2 : w5.cell? ⟨w3.heap.size, 2, none⟩ = some (.string ⟨#[]⟩) := by rw [k_n.cell]; rfl
  have l_n := k_n.lt
  have x_m0 : w5.cell? ⟨w4.heap.size, 0, none⟩ = some (.int .i64 0) := by rw [k_m.cell]; rfl
  have x_m1 : w5.cell? ⟨w4.heap.size, 1, none⟩ = some (.int .i64 0) := by rw [k_m.cell]; rfl
  have x_m2 : w5.cell? ⟨w4.heap.size, 2, none⟩ = some (.string ⟨#[]⟩) := by rw [k_m.cell]; rfl
  have l_m := k_m.lt
  go_wp2_with fail
  refine (HC4.out _ bb).mono ?_
  rintro e w6 ⟨rfl, b6⟩
  clear x_q0 x_q1 x_q2 l_q x_x0 x_x1 x_x2 l_x x_n0 x_n1 x_n2 l_n x_m0 x_m1 x_m2 l_m
  have k_q := k_q.below b6 k_q.lt
  have k_x := k_x.below b6 k_x.lt
  have k_n := k_n.below b6 k_n.lt
  have k_m := k_m.below b6 k_m.lt
  have bb := bb.trans (b6.mono bb.size)
  have x_q0 : w6.cell? ⟨w.heap.size, 0, none⟩ = some (.int .i64 K) := by rw [k_q.cell]; rfl
  have x_q1 : w6.cell? ⟨w.heap.size, 1, none⟩ = some (.int .i64 N) := by rw [k_q.cell]; rfl
  have x_q2 : w6.cell? ⟨w.heap.size, 2, none⟩ = some (.slice a na ca) := by rw [k_q.cell]; rfl
  have l_q := k_q.lt
  have x_x0 : w6.cell? ⟨w2.heap.size, 0, none⟩ = some (.int .i64 k) := by rw [k_x.cell]; rfl
  have x_x1 : w6.cell? ⟨w2.heap.size, 1, none⟩ = some (.int .i64 n) := by rw [k_x.cell]; rfl
  have x_x2 : w6.cell? ⟨w2.heap.size, 2, none⟩ = some (.string s) := by rw [k_x.cell]; rfl
  have l_x := k_x.lt
  have x_n0 : w6.cell? ⟨w3.heap.size, 0, none⟩ = some (.int .i64 0) := by rw [k_n.cell]; rfl
  have x_n1 : w6.cell? ⟨w3.heap.size, 1, none⟩ = some (.int .i64 0) := by rw [k_n.cell]; rfl
  have x_n2 : w6.cell? ⟨w3.heap.size, 2, none⟩ = some (.string ⟨#[]⟩) := by rw [k_n.cell]; rfl
  have l_n := k_n.lt
  have x_m0 : w6.cell? ⟨w4.heap.size, 0, none⟩ = some (.int .i64 0) := by rw [k_m.cell]; rfl
  have x_m1 : w6.cell? ⟨w4.heap.size, 1, none⟩ = some (.int .i64 0) := by rw [k_m.cell]; rfl
  have x_m2 : w6.cell? ⟨w4.heap.size, 2, none⟩ = some (.string ⟨#[]⟩) := by rw [k_m.cell]; rfl
  have l_m := k_m.lt
  go_wp2_with fail
  refine (HC5.out _ bb).mono ?_
  rintro e w7 ⟨rfl, b7⟩
  clear x_q0 x_q1 x_q2 l_q x_x0 x_x1 x_x2 l_x x_n0 x_n1 x_n2 l_n x_m0 x_m1 x_m2 l_m
  have k_q := k_q.below b7 k_q.lt
  have k_x := k_x.below b7 k_x.lt
  have k_n := k_n.below b7 k_n.lt
  have k_m := k_m.below b7 k_m.lt
  have bb := bb.trans (b7.mono bb.size)
  have x_q0 : w7.cell? ⟨w.heap.size, 0, none⟩ = some (.int .i64 K) := by rw [k_q.cell]; rfl
  have x_q1 : w7.cell? ⟨w.heap.size, 1, none⟩ = some (.int .i64 N) := by rw [k_q.cell]; rfl
  have x_q2 : w7.cell? ⟨w.heap.size, 2, none⟩ = some (.slice a na ca) := by rw [k_q.cell]; rfl
  have l_q := k_q.lt
  have x_x0 : w7.cell? ⟨w2.heap.size, 0, none⟩ = some (.int .i64 k) := by rw [k_x.cell]; rfl
  have x_x1 : w7.cell? ⟨w2.heap.size, 1, none⟩ = some (.int .i64 n) := by rw [k_x.cell]; rfl
  have x_x2 : w7.cell? ⟨w2.heap.size, 2, none⟩ = some (.string s) := by rw [k_x.cell]; rfl
  have l_x := k_x.lt
  have x_n0 : w7.cell? ⟨w3.heap.size, 0, none⟩ = some (.int .i64 0) := by rw [k_n.cell]; rfl
  have x_n1 : w7.cell? ⟨w3.heap.size, 1, none⟩ = some (.int .i64 0) := by rw [k_n.cell]; rfl
  have x_n2 : w7.cell? ⟨w3.heap.size, 2, none⟩ = some (.string ⟨#[]⟩) := by rw [k_n.cell]; rfl
  have l_n := k_n.lt
  have x_m0 : w7.cell? ⟨w4.heap.size, 0, none⟩ = some (.int .i64 0) := by rw [k_m.cell]; rfl
  have x_m1 : w7.cell? ⟨w4.heap.size, 1, none⟩ = some (.int .i64 0) := by rw [k_m.cell]; rfl
  have x_m2 : w7.cell? ⟨w4.heap.size, 2, none⟩ = some (.string ⟨#[]⟩) := by rw [k_m.cell]; rfl
  have l_m := k_m.lt
  go_upto_region 11 with fail
  have k_q := k_q.alloc (.cells #[.int .i64 7, .int .i64 0, .string ⟨#[]⟩] 27)
  have k_x := k_x.alloc (.cells #[.int .i64 7, .int .i64 0, .string ⟨#[]⟩] 27)
  have k_n := k_n.alloc (.cells #[.int .i64 7, .int .i64 0, .string ⟨#[]⟩] 27)
  have k_m := k_m.alloc (.cells #[.int .i64 7, .int .i64 0, .string ⟨#[]⟩] 27)
  have k_p := Blk.new w7 27 #[.int .i64 7, .int .i64 0, .string ⟨#[]⟩]
  have bb := bb.alloc bb.size (.cells #[.int .i64 7, .int .i64 0, .string ⟨#[]⟩] 27)
  clear x_q0 x_q1 x_q2 l_q x_x0 x_x1 x_x2 l_x x_n0 x_n1 x_n2 l_n x_m0 x_m1 x_m2 l_m
  generalize w7.alloc (.cells #[.int .i64 7, .int .i64 0, .string ⟨#[]⟩] 27) = V4 at *
  have x_q0 : V4.cell? ⟨w.heap.size, 0, none⟩ = some (.int .i64 K) := by rw [k_q.cell]; rfl
  have x_q1 : V4.cell? ⟨w.heap.size, 1, none⟩ = some (.int .i64 N) := by rw [k_q.cell]; rfl
  have x_q2 : V4.cell? ⟨w.heap.size, 2, none⟩ = some (.slice a na ca) := by rw [k_q.cell]; rfl
  have l_q := k_q.lt
  have x_x0 : V4.cell? ⟨w2.heap.size, 0, none⟩ = some (.int .i64 k) := by rw [k_x.cell]; rfl
  have x_x1 : V4.cell? ⟨w2.heap.size, 1, none⟩ = some (.int .i64 n) := by rw [k_x.cell]; rfl
  have x_x2 : V4.cell? ⟨w2.heap.size, 2, none⟩ = some (.string s) := by rw [k_x.cell]; rfl
  have l_x := k_x.lt
  have x_n0 : V4.cell? ⟨w3.heap.size, 0, none⟩ = some (.int .i64 0) := by rw [k_n.cell]; rfl
  have x_n1 : V4.cell? ⟨w3.heap.size, 1, none⟩ = some (.int .i64 0) := by rw [k_n.cell]; rfl
  have x_n2 : V4.cell? ⟨w3.heap.size, 2, none⟩ = some (.string ⟨#[]⟩) := by rw [k_n.cell]; rfl
  have l_n := k_n.lt
  have x_m0 : V4.cell? ⟨w4.heap.size, 0, none⟩ = some (.int .i64 0) := by rw [k_m.cell]; rfl
  have x_m1 : V4.cell? ⟨w4.heap.size, 1, none⟩ = some (.int .i64 0) := by rw [k_m.cell]; rfl
  have x_m2 : V4.cell? ⟨w4.heap.size, 2, none⟩ = some (.string ⟨#[]⟩) := by rw [k_m.cell]; rfl
  have l_m := k_m.lt
  have x_p0 : V4.cell? ⟨w7.heap.size, 0, none⟩ = some (.int .i64 7) := by rw [k_p.cell]; rfl
  have x_p1 : V4.cell? ⟨w7.heap.size, 1, none⟩ = some (.int .i64 0) := by rw [k_p.cell]; rfl
  have x_p2 : V4.cell? ⟨w7.heap.size, 2, none⟩ = some (.string ⟨#[]⟩) := by rw [k_p.cell]; rfl
  have l_p := k_p.lt
  have Q_q0 := fun d os => cell_regrown x_q0 d os
  have Q_q1 := fun d os => cell_regrown x_q1 d os
  have Q_q2 := fun d os => cell_regrown x_q2 d os
  have Q_x0 := fun d os => cell_regrown x_x0 d os
  have Q_x1 := fun d os => cell_regrown x_x1 d os
  have Q_x2 := fun d os => cell_regrown x_x2 d os
  have Q_n0 := fun d os => cell_regrown x_n0 d os
  have Q_n1 := fun d os => cell_regrown x_n1 d os
  have Q_n2 := fun d os => cell_regrown x_n2 d os
  have Q_m0 := fun d os => cell_regrown x_m0 d os
  have Q_m1 := fun d os => cell_regrown x_m1 d os
  have Q_m2 := fun d os => cell_regrown x_m2 d os
  have Q_p0 := fun d os => cell_regrown x_p0 d os
  have Q_p1 := fun d os => cell_regrown x_p1 d os
  have Q_p2 := fun d os => cell_regrown x_p2 d os
  have up := fun d os => bb.trans ((below_regrown V4 d os).mono bb.size)
  have D1 := fun d os => Calls.regrown_of (HC6.out (grow (redrawn V4 d) os))
  have D2 := fun d os => Calls.regrown_of (HC7.out (grow (redrawn V4 d) os))
  clear x_q0 x_q1 x_q2 x_x0 x_x1 x_x2 x_n0 x_n1 x_n2 x_m0 x_m1 x_m2 x_p0 x_p1 x_p2
  have q4 : (r == r) = true := by simp
  have q5 : (s.toList == s.toList) = true := by simp
  have q6 : (n == n) = true := by simp
  refine wp_region_quiet_below (by kernel_rfl) (by kernel_rfl) ?_
  repeat (first | go_big_quiet_step (first | with_reducible exact D1 _ _ | with_reducible exact D2 _ _) | quiet_step (first | with_reducible exact D1 _ _ | with_reducible exact D2 _ _))
  refine wpQuiet_nil ?_
  intro _ hw'
  obtain ⟨⟨dq, osq⟩, hw''⟩ := hw'
  subst hw''
  have be := up dq osq
  have bq := below_regrown V4 dq osq
  clear D1 D2 up Q_q0 Q_q1 Q_q2 Q_x0 Q_x1 Q_x2 Q_n0 Q_n1 Q_n2 Q_m0 Q_m1 Q_m2 Q_p0 Q_p1 Q_p2
  clear l_q l_x l_n l_m l_p
  have k_q := k_q.below bq k_q.lt
  have k_x := k_x.below bq k_x.lt
  have k_n := k_n.below bq k_n.lt
  have k_m := k_m.below bq k_m.lt
  have k_p := k_p.below bq k_p.lt
  generalize grow (redrawn V4 dq) osq = E at *
  have x_q0 : E.cell? ⟨w.heap.size, 0, none⟩ = some (.int .i64 K) := by rw [k_q.cell]; rfl
  have x_q1 : E.cell? ⟨w.heap.size, 1, none⟩ = some (.int .i64 N) := by rw [k_q.cell]; rfl
  have x_q2 : E.cell? ⟨w.heap.size, 2, none⟩ = some (.slice a na ca) := by rw [k_q.cell]; rfl
  have l_q := k_q.lt
  have x_x0 : E.cell? ⟨w2.heap.size, 0, none⟩ = some (.int .i64 k) := by rw [k_x.cell]; rfl
  have x_x1 : E.cell? ⟨w2.heap.size, 1, none⟩ = some (.int .i64 n) := by rw [k_x.cell]; rfl
  have x_x2 : E.cell? ⟨w2.heap.size, 2, none⟩ = some (.string s) := by rw [k_x.cell]; rfl
  have l_x := k_x.lt
  have x_n0 : E.cell? ⟨w3.heap.size, 0, none⟩ = some (.int .i64 0) := by rw [k_n.cell]; rfl
  have x_n1 : E.cell? ⟨w3.heap.size, 1, none⟩ = some (.int .i64 0) := by rw [k_n.cell]; rfl
  have x_n2 : E.cell? ⟨w3.heap.size, 2, none⟩ = some (.string ⟨#[]⟩) := by rw [k_n.cell]; rfl
  have l_n := k_n.lt
  have x_m0 : E.cell? ⟨w4.heap.size, 0, none⟩ = some (.int .i64 0) := by rw [k_m.cell]; rfl
  have x_m1 : E.cell? ⟨w4.heap.size, 1, none⟩ = some (.int .i64 0) := by rw [k_m.cell]; rfl
  have x_m2 : E.cell? ⟨w4.heap.size, 2, none⟩ = some (.string ⟨#[]⟩) := by rw [k_m.cell]; rfl
  have l_m := k_m.lt
  have x_p0 : E.cell? ⟨w7.heap.size, 0, none⟩ = some (.int .i64 7) := by rw [k_p.cell]; rfl
  have x_p1 : E.cell? ⟨w7.heap.size, 1, none⟩ = some (.int .i64 0) := by rw [k_p.cell]; rfl
  have x_p2 : E.cell? ⟨w7.heap.size, 2, none⟩ = some (.string ⟨#[]⟩) := by rw [k_p.cell]; rfl
  have l_p := k_p.lt
  go_wp2_with fail
  go_ret
  exact ⟨by simp, be⟩
set_option maxHeartbeats 8000000 in
set_option maxRecDepth 100000 in
theorem conv_sym (K N : Int) (a : Option Addr) (na ca : Nat) (n : Int) (s : ByteArray) (r : Bool) (w : World) (hna : na ≤ 2000)
    (CF : ∀ W, Below w.heap.size w W → Calls Tryd.prog 9 #[] W (Ret (.bool true) W))
    (CV : ∀ W, Below w.heap.size w W → Calls Tryd.prog 10 #[SeedV K N a na ca] W (Ret (VS 8 n s) W))
    (C1 : ∀ W, Calls Tryd.prog 29 #[VS 8 n s] W (Ret (.tuple #[VN 0 0, .int .i64 1]) W))
    (C2 : ∀ W, Calls Tryd.prog 30 #[VS 8 n s] W (Ret (.tuple #[VN 0 0, .int .i64 1]) W))
    (C3 : ∀ W, Below w.heap.size w W → Calls Tryd.prog 14 #[VS 8 n s] W (Ret (.tuple #[.string ⟨#[]⟩, .int .i64 1]) W))
    (C4 : ∀ W, Below w.heap.size w W → Calls Tryd.prog 31 #[VS 8 n s] W (Ret (.tuple #[.string ⟨#[]⟩, .int .i64 1]) W))
    (C5 : ∀ W, Below w.heap.size w W → Calls Tryd.prog 32 #[VS 8 n s] W (Ret (.tuple #[VS 8 n s, .int .i64 0]) W))
    (C6 : ∀ W, Calls Tryd.prog 12 #[VS 8 n s] W (Ret (.bool r) W))
    (C7 : ∀ W, Calls Tryd.prog 33 #[VS 8 n s] W (Ret (.bool r) W)) :
    Calls Tryd.prog 8 #[SeedV K N a na ca] w fun e w' => e = .returned (.bool true) ∧ Below w.heap.size w w' := by
  have HCF := Lib.hid CF
  have HCV := Lib.hid CV
  have HC1 := Lib.hid C1
  have HC2 := Lib.hid C2
  have HC3 := Lib.hid C3
  have HC4 := Lib.hid C4
  have HC5 := Lib.hid C5
  have HC6 := Lib.hid C6
  have HC7 := Lib.hid C7
  clear CF CV C1 C2 C3 C4 C5 C6 C7
  have s1 : decide ((2000 : Int) < (na : Int)) = false := by simp; omega
  go_enter Tryd.func8, Tryd.ntmps8
  go_wp2_with fail
  have k_q := Blk.new w 24 #[.int .i64 K, .int .i64 N, .slice a na ca]
  have bb : Below w.heap.size w _ := ((Below.refl _ _).alloc (Nat.le_refl _) (.cells #[.int .i64 K, .int .i64 N, .slice a na ca] 24))
  generalize (w.alloc (.cells #[.int .i64 K, .int .i64 N, .slice a na ca] 24)) = W0 at *
  refine (HCF.out _ bb).mono ?_
  rintro e w1 ⟨rfl, b1⟩
  have k_q := k_q.below b1 k_q.lt
  have bb := bb.trans (b1.mono bb.size)
  have x_q0 : w1.cell? ⟨w.heap.size, 0, none⟩ = some (.int .i64 K) := by rw [k_q.cell]; rfl
  have x_q1 : w1.cell? ⟨w.heap.size, 1, none⟩ = some (.int .i64 N) := by rw [k_q.cell]; rfl
  have x_q2 : w1.cell? ⟨w.heap.size, 2, none⟩ = some (.slice a na ca) := by rw [k_q.cell]; rfl
  have l_q := k_q.lt
  go_wp2_with fail
  refine (HCV.out _ bb).mono ?_
  rintro e w2 ⟨rfl, b2⟩
  clear x_q0 x_q1 x_q2 l_q
  have k_q := k_q.below b2 k_q.lt
  have bb := bb.trans (b2.mono bb.size)
  have x_q0 : w2.cell? ⟨w.heap.size, 0, none⟩ = some (.int .i64 K) := by rw [k_q.cell]; rfl
  have x_q1 : w2.cell? ⟨w.heap.size, 1, none⟩ = some (.int .i64 N) := by rw [k_q.cell]; rfl
  have x_q2 : w2.cell? ⟨w.heap.size, 2, none⟩ = some (.slice a na ca) := by rw [k_q.cell]; rfl
  have l_q := k_q.lt
  go_wp2_with fail
  have k_q := k_q.alloc (.cells #[.int .i64 8, .int .i64 n, .string s] 27)
  have k_x := Blk.new w2 27 #[.int .i64 8, .int .i64 n, .string s]
  have bb := bb.alloc bb.size (.cells #[.int .i64 8, .int .i64 n, .string s] 27)
  clear x_q0 x_q1 x_q2 l_q
  generalize w2.alloc (.cells #[.int .i64 8, .int .i64 n, .string s] 27) = V1 at *
  have x_q0 : V1.cell? ⟨w.heap.size, 0, none⟩ = some (.int .i64 K) := by rw [k_q.cell]; rfl
  have x_q1 : V1.cell? ⟨w.heap.size, 1, none⟩ = some (.int .i64 N) := by rw [k_q.cell]; rfl
  have x_q2 : V1.cell? ⟨w.heap.size, 2, none⟩ = some (.slice a na ca) := by rw [k_q.cell]; rfl
  have l_q := k_q.lt
  have x_x0 : V1.cell? ⟨w2.heap.size, 0, none⟩ = some (.int .i64 8) := by rw [k_x.cell]; rfl
  have x_x1 : V1.cell? ⟨w2.heap.size, 1, none⟩ = some (.int .i64 n) := by rw [k_x.cell]; rfl
  have x_x2 : V1.cell? ⟨w2.heap.size, 2, none⟩ = some (.string s) := by rw [k_x.cell]; rfl
  have l_x := k_x.lt
  refine (HC1.out _).mono ?_
  rintro e w3 ⟨rfl, b3⟩
  clear x_q0 x_q1 x_q2 l_q x_x0 x_x1 x_x2 l_x
  have k_q := k_q.below b3 k_q.lt
  have k_x := k_x.below b3 k_x.lt
  have bb := bb.trans (b3.mono bb.size)
  have x_q0 : w3.cell? ⟨w.heap.size, 0, none⟩ = some (.int .i64 K) := by rw [k_q.cell]; rfl
  have x_q1 : w3.cell? ⟨w.heap.size, 1, none⟩ = some (.int .i64 N) := by rw [k_q.cell]; rfl
  have x_q2 : w3.cell? ⟨w.heap.size, 2, none⟩ = some (.slice a na ca) := by rw [k_q.cell]; rfl
  have l_q := k_q.lt
  have x_x0 : w3.cell? ⟨w2.heap.size, 0, none⟩ = some (.int .i64 8) := by rw [k_x.cell]; rfl
  have x_x1 : w3.cell? ⟨w2.heap.size, 1, none⟩ = some (.int .i64 n) := by rw [k_x.cell]; rfl
  have x_x2 : w3.cell? ⟨w2.heap.size, 2, none⟩ = some (.string s) := by rw [k_x.cell]; rfl
  have l_x := k_x.lt
  go_wp2_with fail
  have k_q := k_q.alloc (.cells #[.int .i64 0, .int .i64 0, .string ⟨#[]⟩] 27)
  have k_x := k_x.alloc (.cells #[.int .i64 0, .int .i64 0, .string ⟨#[]⟩] 27)
  have k_n := Blk.new w3 27 #[.int .i64 0, .int .i64 0, .string ⟨#[]⟩]
  have bb := bb.alloc bb.size (.cells #[.int .i64 0, .int .i64 0, .string ⟨#[]⟩] 27)
  clear x_q0 x_q1 x_q2 l_q x_x0 x_x1 x_x2 l_x
  generalize w3.alloc (.cells #[.int .i64 0, .int .i64 0, .string ⟨#[]⟩] 27) = V2 at *
  have x_q0 : V2.cell? ⟨w.heap.size, 0, none⟩ = some (.int .i64 K) := by rw [k_q.cell]; rfl
  have x_q1 : V2.cell? ⟨w.heap.size, 1, none⟩ = some (.int .i64 N) := by rw [k_q.cell]; rfl
  have x_q2 : V2.cell? ⟨w.heap.size, 2, none⟩ = some (.slice a na ca) := by rw [k_q.cell]; rfl
  have l_q := k_q.lt
  have x_x0 : V2.cell? ⟨w2.heap.size, 0, none⟩ = some (.int .i64 8) := by rw [k_x.cell]; rfl
  have x_x1 : V2.cell? ⟨w2.heap.size, 1, none⟩ = some (.int .i64 n) := by rw [k_x.cell]; rfl
  have x_x2 : V2.cell? ⟨w2.heap.size, 2, none⟩ = some (.string s) := by rw [k_x.cell]; rfl
  have l_x := k_x.lt
  have x_n0 : V2.cell? ⟨w3.heap.size, 0, none⟩ = some (.int .i64 0) := by rw [k_n.cell]; rfl
  have x_n1 : V2.cell? ⟨w3.heap.size, 1, none⟩ = some (.int .i64 0) := by rw [k_n.cell]; rfl
  have x_n2 : V2.cell? ⟨w3.heap.size, 2, none⟩ = some (.string ⟨#[]⟩) := by rw [k_n.cell]; rfl
  have l_n := k_n.lt
  refine (HC2.out _).mono ?_
  rintro e w4 ⟨rfl, b4⟩
  clear x_q0 x_q1 x_q2 l_q x_x0 x_x1 x_x2 l_x x_n0 x_n1 x_n2 l_n
  have k_q := k_q.below b4 k_q.lt
  have k_x := k_x.below b4 k_x.lt
  have k_n := k_n.below b4 k_n.lt
  have bb := bb.trans (b4.mono bb.size)
  have x_q0 : w4.cell? ⟨w.heap.size, 0, none⟩ = some (.int .i64 K) := by rw [k_q.cell]; rfl
  have x_q1 : w4.cell? ⟨w.heap.size, 1, none⟩ = some (.int .i64 N) := by rw [k_q.cell]; rfl
  have x_q2 : w4.cell? ⟨w.heap.size, 2, none⟩ = some (.slice a na ca) := by rw [k_q.cell]; rfl
  have l_q := k_q.lt
  have x_x0 : w4.cell? ⟨w2.heap.size, 0, none⟩ = some (.int .i64 8) := by rw [k_x.cell]; rfl
  have x_x1 : w4.cell? ⟨w2.heap.size, 1, none⟩ = some (.int .i64 n) := by rw [k_x.cell]; rfl
  have x_x2 : w4.cell? ⟨w2.heap.size, 2, none⟩ = some (.string s) := by rw [k_x.cell]; rfl
  have l_x := k_x.lt
  have x_n0 : w4.cell? ⟨w3.heap.size, 0, none⟩ = some (.int .i64 0) := by rw [k_n.cell]; rfl
  have x_n1 : w4.cell? ⟨w3.heap.size, 1, none⟩ = some (.int .i64 0) := by rw [k_n.cell]; rfl
  have x_n2 : w4.cell? ⟨w3.heap.size, 2, none⟩ = some (.string ⟨#[]⟩) := by rw [k_n.cell]; rfl
  have l_n := k_n.lt
  go_wp2_with fail
  have k_q := k_q.alloc (.cells #[.int .i64 0, .int .i64 0, .string ⟨#[]⟩] 27)
  have k_x := k_x.alloc (.cells #[.int .i64 0, .int .i64 0, .string ⟨#[]⟩] 27)
  have k_n := k_n.alloc (.cells #[.int .i64 0, .int .i64 0, .string ⟨#[]⟩] 27)
  have k_m := Blk.new w4 27 #[.int .i64 0, .int .i64 0, .string ⟨#[]⟩]
  have bb := bb.alloc bb.size (.cells #[.int .i64 0, .int .i64 0, .string ⟨#[]⟩] 27)
  clear x_q0 x_q1 x_q2 l_q x_x0 x_x1 x_x2 l_x x_n0 x_n1 x_n2 l_n
  generalize w4.alloc (.cells #[.int .i64 0, .int .i64 0, .string ⟨#[]⟩] 27) = V3 at *
  have x_q0 : V3.cell? ⟨w.heap.size, 0, none⟩ = some (.int .i64 K) := by rw [k_q.cell]; rfl
  have x_q1 : V3.cell? ⟨w.heap.size, 1, none⟩ = some (.int .i64 N) := by rw [k_q.cell]; rfl
  have x_q2 : V3.cell? ⟨w.heap.size, 2, none⟩ = some (.slice a na ca) := by rw [k_q.cell]; rfl
  have l_q := k_q.lt
  have x_x0 : V3.cell? ⟨w2.heap.size, 0, none⟩ = some (.int .i64 8) := by rw [k_x.cell]; rfl
  have x_x1 : V3.cell? ⟨w2.heap.size, 1, none⟩ = some (.int .i64 n) := by rw [k_x.cell]; rfl
  have x_x2 : V3.cell? ⟨w2.heap.size, 2, none⟩ = some (.string s) := by rw [k_x.cell]; rfl
  have l_x := k_x.lt
  have x_n0 : V3.cell? ⟨w3.heap.size, 0, none⟩ = some (.int .i64 0) := by rw [k_n.cell]; rfl
  have x_n1 : V3.cell? ⟨w3.heap.size, 1, none⟩ = some (.int .i64 0) := by rw [k_n.cell]; rfl
  have x_n2 : V3.cell? ⟨w3.heap.size, 2, none⟩ = some (.string ⟨#[]⟩) := by rw [k_n.cell]; rfl
  have l_n := k_n.lt
  have x_m0 : V3.cell? ⟨w4.heap.size, 0, none⟩ = some (.int .i64 0) := by rw [k_m.cell]; rfl
  have x_m1 : V3.cell? ⟨w4.heap.size, 1, none⟩ = some (.int .i64 0) := by rw [k_m.cell]; rfl
  have x_m2 : V3.cell? ⟨w4.heap.size, 2, none⟩ = some (.string ⟨#[]⟩) := by rw [k_m.cell]; rfl
  have l_m := k_m.lt
  refine (HC3.out _ bb).mono ?_
  rintro e w5 ⟨rfl, b5⟩
  clear x_q0 x_q1 x_q2 l_q x_x0 x_x1 x_x2 l_x x_n0 x_n1 x_n2 l_n x_m0 x_m1 x_m2 l_m
  have k_q := k_q.below b5 k_q.lt
  have k_x := k_x.below b5 k_x.lt
  have k_n := k_n.below b5 k_n.lt
  have k_m := k_m.below b5 k_m.lt
  have bb := bb.trans (b5.mono bb.size)
  have x_q0 : w5.cell? ⟨w.heap.size, 0, none⟩ = some (.int .i64 K) := by rw [k_q.cell]; rfl
  have x_q1 : w5.cell? ⟨w.heap.size, 1, none⟩ = some (.int .i64 N) := by rw [k_q.cell]; rfl
  have x_q2 : w5.cell? ⟨w.heap.size, 2, none⟩ = some (.slice a na ca) := by rw [k_q.cell]; rfl
  have l_q := k_q.lt
  have x_x0 : w5.cell? ⟨w2.heap.size, 0, none⟩ = some (.int .i64 8) := by rw [k_x.cell]; rfl
  have x_x1 : w5.cell? ⟨w2.heap.size, 1, none⟩ = some (.int .i64 n) := by rw [k_x.cell]; rfl
  have x_x2 : w5.cell? ⟨w2.heap.size, 2, none⟩ = some (.string s) := by rw [k_x.cell]; rfl
  have l_x := k_x.lt
  have x_n0 : w5.cell? ⟨w3.heap.size, 0, none⟩ = some (.int .i64 0) := by rw [k_n.cell]; rfl
  have x_n1 : w5.cell? ⟨w3.heap.size, 1, none⟩ = some (.int .i64 0) := by rw [k_n.cell]; rfl
  have x_n2 : w5.cell? ⟨w3.heap.size, 2, none⟩ = some (.string ⟨#[]⟩) := by rw [k_n.cell]; rfl
  have l_n := k_n.lt
  have x_m0 : w5.cell? ⟨w4.heap.size, 0, none⟩ = some (.int .i64 0) := by rw [k_m.cell]; rfl
  have x_m1 : w5.cell? ⟨w4.heap.size, 1, none⟩ = some (.int .i64 0) := by rw [k_m.cell]; rfl
  have x_m2 : w5.cell? ⟨w4.heap.size, 2, none⟩ = some (.string ⟨#[]⟩) := by rw [k_m.cell]; rfl
  have l_m := k_m.lt
  go_wp2_with fail
  refine (HC4.out _ bb).mono ?_
  rintro e w6 ⟨rfl, b6⟩
  clear x_q0 x_q1 x_q2 l_q x_x0 x_x1 x_x2 l_x x_n0 x_n1 x_n2 l_n x_m0 x_m1 x_m2 l_m
  have k_q := k_q.below b6 k_q.lt
  have k_x := k_x.below b6 k_x.lt
  have k_n := k_n.below b6 k_n.lt
  have k_m := k_m.below b6 k_m.lt
  have bb := bb.trans (b6.mono bb.size)
  have x_q0 : w6.cell? ⟨w.heap.size, 0, none⟩ = some (.int .i64 K) := by rw [k_q.cell]; rfl
  have x_q1 : w6.cell? ⟨w.heap.size, 1, none⟩ = some (.int .i64 N) := by rw [k_q.cell]; rfl
  have x_q2 : w6.cell? ⟨w.heap.size, 2, none⟩ = some (.slice a na ca) := by rw [k_q.cell]; rfl
  have l_q := k_q.lt
  have x_x0 : w6.cell? ⟨w2.heap.size, 0, none⟩ = some (.int .i64 8) := by rw [k_x.cell]; rfl
  have x_x1 : w6.cell? ⟨w2.heap.size, 1, none⟩ = some (.int .i64 n) := by rw [k_x.cell]; rfl
  have x_x2 : w6.cell? ⟨w2.heap.size, 2, none⟩ = some (.string s) := by rw [k_x.cell]; rfl
  have l_x := k_x.lt
  have x_n0 : w6.cell? ⟨w3.heap.size, 0, none⟩ = some (.int .i64 0) := by rw [k_n.cell]; rfl
  have x_n1 : w6.cell? ⟨w3.heap.size, 1, none⟩ = some (.int .i64 0) := by rw [k_n.cell]; rfl
  have x_n2 : w6.cell? ⟨w3.heap.size, 2, none⟩ = some (.string ⟨#[]⟩) := by rw [k_n.cell]; rfl
  have l_n := k_n.lt
  have x_m0 : w6.cell? ⟨w4.heap.size, 0, none⟩ = some (.int .i64 0) := by rw [k_m.cell]; rfl
  have x_m1 : w6.cell? ⟨w4.heap.size, 1, none⟩ = some (.int .i64 0) := by rw [k_m.cell]; rfl
  have x_m2 : w6.cell? ⟨w4.heap.size, 2, none⟩ = some (.string ⟨#[]⟩) := by rw [k_m.cell]; rfl
  have l_m := k_m.lt
  go_wp2_with fail
  refine (HC5.out _ bb).mono ?_
  rintro e w7 ⟨rfl, b7⟩
  clear x_q0 x_q1 x_q2 l_q x_x0 x_x1 x_x2 l_x x_n0 x_n1 x_n2 l_n x_m0 x_m1 x_m2 l_m
  have k_q := k_q.below b7 k_q.lt
  have k_x := k_x.below b7 k_x.lt
  have k_n := k_n.below b7 k_n.lt
  have k_m := k_m.below b7 k_m.lt
  have bb := bb.trans (b7.mono bb.size)
  have x_q0 : w7.cell? ⟨w.heap.size, 0, none⟩ = some (.int .i64 K) := by rw [k_q.cell]; rfl
  have x_q1 : w7.cell? ⟨w.heap.size, 1, none⟩ = some (.int .i64 N) := by rw [k_q.cell]; rfl
  have x_q2 : w7.cell? ⟨w.heap.size, 2, none⟩ = some (.slice a na ca) := by rw [k_q.cell]; rfl
  have l_q := k_q.lt
  have x_x0 : w7.cell? ⟨w2.heap.size, 0, none⟩ = some (.int .i64 8) := by rw [k_x.cell]; rfl
  have x_x1 : w7.cell? ⟨w2.heap.size, 1, none⟩ = some (.int .i64 n) := by rw [k_x.cell]; rfl
  have x_x2 : w7.cell? ⟨w2.heap.size, 2, none⟩ = some (.string s) := by rw [k_x.cell]; rfl
  have l_x := k_x.lt
  have x_n0 : w7.cell? ⟨w3.heap.size, 0, none⟩ = some (.int .i64 0) := by rw [k_n.cell]; rfl
  have x_n1 : w7.cell? ⟨w3.heap.size, 1, none⟩ = some (.int .i64 0) := by rw [k_n.cell]; rfl
  have x_n2 : w7.cell? ⟨w3.heap.size, 2, none⟩ = some (.string ⟨#[]⟩) := by rw [k_n.cell]; rfl
  have l_n := k_n.lt
  have x_m0 : w7.cell? ⟨w4.heap.size, 0, none⟩ = some (.int .i64 0) := by rw [k_m.cell]; rfl
  have x_m1 : w7.cell? ⟨w4.heap.size, 1, none⟩ = some (.int .i64 0) := by rw [k_m.cell]; rfl
  have x_m2 : w7.cell? ⟨w4.heap.size, 2, none⟩ = some (.string ⟨#[]⟩) := by rw [k_m.cell]; rfl
  have l_m := k_m.lt
  go_upto_region 11 with fail
  have k_q := k_q.alloc (.cells #[.int .i64 8, .int .i64 n, .string s] 27)
  have k_x := k_x.alloc (.cells #[.int .i64 8, .int .i64 n, .string s] 27)
  have k_n := k_n.alloc (.cells #[.int .i64 8, .int .i64 n, .string s] 27)
  have k_m := k_m.alloc (.cells #[.int .i64 8, .int .i64 n, .string s] 27)
  have k_p := Blk.new w7 27 #[.int .i64 8, .int .i64 n, .string s]
  have bb := bb.alloc bb.size (.cells #[.int .i64 8, .int .i64 n, .string s] 27)
  clear x_q0 x_q1 x_q2 l_q x_x0 x_x1 x_x2 l_x x_n0 x_n1 x_n2 l_n x_m0 x_m1 x_m2 l_m
  generalize w7.alloc (.cells #[.int .i64 8, .int .i64 n, .string s] 27) = V4 at *
  have x_q0 : V4.cell? ⟨w.heap.size, 0, none⟩ = some (.int .i64 K) := by rw [k_q.cell]; rfl
  have x_q1 : V4.cell? ⟨w.heap.size, 1, none⟩ = some (.int .i64 N) := by rw [k_q.cell]; rfl
  have x_q2 : V4.cell? ⟨w.heap.size, 2, none⟩ = some (.slice a na ca) := by rw [k_q.cell]; rfl
  have l_q := k_q.lt
  have x_x0 : V4.cell? ⟨w2.heap.size, 0, none⟩ = some (.int .i64 8) := by rw [k_x.cell]; rfl
  have x_x1 : V4.cell? ⟨w2.heap.size, 1, none⟩ = some (.int .i64 n) := by rw [k_x.cell]; rfl
  have x_x2 : V4.cell? ⟨w2.heap.size, 2, none⟩ = some (.string s) := by rw [k_x.cell]; rfl
  have l_x := k_x.lt
  have x_n0 : V4.cell? ⟨w3.heap.size, 0, none⟩ = some (.int .i64 0) := by rw [k_n.cell]; rfl
  have x_n1 : V4.cell? ⟨w3.heap.size, 1, none⟩ = some (.int .i64 0) := by rw [k_n.cell]; rfl
  have x_n2 : V4.cell? ⟨w3.heap.size, 2, none⟩ = some (.string ⟨#[]⟩) := by rw [k_n.cell]; rfl
  have l_n := k_n.lt
  have x_m0 : V4.cell? ⟨w4.heap.size, 0, none⟩ = some (.int .i64 0) := by rw [k_m.cell]; rfl
  have x_m1 : V4.cell? ⟨w4.heap.size, 1, none⟩ = some (.int .i64 0) := by rw [k_m.cell]; rfl
  have x_m2 : V4.cell? ⟨w4.heap.size, 2, none⟩ = some (.string ⟨#[]⟩) := by rw [k_m.cell]; rfl
  have l_m := k_m.lt
  have x_p0 : V4.cell? ⟨w7.heap.size, 0, none⟩ = some (.int .i64 8) := by rw [k_p.cell]; rfl
  have x_p1 : V4.cell? ⟨w7.heap.size, 1, none⟩ = some (.int .i64 n) := by rw [k_p.cell]; rfl
  have x_p2 : V4.cell? ⟨w7.heap.size, 2, none⟩ = some (.string s) := by rw [k_p.cell]; rfl
  have l_p := k_p.lt
  have Q_q0 := fun d os => cell_regrown x_q0 d os
  have Q_q1 := fun d os => cell_regrown x_q1 d os
  have Q_q2 := fun d os => cell_regrown x_q2 d os
  have Q_x0 := fun d os => cell_regrown x_x0 d os
  have Q_x1 := fun d os => cell_regrown x_x1 d os
  have Q_x2 := fun d os => cell_regrown x_x2 d os
  have Q_n0 := fun d os => cell_regrown x_n0 d os
  have Q_n1 := fun d os => cell_regrown x_n1 d os
  have Q_n2 := fun d os => cell_regrown x_n2 d os
  have Q_m0 := fun d os => cell_regrown x_m0 d os
  have Q_m1 := fun d os => cell_regrown x_m1 d os
  have Q_m2 := fun d os => cell_regrown x_m2 d os
  have Q_p0 := fun d os => cell_regrown x_p0 d os
  have Q_p1 := fun d os => cell_regrown x_p1 d os
  have Q_p2 := fun d os => cell_regrown x_p2 d os
  have up := fun d os => bb.trans ((below_regrown V4 d os).mono bb.size)
  have D1 := fun d os => Calls.regrown_of (HC6.out (grow (redrawn V4 d) os))
  have D2 := fun d os => Calls.regrown_of (HC7.out (grow (redrawn V4 d) os))
  clear x_q0 x_q1 x_q2 x_x0 x_x1 x_x2 x_n0 x_n1 x_n2 x_m0 x_m1 x_m2 x_p0 x_p1 x_p2
  have q4 : (r == r) = true := by simp
  have q5 : (s.toList == s.toList) = true := by simp
  have q6 : (n == n) = true := by simp
  refine wp_region_quiet_below (by kernel_rfl) (by kernel_rfl) ?_
  repeat (first | go_big_quiet_step (first | with_reducible exact D1 _ _ | with_reducible exact D2 _ _) | quiet_step (first | with_reducible exact D1 _ _ | with_reducible exact D2 _ _))
  refine wpQuiet_nil ?_
  intro _ hw'
  obtain ⟨⟨dq, osq⟩, hw''⟩ := hw'
  subst hw''
  have be := up dq osq
  have bq := below_regrown V4 dq osq
  clear D1 D2 up Q_q0 Q_q1 Q_q2 Q_x0 Q_x1 Q_x2 Q_n0 Q_n1 Q_n2 Q_m0 Q_m1 Q_m2 Q_p0 Q_p1 Q_p2
  clear l_q l_x l_n l_m l_p
  have k_q := k_q.below bq k_q.lt
  have k_x := k_x.below bq k_x.lt
  have k_n := k_n.below bq k_n.lt
  have k_m := k_m.below bq k_m.lt
  have k_p := k_p.below bq k_p.lt
  generalize grow (redrawn V4 dq) osq = E at *
  have x_q0 : E.cell? ⟨w.heap.size, 0, none⟩ = some (.int .i64 K) := by rw [k_q.cell]; rfl
  have x_q1 : E.cell? ⟨w.heap.size, 1, none⟩ = some (.int .i64 N) := by rw [k_q.cell]; rfl
  have x_q2 : E.cell? ⟨w.heap.size, 2, none⟩ = some (.slice a na ca) := by rw [k_q.cell]; rfl
  have l_q := k_q.lt
  have x_x0 : E.cell? ⟨w2.heap.size, 0, none⟩ = some (.int .i64 8) := by rw [k_x.cell]; rfl
  have x_x1 : E.cell? ⟨w2.heap.size, 1, none⟩ = some (.int .i64 n) := by rw [k_x.cell]; rfl
  have x_x2 : E.cell? ⟨w2.heap.size, 2, none⟩ = some (.string s) := by rw [k_x.cell]; rfl
  have l_x := k_x.lt
  have x_n0 : E.cell? ⟨w3.heap.size, 0, none⟩ = some (.int .i64 0) := by rw [k_n.cell]; rfl
  have x_n1 : E.cell? ⟨w3.heap.size, 1, none⟩ = some (.int .i64 0) := by rw [k_n.cell]; rfl
  have x_n2 : E.cell? ⟨w3.heap.size, 2, none⟩ = some (.string ⟨#[]⟩) := by rw [k_n.cell]; rfl
  have l_n := k_n.lt
  have x_m0 : E.cell? ⟨w4.heap.size, 0, none⟩ = some (.int .i64 0) := by rw [k_m.cell]; rfl
  have x_m1 : E.cell? ⟨w4.heap.size, 1, none⟩ = some (.int .i64 0) := by rw [k_m.cell]; rfl
  have x_m2 : E.cell? ⟨w4.heap.size, 2, none⟩ = some (.string ⟨#[]⟩) := by rw [k_m.cell]; rfl
  have l_m := k_m.lt
  have x_p0 : E.cell? ⟨w7.heap.size, 0, none⟩ = some (.int .i64 8) := by rw [k_p.cell]; rfl
  have x_p1 : E.cell? ⟨w7.heap.size, 1, none⟩ = some (.int .i64 n) := by rw [k_p.cell]; rfl
  have x_p2 : E.cell? ⟨w7.heap.size, 2, none⟩ = some (.string s) := by rw [k_p.cell]; rfl
  have l_p := k_p.lt
  go_wp2_with fail
  go_ret
  exact ⟨by simp, be⟩
set_option maxHeartbeats 8000000 in
set_option maxRecDepth 100000 in
theorem conv_big (K N : Int) (a : Option Addr) (na ca : Nat) (w : World) (hT : Tb w) (h1 : 2000 < na) :
    Calls Tryd.prog 8 #[SeedV K N a na ca] w fun e w' => e = .returned (.bool true) ∧ Below w.heap.size w w' := by
  have HT := Lib.hid hT
  clear hT
  have s1 : decide ((2000 : Int) < (na : Int)) = true := by simp; omega
  go_enter Tryd.func8, Tryd.ntmps8
  go_wp2_with fail
  have k_q := Blk.new w 24 #[.int .i64 K, .int .i64 N, .slice a na ca]
  have bb : Below w.heap.size w _ := ((Below.refl _ _).alloc (Nat.le_refl _) (.cells #[.int .i64 K, .int .i64 N, .slice a na ca] 24))
  generalize (w.alloc (.cells #[.int .i64 K, .int .i64 N, .slice a na ca] 24)) = W0 at *
  refine (fit_any _ (HT.out.below bb)).mono ?_
  rintro e w1 ⟨rfl, b1⟩
  have k_q := k_q.below b1 k_q.lt
  have bb := bb.trans (b1.mono bb.size)
  have x_q0 : w1.cell? ⟨w.heap.size, 0, none⟩ = some (.int .i64 K) := by rw [k_q.cell]; rfl
  have x_q1 : w1.cell? ⟨w.heap.size, 1, none⟩ = some (.int .i64 N) := by rw [k_q.cell]; rfl
  have x_q2 : w1.cell? ⟨w.heap.size, 2, none⟩ = some (.slice a na ca) := by rw [k_q.cell]; rfl
  have l_q := k_q.lt
  go_wp2_with fail
  go_ret
  exact ⟨by simp, bb⟩
end Go.Proofs.YtjkboelcpihphaaDoor
