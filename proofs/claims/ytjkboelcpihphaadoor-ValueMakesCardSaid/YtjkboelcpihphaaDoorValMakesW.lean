/- The walk of the statement ValueMakes. -/
import Derived.Test.YtjkboelcpihphaaDoorValH
set_option linter.unusedVariables false
set_option linter.unusedSimpArgs false
namespace Go.Proofs.YtjkboelcpihphaaDoor
open Go.RowKit

theorem and_65535 (N : Int) : bits .and .i64 N 65535 = (lowBits N 65535 : Int) := by
  have h := lowBits_le N 65535
  show IntKind.i64.wrap (((BitVec.ofInt 64 N &&& BitVec.ofInt 64 65535).toNat : Nat) : Int) = _
  rw [BitVec.toNat_and, show (BitVec.ofInt 64 65535).toNat = 65535 by decide, IntKind.wrap_i64]
  unfold lowBits at h ⊢
  omega

theorem true_tN (b : Bool) (W : World) : Calls Tryd.prog 12 #[VS 2 (tN b) ⟨#[]⟩] W (Ret (.bool b) W) := by
  have := true_any 2 (tN b) ⟨#[]⟩ W (by decide) (by decide)
  rwa [show trueB 2 (tN b) ⟨#[]⟩ = b by cases b <;> rfl] at this

set_option maxHeartbeats 8000000 in
set_option maxRecDepth 100000 in
theorem makes_walk (r : Int) (x : Bool) (w : World) (hT : Tb w) : Calls Tryd.prog 5 #[.int .i64 r, .bool x] w fun e w' => e = .returned (.bool true) ∧ Below w.heap.size w w' := by
  have HT := Lib.hid hT
  clear hT
  have h1 := and_65535 r
  have h2 := lowBits_le r 65535
  generalize lowBits r 65535 = c at *
  cases x
  · go_enter Tryd.func5, Tryd.ntmps5
    go_wp2_with fail
    refine (fit_any _ HT.out).mono ?_
    rintro e w0 ⟨rfl, b0⟩
    have bb := b0
    go_wp2_with fail
    clear h1
    obtain ⟨R, hR⟩ : ∃ R : Int, R = (c : Int) + 1 := ⟨_, rfl⟩
    rw [← hR]
    have HRR := Lib.hid hR
    clear hR
    have HB := Lib.hid (fun b W => truth_any b W)
    have HTT := Lib.hid (fun b W => true_tN b W)
    refine (object_any R _).mono ?_
    rintro e w1 ⟨rfl, b1⟩
    have bb := bb.trans (b1.mono bb.size)
    go_wp2_with fail
    refine (symbol_any R _).mono ?_
    rintro e w2 ⟨rfl, b2⟩
    have bb := bb.trans (b2.mono bb.size)
    go_wp2_with fail
    refine (HB.out _ _).mono ?_
    rintro e w3 ⟨rfl, b3⟩
    have bb := bb.trans (b3.mono bb.size)
    go_wp2_with fail
    have k_o := ((Blk.new w3 27 #[.int .i64 9, .int .i64 R, .string ⟨#[]⟩]).alloc (.cells #[.int .i64 8, .int .i64 R, .string ⟨#[]⟩] 27)).alloc (.cells #[.int .i64 2, .int .i64 (tN false), .string ⟨#[]⟩] 27)
    have k_s := (Blk.new (w3.alloc (.cells #[.int .i64 9, .int .i64 R, .string ⟨#[]⟩] 27)) 27 #[.int .i64 8, .int .i64 R, .string ⟨#[]⟩]).alloc (.cells #[.int .i64 2, .int .i64 (tN false), .string ⟨#[]⟩] 27)
    rw [World.size_alloc] at k_s
    have k_t := Blk.new ((w3.alloc (.cells #[.int .i64 9, .int .i64 R, .string ⟨#[]⟩] 27)).alloc (.cells #[.int .i64 8, .int .i64 R, .string ⟨#[]⟩] 27)) 27 #[.int .i64 2, .int .i64 (tN false), .string ⟨#[]⟩]
    rw [World.size_alloc, World.size_alloc] at k_t
    have bb := (((bb).alloc (bb.size) (.cells #[.int .i64 9, .int .i64 R, .string ⟨#[]⟩] 27)).alloc (by have := bb.size; simp; omega) (.cells #[.int .i64 8, .int .i64 R, .string ⟨#[]⟩] 27)).alloc (by have := bb.size; simp; omega) (.cells #[.int .i64 2, .int .i64 (tN false), .string ⟨#[]⟩] 27)
    generalize (((w3.alloc (.cells #[.int .i64 9, .int .i64 R, .string ⟨#[]⟩] 27)).alloc (.cells #[.int .i64 8, .int .i64 R, .string ⟨#[]⟩] 27)).alloc (.cells #[.int .i64 2, .int .i64 (tN false), .string ⟨#[]⟩] 27)) = V1 at *
    refine (ref_9 _ _ _).mono ?_
    rintro e w4 ⟨rfl, b4⟩
    have k_o := k_o.below b4 k_o.lt
    have k_s := k_s.below b4 k_s.lt
    have k_t := k_t.below b4 k_t.lt
    have bb := bb.trans (b4.mono bb.size)
    have x_o0 : w4.cell? ⟨w3.heap.size, 0, none⟩ = some (.int .i64 9) := by rw [k_o.cell]; rfl
    have x_o1 : w4.cell? ⟨w3.heap.size, 1, none⟩ = some (.int .i64 R) := by rw [k_o.cell]; rfl
    have x_o2 : w4.cell? ⟨w3.heap.size, 2, none⟩ = some (.string ⟨#[]⟩) := by rw [k_o.cell]; rfl
    have l_o := k_o.lt
    have x_s0 : w4.cell? ⟨w3.heap.size + 1, 0, none⟩ = some (.int .i64 8) := by rw [k_s.cell]; rfl
    have x_s1 : w4.cell? ⟨w3.heap.size + 1, 1, none⟩ = some (.int .i64 R) := by rw [k_s.cell]; rfl
    have x_s2 : w4.cell? ⟨w3.heap.size + 1, 2, none⟩ = some (.string ⟨#[]⟩) := by rw [k_s.cell]; rfl
    have l_s := k_s.lt
    have x_t0 : w4.cell? ⟨w3.heap.size + 1 + 1, 0, none⟩ = some (.int .i64 2) := by rw [k_t.cell]; rfl
    have x_t1 : w4.cell? ⟨w3.heap.size + 1 + 1, 1, none⟩ = some (.int .i64 (tN false)) := by rw [k_t.cell]; rfl
    have x_t2 : w4.cell? ⟨w3.heap.size + 1 + 1, 2, none⟩ = some (.string ⟨#[]⟩) := by rw [k_t.cell]; rfl
    have l_t := k_t.lt
    go_wp2_with fail
    refine (ref_8 _ _ _).mono ?_
    rintro e w5 ⟨rfl, b5⟩
    clear x_o0 x_o1 x_o2 l_o x_s0 x_s1 x_s2 l_s x_t0 x_t1 x_t2 l_t
    have k_o := k_o.below b5 k_o.lt
    have k_s := k_s.below b5 k_s.lt
    have k_t := k_t.below b5 k_t.lt
    have bb := bb.trans (b5.mono bb.size)
    have x_o0 : w5.cell? ⟨w3.heap.size, 0, none⟩ = some (.int .i64 9) := by rw [k_o.cell]; rfl
    have x_o1 : w5.cell? ⟨w3.heap.size, 1, none⟩ = some (.int .i64 R) := by rw [k_o.cell]; rfl
    have x_o2 : w5.cell? ⟨w3.heap.size, 2, none⟩ = some (.string ⟨#[]⟩) := by rw [k_o.cell]; rfl
    have l_o := k_o.lt
    have x_s0 : w5.cell? ⟨w3.heap.size + 1, 0, none⟩ = some (.int .i64 8) := by rw [k_s.cell]; rfl
    have x_s1 : w5.cell? ⟨w3.heap.size + 1, 1, none⟩ = some (.int .i64 R) := by rw [k_s.cell]; rfl
    have x_s2 : w5.cell? ⟨w3.heap.size + 1, 2, none⟩ = some (.string ⟨#[]⟩) := by rw [k_s.cell]; rfl
    have l_s := k_s.lt
    have x_t0 : w5.cell? ⟨w3.heap.size + 1 + 1, 0, none⟩ = some (.int .i64 2) := by rw [k_t.cell]; rfl
    have x_t1 : w5.cell? ⟨w3.heap.size + 1 + 1, 1, none⟩ = some (.int .i64 (tN false)) := by rw [k_t.cell]; rfl
    have x_t2 : w5.cell? ⟨w3.heap.size + 1 + 1, 2, none⟩ = some (.string ⟨#[]⟩) := by rw [k_t.cell]; rfl
    have l_t := k_t.lt
    go_wp2_with fail
    refine (ref_2 _ _ _).mono ?_
    rintro e w6 ⟨rfl, b6⟩
    clear x_o0 x_o1 x_o2 l_o x_s0 x_s1 x_s2 l_s x_t0 x_t1 x_t2 l_t
    have k_o := k_o.below b6 k_o.lt
    have k_s := k_s.below b6 k_s.lt
    have k_t := k_t.below b6 k_t.lt
    have bb := bb.trans (b6.mono bb.size)
    have x_o0 : w6.cell? ⟨w3.heap.size, 0, none⟩ = some (.int .i64 9) := by rw [k_o.cell]; rfl
    have x_o1 : w6.cell? ⟨w3.heap.size, 1, none⟩ = some (.int .i64 R) := by rw [k_o.cell]; rfl
    have x_o2 : w6.cell? ⟨w3.heap.size, 2, none⟩ = some (.string ⟨#[]⟩) := by rw [k_o.cell]; rfl
    have l_o := k_o.lt
    have x_s0 : w6.cell? ⟨w3.heap.size + 1, 0, none⟩ = some (.int .i64 8) := by rw [k_s.cell]; rfl
    have x_s1 : w6.cell? ⟨w3.heap.size + 1, 1, none⟩ = some (.int .i64 R) := by rw [k_s.cell]; rfl
    have x_s2 : w6.cell? ⟨w3.heap.size + 1, 2, none⟩ = some (.string ⟨#[]⟩) := by rw [k_s.cell]; rfl
    have l_s := k_s.lt
    have x_t0 : w6.cell? ⟨w3.heap.size + 1 + 1, 0, none⟩ = some (.int .i64 2) := by rw [k_t.cell]; rfl
    have x_t1 : w6.cell? ⟨w3.heap.size + 1 + 1, 1, none⟩ = some (.int .i64 (tN false)) := by rw [k_t.cell]; rfl
    have x_t2 : w6.cell? ⟨w3.heap.size + 1 + 1, 2, none⟩ = some (.string ⟨#[]⟩) := by rw [k_t.cell]; rfl
    have l_t := k_t.lt
    go_wp2_with fail
    refine (isobj_9 _ _ _).mono ?_
    rintro e w7 ⟨rfl, b7⟩
    clear x_o0 x_o1 x_o2 l_o x_s0 x_s1 x_s2 l_s x_t0 x_t1 x_t2 l_t
    have k_o := k_o.below b7 k_o.lt
    have k_s := k_s.below b7 k_s.lt
    have k_t := k_t.below b7 k_t.lt
    have bb := bb.trans (b7.mono bb.size)
    have x_o0 : w7.cell? ⟨w3.heap.size, 0, none⟩ = some (.int .i64 9) := by rw [k_o.cell]; rfl
    have x_o1 : w7.cell? ⟨w3.heap.size, 1, none⟩ = some (.int .i64 R) := by rw [k_o.cell]; rfl
    have x_o2 : w7.cell? ⟨w3.heap.size, 2, none⟩ = some (.string ⟨#[]⟩) := by rw [k_o.cell]; rfl
    have l_o := k_o.lt
    have x_s0 : w7.cell? ⟨w3.heap.size + 1, 0, none⟩ = some (.int .i64 8) := by rw [k_s.cell]; rfl
    have x_s1 : w7.cell? ⟨w3.heap.size + 1, 1, none⟩ = some (.int .i64 R) := by rw [k_s.cell]; rfl
    have x_s2 : w7.cell? ⟨w3.heap.size + 1, 2, none⟩ = some (.string ⟨#[]⟩) := by rw [k_s.cell]; rfl
    have l_s := k_s.lt
    have x_t0 : w7.cell? ⟨w3.heap.size + 1 + 1, 0, none⟩ = some (.int .i64 2) := by rw [k_t.cell]; rfl
    have x_t1 : w7.cell? ⟨w3.heap.size + 1 + 1, 1, none⟩ = some (.int .i64 (tN false)) := by rw [k_t.cell]; rfl
    have x_t2 : w7.cell? ⟨w3.heap.size + 1 + 1, 2, none⟩ = some (.string ⟨#[]⟩) := by rw [k_t.cell]; rfl
    have l_t := k_t.lt
    go_wp2_with fail
    refine (isobj_8 _ _ _).mono ?_
    rintro e w8 ⟨rfl, b8⟩
    clear x_o0 x_o1 x_o2 l_o x_s0 x_s1 x_s2 l_s x_t0 x_t1 x_t2 l_t
    have k_o := k_o.below b8 k_o.lt
    have k_s := k_s.below b8 k_s.lt
    have k_t := k_t.below b8 k_t.lt
    have bb := bb.trans (b8.mono bb.size)
    have x_o0 : w8.cell? ⟨w3.heap.size, 0, none⟩ = some (.int .i64 9) := by rw [k_o.cell]; rfl
    have x_o1 : w8.cell? ⟨w3.heap.size, 1, none⟩ = some (.int .i64 R) := by rw [k_o.cell]; rfl
    have x_o2 : w8.cell? ⟨w3.heap.size, 2, none⟩ = some (.string ⟨#[]⟩) := by rw [k_o.cell]; rfl
    have l_o := k_o.lt
    have x_s0 : w8.cell? ⟨w3.heap.size + 1, 0, none⟩ = some (.int .i64 8) := by rw [k_s.cell]; rfl
    have x_s1 : w8.cell? ⟨w3.heap.size + 1, 1, none⟩ = some (.int .i64 R) := by rw [k_s.cell]; rfl
    have x_s2 : w8.cell? ⟨w3.heap.size + 1, 2, none⟩ = some (.string ⟨#[]⟩) := by rw [k_s.cell]; rfl
    have l_s := k_s.lt
    have x_t0 : w8.cell? ⟨w3.heap.size + 1 + 1, 0, none⟩ = some (.int .i64 2) := by rw [k_t.cell]; rfl
    have x_t1 : w8.cell? ⟨w3.heap.size + 1 + 1, 1, none⟩ = some (.int .i64 (tN false)) := by rw [k_t.cell]; rfl
    have x_t2 : w8.cell? ⟨w3.heap.size + 1 + 1, 2, none⟩ = some (.string ⟨#[]⟩) := by rw [k_t.cell]; rfl
    have l_t := k_t.lt
    go_wp2_with fail
    refine (true_9 _ _ _).mono ?_
    rintro e w9 ⟨rfl, b9⟩
    clear x_o0 x_o1 x_o2 l_o x_s0 x_s1 x_s2 l_s x_t0 x_t1 x_t2 l_t
    have k_o := k_o.below b9 k_o.lt
    have k_s := k_s.below b9 k_s.lt
    have k_t := k_t.below b9 k_t.lt
    have bb := bb.trans (b9.mono bb.size)
    have x_o0 : w9.cell? ⟨w3.heap.size, 0, none⟩ = some (.int .i64 9) := by rw [k_o.cell]; rfl
    have x_o1 : w9.cell? ⟨w3.heap.size, 1, none⟩ = some (.int .i64 R) := by rw [k_o.cell]; rfl
    have x_o2 : w9.cell? ⟨w3.heap.size, 2, none⟩ = some (.string ⟨#[]⟩) := by rw [k_o.cell]; rfl
    have l_o := k_o.lt
    have x_s0 : w9.cell? ⟨w3.heap.size + 1, 0, none⟩ = some (.int .i64 8) := by rw [k_s.cell]; rfl
    have x_s1 : w9.cell? ⟨w3.heap.size + 1, 1, none⟩ = some (.int .i64 R) := by rw [k_s.cell]; rfl
    have x_s2 : w9.cell? ⟨w3.heap.size + 1, 2, none⟩ = some (.string ⟨#[]⟩) := by rw [k_s.cell]; rfl
    have l_s := k_s.lt
    have x_t0 : w9.cell? ⟨w3.heap.size + 1 + 1, 0, none⟩ = some (.int .i64 2) := by rw [k_t.cell]; rfl
    have x_t1 : w9.cell? ⟨w3.heap.size + 1 + 1, 1, none⟩ = some (.int .i64 (tN false)) := by rw [k_t.cell]; rfl
    have x_t2 : w9.cell? ⟨w3.heap.size + 1 + 1, 2, none⟩ = some (.string ⟨#[]⟩) := by rw [k_t.cell]; rfl
    have l_t := k_t.lt
    go_wp2_with fail
    refine (true_8 _ _ _).mono ?_
    rintro e w10 ⟨rfl, b10⟩
    clear x_o0 x_o1 x_o2 l_o x_s0 x_s1 x_s2 l_s x_t0 x_t1 x_t2 l_t
    have k_o := k_o.below b10 k_o.lt
    have k_s := k_s.below b10 k_s.lt
    have k_t := k_t.below b10 k_t.lt
    have bb := bb.trans (b10.mono bb.size)
    have x_o0 : w10.cell? ⟨w3.heap.size, 0, none⟩ = some (.int .i64 9) := by rw [k_o.cell]; rfl
    have x_o1 : w10.cell? ⟨w3.heap.size, 1, none⟩ = some (.int .i64 R) := by rw [k_o.cell]; rfl
    have x_o2 : w10.cell? ⟨w3.heap.size, 2, none⟩ = some (.string ⟨#[]⟩) := by rw [k_o.cell]; rfl
    have l_o := k_o.lt
    have x_s0 : w10.cell? ⟨w3.heap.size + 1, 0, none⟩ = some (.int .i64 8) := by rw [k_s.cell]; rfl
    have x_s1 : w10.cell? ⟨w3.heap.size + 1, 1, none⟩ = some (.int .i64 R) := by rw [k_s.cell]; rfl
    have x_s2 : w10.cell? ⟨w3.heap.size + 1, 2, none⟩ = some (.string ⟨#[]⟩) := by rw [k_s.cell]; rfl
    have l_s := k_s.lt
    have x_t0 : w10.cell? ⟨w3.heap.size + 1 + 1, 0, none⟩ = some (.int .i64 2) := by rw [k_t.cell]; rfl
    have x_t1 : w10.cell? ⟨w3.heap.size + 1 + 1, 1, none⟩ = some (.int .i64 (tN false)) := by rw [k_t.cell]; rfl
    have x_t2 : w10.cell? ⟨w3.heap.size + 1 + 1, 2, none⟩ = some (.string ⟨#[]⟩) := by rw [k_t.cell]; rfl
    have l_t := k_t.lt
    go_wp2_with fail
    refine (HTT.out _ _).mono ?_
    rintro e w11 ⟨rfl, b11⟩
    clear x_o0 x_o1 x_o2 l_o x_s0 x_s1 x_s2 l_s x_t0 x_t1 x_t2 l_t
    have k_o := k_o.below b11 k_o.lt
    have k_s := k_s.below b11 k_s.lt
    have k_t := k_t.below b11 k_t.lt
    have bb := bb.trans (b11.mono bb.size)
    have x_o0 : w11.cell? ⟨w3.heap.size, 0, none⟩ = some (.int .i64 9) := by rw [k_o.cell]; rfl
    have x_o1 : w11.cell? ⟨w3.heap.size, 1, none⟩ = some (.int .i64 R) := by rw [k_o.cell]; rfl
    have x_o2 : w11.cell? ⟨w3.heap.size, 2, none⟩ = some (.string ⟨#[]⟩) := by rw [k_o.cell]; rfl
    have l_o := k_o.lt
    have x_s0 : w11.cell? ⟨w3.heap.size + 1, 0, none⟩ = some (.int .i64 8) := by rw [k_s.cell]; rfl
    have x_s1 : w11.cell? ⟨w3.heap.size + 1, 1, none⟩ = some (.int .i64 R) := by rw [k_s.cell]; rfl
    have x_s2 : w11.cell? ⟨w3.heap.size + 1, 2, none⟩ = some (.string ⟨#[]⟩) := by rw [k_s.cell]; rfl
    have l_s := k_s.lt
    have x_t0 : w11.cell? ⟨w3.heap.size + 1 + 1, 0, none⟩ = some (.int .i64 2) := by rw [k_t.cell]; rfl
    have x_t1 : w11.cell? ⟨w3.heap.size + 1 + 1, 1, none⟩ = some (.int .i64 (tN false)) := by rw [k_t.cell]; rfl
    have x_t2 : w11.cell? ⟨w3.heap.size + 1 + 1, 2, none⟩ = some (.string ⟨#[]⟩) := by rw [k_t.cell]; rfl
    have l_t := k_t.lt
    go_wp2_with fail
    refine (nullish_0 _ _ _).mono ?_
    rintro e w12 ⟨rfl, b12⟩
    clear x_o0 x_o1 x_o2 l_o x_s0 x_s1 x_s2 l_s x_t0 x_t1 x_t2 l_t
    have k_o := k_o.below b12 k_o.lt
    have k_s := k_s.below b12 k_s.lt
    have k_t := k_t.below b12 k_t.lt
    have bb := bb.trans (b12.mono bb.size)
    have x_o0 : w12.cell? ⟨w3.heap.size, 0, none⟩ = some (.int .i64 9) := by rw [k_o.cell]; rfl
    have x_o1 : w12.cell? ⟨w3.heap.size, 1, none⟩ = some (.int .i64 R) := by rw [k_o.cell]; rfl
    have x_o2 : w12.cell? ⟨w3.heap.size, 2, none⟩ = some (.string ⟨#[]⟩) := by rw [k_o.cell]; rfl
    have l_o := k_o.lt
    have x_s0 : w12.cell? ⟨w3.heap.size + 1, 0, none⟩ = some (.int .i64 8) := by rw [k_s.cell]; rfl
    have x_s1 : w12.cell? ⟨w3.heap.size + 1, 1, none⟩ = some (.int .i64 R) := by rw [k_s.cell]; rfl
    have x_s2 : w12.cell? ⟨w3.heap.size + 1, 2, none⟩ = some (.string ⟨#[]⟩) := by rw [k_s.cell]; rfl
    have l_s := k_s.lt
    have x_t0 : w12.cell? ⟨w3.heap.size + 1 + 1, 0, none⟩ = some (.int .i64 2) := by rw [k_t.cell]; rfl
    have x_t1 : w12.cell? ⟨w3.heap.size + 1 + 1, 1, none⟩ = some (.int .i64 (tN false)) := by rw [k_t.cell]; rfl
    have x_t2 : w12.cell? ⟨w3.heap.size + 1 + 1, 2, none⟩ = some (.string ⟨#[]⟩) := by rw [k_t.cell]; rfl
    have l_t := k_t.lt
    go_wp2_with fail
    refine (nullish_1 _ _ _).mono ?_
    rintro e w13 ⟨rfl, b13⟩
    clear x_o0 x_o1 x_o2 l_o x_s0 x_s1 x_s2 l_s x_t0 x_t1 x_t2 l_t
    have k_o := k_o.below b13 k_o.lt
    have k_s := k_s.below b13 k_s.lt
    have k_t := k_t.below b13 k_t.lt
    have bb := bb.trans (b13.mono bb.size)
    have x_o0 : w13.cell? ⟨w3.heap.size, 0, none⟩ = some (.int .i64 9) := by rw [k_o.cell]; rfl
    have x_o1 : w13.cell? ⟨w3.heap.size, 1, none⟩ = some (.int .i64 R) := by rw [k_o.cell]; rfl
    have x_o2 : w13.cell? ⟨w3.heap.size, 2, none⟩ = some (.string ⟨#[]⟩) := by rw [k_o.cell]; rfl
    have l_o := k_o.lt
    have x_s0 : w13.cell? ⟨w3.heap.size + 1, 0, none⟩ = some (.int .i64 8) := by rw [k_s.cell]; rfl
    have x_s1 : w13.cell? ⟨w3.heap.size + 1, 1, none⟩ = some (.int .i64 R) := by rw [k_s.cell]; rfl
    have x_s2 : w13.cell? ⟨w3.heap.size + 1, 2, none⟩ = some (.string ⟨#[]⟩) := by rw [k_s.cell]; rfl
    have l_s := k_s.lt
    have x_t0 : w13.cell? ⟨w3.heap.size + 1 + 1, 0, none⟩ = some (.int .i64 2) := by rw [k_t.cell]; rfl
    have x_t1 : w13.cell? ⟨w3.heap.size + 1 + 1, 1, none⟩ = some (.int .i64 (tN false)) := by rw [k_t.cell]; rfl
    have x_t2 : w13.cell? ⟨w3.heap.size + 1 + 1, 2, none⟩ = some (.string ⟨#[]⟩) := by rw [k_t.cell]; rfl
    have l_t := k_t.lt
    go_wp2_with fail
    refine (nullish_9 _ _ _).mono ?_
    rintro e w14 ⟨rfl, b14⟩
    clear x_o0 x_o1 x_o2 l_o x_s0 x_s1 x_s2 l_s x_t0 x_t1 x_t2 l_t
    have k_o := k_o.below b14 k_o.lt
    have k_s := k_s.below b14 k_s.lt
    have k_t := k_t.below b14 k_t.lt
    have bb := bb.trans (b14.mono bb.size)
    have x_o0 : w14.cell? ⟨w3.heap.size, 0, none⟩ = some (.int .i64 9) := by rw [k_o.cell]; rfl
    have x_o1 : w14.cell? ⟨w3.heap.size, 1, none⟩ = some (.int .i64 R) := by rw [k_o.cell]; rfl
    have x_o2 : w14.cell? ⟨w3.heap.size, 2, none⟩ = some (.string ⟨#[]⟩) := by rw [k_o.cell]; rfl
    have l_o := k_o.lt
    have x_s0 : w14.cell? ⟨w3.heap.size + 1, 0, none⟩ = some (.int .i64 8) := by rw [k_s.cell]; rfl
    have x_s1 : w14.cell? ⟨w3.heap.size + 1, 1, none⟩ = some (.int .i64 R) := by rw [k_s.cell]; rfl
    have x_s2 : w14.cell? ⟨w3.heap.size + 1, 2, none⟩ = some (.string ⟨#[]⟩) := by rw [k_s.cell]; rfl
    have l_s := k_s.lt
    have x_t0 : w14.cell? ⟨w3.heap.size + 1 + 1, 0, none⟩ = some (.int .i64 2) := by rw [k_t.cell]; rfl
    have x_t1 : w14.cell? ⟨w3.heap.size + 1 + 1, 1, none⟩ = some (.int .i64 (tN false)) := by rw [k_t.cell]; rfl
    have x_t2 : w14.cell? ⟨w3.heap.size + 1 + 1, 2, none⟩ = some (.string ⟨#[]⟩) := by rw [k_t.cell]; rfl
    have l_t := k_t.lt
    go_wp2_with fail
    refine (nullish_2 _ _ _).mono ?_
    rintro e w15 ⟨rfl, b15⟩
    clear x_o0 x_o1 x_o2 l_o x_s0 x_s1 x_s2 l_s x_t0 x_t1 x_t2 l_t
    have k_o := k_o.below b15 k_o.lt
    have k_s := k_s.below b15 k_s.lt
    have k_t := k_t.below b15 k_t.lt
    have bb := bb.trans (b15.mono bb.size)
    have x_o0 : w15.cell? ⟨w3.heap.size, 0, none⟩ = some (.int .i64 9) := by rw [k_o.cell]; rfl
    have x_o1 : w15.cell? ⟨w3.heap.size, 1, none⟩ = some (.int .i64 R) := by rw [k_o.cell]; rfl
    have x_o2 : w15.cell? ⟨w3.heap.size, 2, none⟩ = some (.string ⟨#[]⟩) := by rw [k_o.cell]; rfl
    have l_o := k_o.lt
    have x_s0 : w15.cell? ⟨w3.heap.size + 1, 0, none⟩ = some (.int .i64 8) := by rw [k_s.cell]; rfl
    have x_s1 : w15.cell? ⟨w3.heap.size + 1, 1, none⟩ = some (.int .i64 R) := by rw [k_s.cell]; rfl
    have x_s2 : w15.cell? ⟨w3.heap.size + 1, 2, none⟩ = some (.string ⟨#[]⟩) := by rw [k_s.cell]; rfl
    have l_s := k_s.lt
    have x_t0 : w15.cell? ⟨w3.heap.size + 1 + 1, 0, none⟩ = some (.int .i64 2) := by rw [k_t.cell]; rfl
    have x_t1 : w15.cell? ⟨w3.heap.size + 1 + 1, 1, none⟩ = some (.int .i64 (tN false)) := by rw [k_t.cell]; rfl
    have x_t2 : w15.cell? ⟨w3.heap.size + 1 + 1, 2, none⟩ = some (.string ⟨#[]⟩) := by rw [k_t.cell]; rfl
    have l_t := k_t.lt
    go_wp2_with fail
    go_ret
    exact ⟨by simp, bb⟩
  · go_enter Tryd.func5, Tryd.ntmps5
    go_wp2_with fail
    refine (fit_any _ HT.out).mono ?_
    rintro e w0 ⟨rfl, b0⟩
    have bb := b0
    go_wp2_with fail
    clear h1
    obtain ⟨R, hR⟩ : ∃ R : Int, R = (c : Int) + 1 := ⟨_, rfl⟩
    rw [← hR]
    have HRR := Lib.hid hR
    clear hR
    have HB := Lib.hid (fun b W => truth_any b W)
    have HTT := Lib.hid (fun b W => true_tN b W)
    refine (object_any R _).mono ?_
    rintro e w1 ⟨rfl, b1⟩
    have bb := bb.trans (b1.mono bb.size)
    go_wp2_with fail
    refine (symbol_any R _).mono ?_
    rintro e w2 ⟨rfl, b2⟩
    have bb := bb.trans (b2.mono bb.size)
    go_wp2_with fail
    refine (HB.out _ _).mono ?_
    rintro e w3 ⟨rfl, b3⟩
    have bb := bb.trans (b3.mono bb.size)
    go_wp2_with fail
    have k_o := ((Blk.new w3 27 #[.int .i64 9, .int .i64 R, .string ⟨#[]⟩]).alloc (.cells #[.int .i64 8, .int .i64 R, .string ⟨#[]⟩] 27)).alloc (.cells #[.int .i64 2, .int .i64 (tN true), .string ⟨#[]⟩] 27)
    have k_s := (Blk.new (w3.alloc (.cells #[.int .i64 9, .int .i64 R, .string ⟨#[]⟩] 27)) 27 #[.int .i64 8, .int .i64 R, .string ⟨#[]⟩]).alloc (.cells #[.int .i64 2, .int .i64 (tN true), .string ⟨#[]⟩] 27)
    rw [World.size_alloc] at k_s
    have k_t := Blk.new ((w3.alloc (.cells #[.int .i64 9, .int .i64 R, .string ⟨#[]⟩] 27)).alloc (.cells #[.int .i64 8, .int .i64 R, .string ⟨#[]⟩] 27)) 27 #[.int .i64 2, .int .i64 (tN true), .string ⟨#[]⟩]
    rw [World.size_alloc, World.size_alloc] at k_t
    have bb := (((bb).alloc (bb.size) (.cells #[.int .i64 9, .int .i64 R, .string ⟨#[]⟩] 27)).alloc (by have := bb.size; simp; omega) (.cells #[.int .i64 8, .int .i64 R, .string ⟨#[]⟩] 27)).alloc (by have := bb.size; simp; omega) (.cells #[.int .i64 2, .int .i64 (tN true), .string ⟨#[]⟩] 27)
    generalize (((w3.alloc (.cells #[.int .i64 9, .int .i64 R, .string ⟨#[]⟩] 27)).alloc (.cells #[.int .i64 8, .int .i64 R, .string ⟨#[]⟩] 27)).alloc (.cells #[.int .i64 2, .int .i64 (tN true), .string ⟨#[]⟩] 27)) = V1 at *
    refine (ref_9 _ _ _).mono ?_
    rintro e w4 ⟨rfl, b4⟩
    have k_o := k_o.below b4 k_o.lt
    have k_s := k_s.below b4 k_s.lt
    have k_t := k_t.below b4 k_t.lt
    have bb := bb.trans (b4.mono bb.size)
    have x_o0 : w4.cell? ⟨w3.heap.size, 0, none⟩ = some (.int .i64 9) := by rw [k_o.cell]; rfl
    have x_o1 : w4.cell? ⟨w3.heap.size, 1, none⟩ = some (.int .i64 R) := by rw [k_o.cell]; rfl
    have x_o2 : w4.cell? ⟨w3.heap.size, 2, none⟩ = some (.string ⟨#[]⟩) := by rw [k_o.cell]; rfl
    have l_o := k_o.lt
    have x_s0 : w4.cell? ⟨w3.heap.size + 1, 0, none⟩ = some (.int .i64 8) := by rw [k_s.cell]; rfl
    have x_s1 : w4.cell? ⟨w3.heap.size + 1, 1, none⟩ = some (.int .i64 R) := by rw [k_s.cell]; rfl
    have x_s2 : w4.cell? ⟨w3.heap.size + 1, 2, none⟩ = some (.string ⟨#[]⟩) := by rw [k_s.cell]; rfl
    have l_s := k_s.lt
    have x_t0 : w4.cell? ⟨w3.heap.size + 1 + 1, 0, none⟩ = some (.int .i64 2) := by rw [k_t.cell]; rfl
    have x_t1 : w4.cell? ⟨w3.heap.size + 1 + 1, 1, none⟩ = some (.int .i64 (tN true)) := by rw [k_t.cell]; rfl
    have x_t2 : w4.cell? ⟨w3.heap.size + 1 + 1, 2, none⟩ = some (.string ⟨#[]⟩) := by rw [k_t.cell]; rfl
    have l_t := k_t.lt
    go_wp2_with fail
    refine (ref_8 _ _ _).mono ?_
    rintro e w5 ⟨rfl, b5⟩
    clear x_o0 x_o1 x_o2 l_o x_s0 x_s1 x_s2 l_s x_t0 x_t1 x_t2 l_t
    have k_o := k_o.below b5 k_o.lt
    have k_s := k_s.below b5 k_s.lt
    have k_t := k_t.below b5 k_t.lt
    have bb := bb.trans (b5.mono bb.size)
    have x_o0 : w5.cell? ⟨w3.heap.size, 0, none⟩ = some (.int .i64 9) := by rw [k_o.cell]; rfl
    have x_o1 : w5.cell? ⟨w3.heap.size, 1, none⟩ = some (.int .i64 R) := by rw [k_o.cell]; rfl
    have x_o2 : w5.cell? ⟨w3.heap.size, 2, none⟩ = some (.string ⟨#[]⟩) := by rw [k_o.cell]; rfl
    have l_o := k_o.lt
    have x_s0 : w5.cell? ⟨w3.heap.size + 1, 0, none⟩ = some (.int .i64 8) := by rw [k_s.cell]; rfl
    have x_s1 : w5.cell? ⟨w3.heap.size + 1, 1, none⟩ = some (.int .i64 R) := by rw [k_s.cell]; rfl
    have x_s2 : w5.cell? ⟨w3.heap.size + 1, 2, none⟩ = some (.string ⟨#[]⟩) := by rw [k_s.cell]; rfl
    have l_s := k_s.lt
    have x_t0 : w5.cell? ⟨w3.heap.size + 1 + 1, 0, none⟩ = some (.int .i64 2) := by rw [k_t.cell]; rfl
    have x_t1 : w5.cell? ⟨w3.heap.size + 1 + 1, 1, none⟩ = some (.int .i64 (tN true)) := by rw [k_t.cell]; rfl
    have x_t2 : w5.cell? ⟨w3.heap.size + 1 + 1, 2, none⟩ = some (.string ⟨#[]⟩) := by rw [k_t.cell]; rfl
    have l_t := k_t.lt
    go_wp2_with fail
    refine (ref_2 _ _ _).mono ?_
    rintro e w6 ⟨rfl, b6⟩
    clear x_o0 x_o1 x_o2 l_o x_s0 x_s1 x_s2 l_s x_t0 x_t1 x_t2 l_t
    have k_o := k_o.below b6 k_o.lt
    have k_s := k_s.below b6 k_s.lt
    have k_t := k_t.below b6 k_t.lt
    have bb := bb.trans (b6.mono bb.size)
    have x_o0 : w6.cell? ⟨w3.heap.size, 0, none⟩ = some (.int .i64 9) := by rw [k_o.cell]; rfl
    have x_o1 : w6.cell? ⟨w3.heap.size, 1, none⟩ = some (.int .i64 R) := by rw [k_o.cell]; rfl
    have x_o2 : w6.cell? ⟨w3.heap.size, 2, none⟩ = some (.string ⟨#[]⟩) := by rw [k_o.cell]; rfl
    have l_o := k_o.lt
    have x_s0 : w6.cell? ⟨w3.heap.size + 1, 0, none⟩ = some (.int .i64 8) := by rw [k_s.cell]; rfl
    have x_s1 : w6.cell? ⟨w3.heap.size + 1, 1, none⟩ = some (.int .i64 R) := by rw [k_s.cell]; rfl
    have x_s2 : w6.cell? ⟨w3.heap.size + 1, 2, none⟩ = some (.string ⟨#[]⟩) := by rw [k_s.cell]; rfl
    have l_s := k_s.lt
    have x_t0 : w6.cell? ⟨w3.heap.size + 1 + 1, 0, none⟩ = some (.int .i64 2) := by rw [k_t.cell]; rfl
    have x_t1 : w6.cell? ⟨w3.heap.size + 1 + 1, 1, none⟩ = some (.int .i64 (tN true)) := by rw [k_t.cell]; rfl
    have x_t2 : w6.cell? ⟨w3.heap.size + 1 + 1, 2, none⟩ = some (.string ⟨#[]⟩) := by rw [k_t.cell]; rfl
    have l_t := k_t.lt
    go_wp2_with fail
    refine (isobj_9 _ _ _).mono ?_
    rintro e w7 ⟨rfl, b7⟩
    clear x_o0 x_o1 x_o2 l_o x_s0 x_s1 x_s2 l_s x_t0 x_t1 x_t2 l_t
    have k_o := k_o.below b7 k_o.lt
    have k_s := k_s.below b7 k_s.lt
    have k_t := k_t.below b7 k_t.lt
    have bb := bb.trans (b7.mono bb.size)
    have x_o0 : w7.cell? ⟨w3.heap.size, 0, none⟩ = some (.int .i64 9) := by rw [k_o.cell]; rfl
    have x_o1 : w7.cell? ⟨w3.heap.size, 1, none⟩ = some (.int .i64 R) := by rw [k_o.cell]; rfl
    have x_o2 : w7.cell? ⟨w3.heap.size, 2, none⟩ = some (.string ⟨#[]⟩) := by rw [k_o.cell]; rfl
    have l_o := k_o.lt
    have x_s0 : w7.cell? ⟨w3.heap.size + 1, 0, none⟩ = some (.int .i64 8) := by rw [k_s.cell]; rfl
    have x_s1 : w7.cell? ⟨w3.heap.size + 1, 1, none⟩ = some (.int .i64 R) := by rw [k_s.cell]; rfl
    have x_s2 : w7.cell? ⟨w3.heap.size + 1, 2, none⟩ = some (.string ⟨#[]⟩) := by rw [k_s.cell]; rfl
    have l_s := k_s.lt
    have x_t0 : w7.cell? ⟨w3.heap.size + 1 + 1, 0, none⟩ = some (.int .i64 2) := by rw [k_t.cell]; rfl
    have x_t1 : w7.cell? ⟨w3.heap.size + 1 + 1, 1, none⟩ = some (.int .i64 (tN true)) := by rw [k_t.cell]; rfl
    have x_t2 : w7.cell? ⟨w3.heap.size + 1 + 1, 2, none⟩ = some (.string ⟨#[]⟩) := by rw [k_t.cell]; rfl
    have l_t := k_t.lt
    go_wp2_with fail
    refine (isobj_8 _ _ _).mono ?_
    rintro e w8 ⟨rfl, b8⟩
    clear x_o0 x_o1 x_o2 l_o x_s0 x_s1 x_s2 l_s x_t0 x_t1 x_t2 l_t
    have k_o := k_o.below b8 k_o.lt
    have k_s := k_s.below b8 k_s.lt
    have k_t := k_t.below b8 k_t.lt
    have bb := bb.trans (b8.mono bb.size)
    have x_o0 : w8.cell? ⟨w3.heap.size, 0, none⟩ = some (.int .i64 9) := by rw [k_o.cell]; rfl
    have x_o1 : w8.cell? ⟨w3.heap.size, 1, none⟩ = some (.int .i64 R) := by rw [k_o.cell]; rfl
    have x_o2 : w8.cell? ⟨w3.heap.size, 2, none⟩ = some (.string ⟨#[]⟩) := by rw [k_o.cell]; rfl
    have l_o := k_o.lt
    have x_s0 : w8.cell? ⟨w3.heap.size + 1, 0, none⟩ = some (.int .i64 8) := by rw [k_s.cell]; rfl
    have x_s1 : w8.cell? ⟨w3.heap.size + 1, 1, none⟩ = some (.int .i64 R) := by rw [k_s.cell]; rfl
    have x_s2 : w8.cell? ⟨w3.heap.size + 1, 2, none⟩ = some (.string ⟨#[]⟩) := by rw [k_s.cell]; rfl
    have l_s := k_s.lt
    have x_t0 : w8.cell? ⟨w3.heap.size + 1 + 1, 0, none⟩ = some (.int .i64 2) := by rw [k_t.cell]; rfl
    have x_t1 : w8.cell? ⟨w3.heap.size + 1 + 1, 1, none⟩ = some (.int .i64 (tN true)) := by rw [k_t.cell]; rfl
    have x_t2 : w8.cell? ⟨w3.heap.size + 1 + 1, 2, none⟩ = some (.string ⟨#[]⟩) := by rw [k_t.cell]; rfl
    have l_t := k_t.lt
    go_wp2_with fail
    refine (true_9 _ _ _).mono ?_
    rintro e w9 ⟨rfl, b9⟩
    clear x_o0 x_o1 x_o2 l_o x_s0 x_s1 x_s2 l_s x_t0 x_t1 x_t2 l_t
    have k_o := k_o.below b9 k_o.lt
    have k_s := k_s.below b9 k_s.lt
    have k_t := k_t.below b9 k_t.lt
    have bb := bb.trans (b9.mono bb.size)
    have x_o0 : w9.cell? ⟨w3.heap.size, 0, none⟩ = some (.int .i64 9) := by rw [k_o.cell]; rfl
    have x_o1 : w9.cell? ⟨w3.heap.size, 1, none⟩ = some (.int .i64 R) := by rw [k_o.cell]; rfl
    have x_o2 : w9.cell? ⟨w3.heap.size, 2, none⟩ = some (.string ⟨#[]⟩) := by rw [k_o.cell]; rfl
    have l_o := k_o.lt
    have x_s0 : w9.cell? ⟨w3.heap.size + 1, 0, none⟩ = some (.int .i64 8) := by rw [k_s.cell]; rfl
    have x_s1 : w9.cell? ⟨w3.heap.size + 1, 1, none⟩ = some (.int .i64 R) := by rw [k_s.cell]; rfl
    have x_s2 : w9.cell? ⟨w3.heap.size + 1, 2, none⟩ = some (.string ⟨#[]⟩) := by rw [k_s.cell]; rfl
    have l_s := k_s.lt
    have x_t0 : w9.cell? ⟨w3.heap.size + 1 + 1, 0, none⟩ = some (.int .i64 2) := by rw [k_t.cell]; rfl
    have x_t1 : w9.cell? ⟨w3.heap.size + 1 + 1, 1, none⟩ = some (.int .i64 (tN true)) := by rw [k_t.cell]; rfl
    have x_t2 : w9.cell? ⟨w3.heap.size + 1 + 1, 2, none⟩ = some (.string ⟨#[]⟩) := by rw [k_t.cell]; rfl
    have l_t := k_t.lt
    go_wp2_with fail
    refine (true_8 _ _ _).mono ?_
    rintro e w10 ⟨rfl, b10⟩
    clear x_o0 x_o1 x_o2 l_o x_s0 x_s1 x_s2 l_s x_t0 x_t1 x_t2 l_t
    have k_o := k_o.below b10 k_o.lt
    have k_s := k_s.below b10 k_s.lt
    have k_t := k_t.below b10 k_t.lt
    have bb := bb.trans (b10.mono bb.size)
    have x_o0 : w10.cell? ⟨w3.heap.size, 0, none⟩ = some (.int .i64 9) := by rw [k_o.cell]; rfl
    have x_o1 : w10.cell? ⟨w3.heap.size, 1, none⟩ = some (.int .i64 R) := by rw [k_o.cell]; rfl
    have x_o2 : w10.cell? ⟨w3.heap.size, 2, none⟩ = some (.string ⟨#[]⟩) := by rw [k_o.cell]; rfl
    have l_o := k_o.lt
    have x_s0 : w10.cell? ⟨w3.heap.size + 1, 0, none⟩ = some (.int .i64 8) := by rw [k_s.cell]; rfl
    have x_s1 : w10.cell? ⟨w3.heap.size + 1, 1, none⟩ = some (.int .i64 R) := by rw [k_s.cell]; rfl
    have x_s2 : w10.cell? ⟨w3.heap.size + 1, 2, none⟩ = some (.string ⟨#[]⟩) := by rw [k_s.cell]; rfl
    have l_s := k_s.lt
    have x_t0 : w10.cell? ⟨w3.heap.size + 1 + 1, 0, none⟩ = some (.int .i64 2) := by rw [k_t.cell]; rfl
    have x_t1 : w10.cell? ⟨w3.heap.size + 1 + 1, 1, none⟩ = some (.int .i64 (tN true)) := by rw [k_t.cell]; rfl
    have x_t2 : w10.cell? ⟨w3.heap.size + 1 + 1, 2, none⟩ = some (.string ⟨#[]⟩) := by rw [k_t.cell]; rfl
    have l_t := k_t.lt
    go_wp2_with fail
    refine (HTT.out _ _).mono ?_
    rintro e w11 ⟨rfl, b11⟩
    clear x_o0 x_o1 x_o2 l_o x_s0 x_s1 x_s2 l_s x_t0 x_t1 x_t2 l_t
    have k_o := k_o.below b11 k_o.lt
    have k_s := k_s.below b11 k_s.lt
    have k_t := k_t.below b11 k_t.lt
    have bb := bb.trans (b11.mono bb.size)
    have x_o0 : w11.cell? ⟨w3.heap.size, 0, none⟩ = some (.int .i64 9) := by rw [k_o.cell]; rfl
    have x_o1 : w11.cell? ⟨w3.heap.size, 1, none⟩ = some (.int .i64 R) := by rw [k_o.cell]; rfl
    have x_o2 : w11.cell? ⟨w3.heap.size, 2, none⟩ = some (.string ⟨#[]⟩) := by rw [k_o.cell]; rfl
    have l_o := k_o.lt
    have x_s0 : w11.cell? ⟨w3.heap.size + 1, 0, none⟩ = some (.int .i64 8) := by rw [k_s.cell]; rfl
    have x_s1 : w11.cell? ⟨w3.heap.size + 1, 1, none⟩ = some (.int .i64 R) := by rw [k_s.cell]; rfl
    have x_s2 : w11.cell? ⟨w3.heap.size + 1, 2, none⟩ = some (.string ⟨#[]⟩) := by rw [k_s.cell]; rfl
    have l_s := k_s.lt
    have x_t0 : w11.cell? ⟨w3.heap.size + 1 + 1, 0, none⟩ = some (.int .i64 2) := by rw [k_t.cell]; rfl
    have x_t1 : w11.cell? ⟨w3.heap.size + 1 + 1, 1, none⟩ = some (.int .i64 (tN true)) := by rw [k_t.cell]; rfl
    have x_t2 : w11.cell? ⟨w3.heap.size + 1 + 1, 2, none⟩ = some (.string ⟨#[]⟩) := by rw [k_t.cell]; rfl
    have l_t := k_t.lt
    go_wp2_with fail
    refine (nullish_0 _ _ _).mono ?_
    rintro e w12 ⟨rfl, b12⟩
    clear x_o0 x_o1 x_o2 l_o x_s0 x_s1 x_s2 l_s x_t0 x_t1 x_t2 l_t
    have k_o := k_o.below b12 k_o.lt
    have k_s := k_s.below b12 k_s.lt
    have k_t := k_t.below b12 k_t.lt
    have bb := bb.trans (b12.mono bb.size)
    have x_o0 : w12.cell? ⟨w3.heap.size, 0, none⟩ = some (.int .i64 9) := by rw [k_o.cell]; rfl
    have x_o1 : w12.cell? ⟨w3.heap.size, 1, none⟩ = some (.int .i64 R) := by rw [k_o.cell]; rfl
    have x_o2 : w12.cell? ⟨w3.heap.size, 2, none⟩ = some (.string ⟨#[]⟩) := by rw [k_o.cell]; rfl
    have l_o := k_o.lt
    have x_s0 : w12.cell? ⟨w3.heap.size + 1, 0, none⟩ = some (.int .i64 8) := by rw [k_s.cell]; rfl
    have x_s1 : w12.cell? ⟨w3.heap.size + 1, 1, none⟩ = some (.int .i64 R) := by rw [k_s.cell]; rfl
    have x_s2 : w12.cell? ⟨w3.heap.size + 1, 2, none⟩ = some (.string ⟨#[]⟩) := by rw [k_s.cell]; rfl
    have l_s := k_s.lt
    have x_t0 : w12.cell? ⟨w3.heap.size + 1 + 1, 0, none⟩ = some (.int .i64 2) := by rw [k_t.cell]; rfl
    have x_t1 : w12.cell? ⟨w3.heap.size + 1 + 1, 1, none⟩ = some (.int .i64 (tN true)) := by rw [k_t.cell]; rfl
    have x_t2 : w12.cell? ⟨w3.heap.size + 1 + 1, 2, none⟩ = some (.string ⟨#[]⟩) := by rw [k_t.cell]; rfl
    have l_t := k_t.lt
    go_wp2_with fail
    refine (nullish_1 _ _ _).mono ?_
    rintro e w13 ⟨rfl, b13⟩
    clear x_o0 x_o1 x_o2 l_o x_s0 x_s1 x_s2 l_s x_t0 x_t1 x_t2 l_t
    have k_o := k_o.below b13 k_o.lt
    have k_s := k_s.below b13 k_s.lt
    have k_t := k_t.below b13 k_t.lt
    have bb := bb.trans (b13.mono bb.size)
    have x_o0 : w13.cell? ⟨w3.heap.size, 0, none⟩ = some (.int .i64 9) := by rw [k_o.cell]; rfl
    have x_o1 : w13.cell? ⟨w3.heap.size, 1, none⟩ = some (.int .i64 R) := by rw [k_o.cell]; rfl
    have x_o2 : w13.cell? ⟨w3.heap.size, 2, none⟩ = some (.string ⟨#[]⟩) := by rw [k_o.cell]; rfl
    have l_o := k_o.lt
    have x_s0 : w13.cell? ⟨w3.heap.size + 1, 0, none⟩ = some (.int .i64 8) := by rw [k_s.cell]; rfl
    have x_s1 : w13.cell? ⟨w3.heap.size + 1, 1, none⟩ = some (.int .i64 R) := by rw [k_s.cell]; rfl
    have x_s2 : w13.cell? ⟨w3.heap.size + 1, 2, none⟩ = some (.string ⟨#[]⟩) := by rw [k_s.cell]; rfl
    have l_s := k_s.lt
    have x_t0 : w13.cell? ⟨w3.heap.size + 1 + 1, 0, none⟩ = some (.int .i64 2) := by rw [k_t.cell]; rfl
    have x_t1 : w13.cell? ⟨w3.heap.size + 1 + 1, 1, none⟩ = some (.int .i64 (tN true)) := by rw [k_t.cell]; rfl
    have x_t2 : w13.cell? ⟨w3.heap.size + 1 + 1, 2, none⟩ = some (.string ⟨#[]⟩) := by rw [k_t.cell]; rfl
    have l_t := k_t.lt
    go_wp2_with fail
    refine (nullish_9 _ _ _).mono ?_
    rintro e w14 ⟨rfl, b14⟩
    clear x_o0 x_o1 x_o2 l_o x_s0 x_s1 x_s2 l_s x_t0 x_t1 x_t2 l_t
    have k_o := k_o.below b14 k_o.lt
    have k_s := k_s.below b14 k_s.lt
    have k_t := k_t.below b14 k_t.lt
    have bb := bb.trans (b14.mono bb.size)
    have x_o0 : w14.cell? ⟨w3.heap.size, 0, none⟩ = some (.int .i64 9) := by rw [k_o.cell]; rfl
    have x_o1 : w14.cell? ⟨w3.heap.size, 1, none⟩ = some (.int .i64 R) := by rw [k_o.cell]; rfl
    have x_o2 : w14.cell? ⟨w3.heap.size, 2, none⟩ = some (.string ⟨#[]⟩) := by rw [k_o.cell]; rfl
    have l_o := k_o.lt
    have x_s0 : w14.cell? ⟨w3.heap.size + 1, 0, none⟩ = some (.int .i64 8) := by rw [k_s.cell]; rfl
    have x_s1 : w14.cell? ⟨w3.heap.size + 1, 1, none⟩ = some (.int .i64 R) := by rw [k_s.cell]; rfl
    have x_s2 : w14.cell? ⟨w3.heap.size + 1, 2, none⟩ = some (.string ⟨#[]⟩) := by rw [k_s.cell]; rfl
    have l_s := k_s.lt
    have x_t0 : w14.cell? ⟨w3.heap.size + 1 + 1, 0, none⟩ = some (.int .i64 2) := by rw [k_t.cell]; rfl
    have x_t1 : w14.cell? ⟨w3.heap.size + 1 + 1, 1, none⟩ = some (.int .i64 (tN true)) := by rw [k_t.cell]; rfl
    have x_t2 : w14.cell? ⟨w3.heap.size + 1 + 1, 2, none⟩ = some (.string ⟨#[]⟩) := by rw [k_t.cell]; rfl
    have l_t := k_t.lt
    go_wp2_with fail
    refine (nullish_2 _ _ _).mono ?_
    rintro e w15 ⟨rfl, b15⟩
    clear x_o0 x_o1 x_o2 l_o x_s0 x_s1 x_s2 l_s x_t0 x_t1 x_t2 l_t
    have k_o := k_o.below b15 k_o.lt
    have k_s := k_s.below b15 k_s.lt
    have k_t := k_t.below b15 k_t.lt
    have bb := bb.trans (b15.mono bb.size)
    have x_o0 : w15.cell? ⟨w3.heap.size, 0, none⟩ = some (.int .i64 9) := by rw [k_o.cell]; rfl
    have x_o1 : w15.cell? ⟨w3.heap.size, 1, none⟩ = some (.int .i64 R) := by rw [k_o.cell]; rfl
    have x_o2 : w15.cell? ⟨w3.heap.size, 2, none⟩ = some (.string ⟨#[]⟩) := by rw [k_o.cell]; rfl
    have l_o := k_o.lt
    have x_s0 : w15.cell? ⟨w3.heap.size + 1, 0, none⟩ = some (.int .i64 8) := by rw [k_s.cell]; rfl
    have x_s1 : w15.cell? ⟨w3.heap.size + 1, 1, none⟩ = some (.int .i64 R) := by rw [k_s.cell]; rfl
    have x_s2 : w15.cell? ⟨w3.heap.size + 1, 2, none⟩ = some (.string ⟨#[]⟩) := by rw [k_s.cell]; rfl
    have l_s := k_s.lt
    have x_t0 : w15.cell? ⟨w3.heap.size + 1 + 1, 0, none⟩ = some (.int .i64 2) := by rw [k_t.cell]; rfl
    have x_t1 : w15.cell? ⟨w3.heap.size + 1 + 1, 1, none⟩ = some (.int .i64 (tN true)) := by rw [k_t.cell]; rfl
    have x_t2 : w15.cell? ⟨w3.heap.size + 1 + 1, 2, none⟩ = some (.string ⟨#[]⟩) := by rw [k_t.cell]; rfl
    have l_t := k_t.lt
    go_wp2_with fail
    go_ret
    exact ⟨by simp, bb⟩
end Go.Proofs.YtjkboelcpihphaaDoor
