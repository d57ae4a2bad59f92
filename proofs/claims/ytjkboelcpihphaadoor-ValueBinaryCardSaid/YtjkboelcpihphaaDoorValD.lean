/- Contracts of value.compare, operator by operator, given those of what they call. -/
import Derived.Test.YtjkboelcpihphaaDoorValC
set_option linter.unusedVariables false
set_option linter.unusedSimpArgs false
namespace Go.Proofs.YtjkboelcpihphaaDoor
open Go.RowKit
variable (k n : Int) (s : ByteArray) (k' n' : Int) (s' : ByteArray)

set_option maxHeartbeats 4000000 in
set_option maxRecDepth 100000 in
theorem cmp_s_lt (w : World) (c : Int) (C1 : ∀ W, Calls Tryd.prog 52 #[.string s, .string s'] W fun e w' => e = .returned (.int .i64 c) ∧ W = w') : Calls Tryd.prog 36 #[.string ⟨#[60]⟩, VS 7 n s, VS 7 n' s'] w (Ret (.tuple #[VS 2 (tN (decide (c < 0))) ⟨#[]⟩, .int .i64 0]) w) := by
  have H1 := Lib.hid C1
  clear C1
  by_cases hr : c < 0
  case pos =>
    have t1 : decide (c < 0) = true := by simpa using hr
    rw [t1]
    have HT := Lib.hid (fun W => truth_any true W)
    go_enter Tryd.func36, Tryd.ntmps36
    go_wp2_with fail
    have k_a := ((Blk.new w 27 #[.int .i64 7, .int .i64 n, .string s]).alloc (.cells #[.int .i64 7, .int .i64 (n'), .string (s')] 27)).alloc (.cells #[.int .i64 0, .int .i64 0, .string ⟨#[]⟩] 27)
    have k_b := (Blk.new (w.alloc (.cells #[.int .i64 7, .int .i64 n, .string s] 27)) 27 #[.int .i64 7, .int .i64 (n'), .string (s')]).alloc (.cells #[.int .i64 0, .int .i64 0, .string ⟨#[]⟩] 27)
    rw [World.size_alloc] at k_b
    have k_r := Blk.new ((w.alloc (.cells #[.int .i64 7, .int .i64 n, .string s] 27)).alloc (.cells #[.int .i64 7, .int .i64 (n'), .string (s')] 27)) 27 #[.int .i64 0, .int .i64 0, .string ⟨#[]⟩]
    rw [World.size_alloc, World.size_alloc] at k_r
    have bb : Below w.heap.size w _ := ((((Below.refl _ _).alloc (Nat.le_refl _) (.cells #[.int .i64 7, .int .i64 n, .string s] 27)).alloc (by simp) (.cells #[.int .i64 7, .int .i64 (n'), .string (s')] 27)).alloc (by simp; omega) (.cells #[.int .i64 0, .int .i64 0, .string ⟨#[]⟩] 27))
    generalize (((w.alloc (.cells #[.int .i64 7, .int .i64 n, .string s] 27)).alloc (.cells #[.int .i64 7, .int .i64 (n'), .string (s')] 27)).alloc (.cells #[.int .i64 0, .int .i64 0, .string ⟨#[]⟩] 27)) = W0 at *
    refine (H1.out _).mono ?_
    rintro e w1 ⟨rfl, rfl⟩
    go_wp2_with fail
    refine (HT.out _).mono ?_
    rintro e w2 ⟨rfl, b2⟩
    have k_a := k_a.below b2 k_a.lt
    have k_b := k_b.below b2 k_b.lt
    have k_r := k_r.below b2 k_r.lt
    have bb := bb.trans (b2.mono bb.size)
    have x_a0 : w2.cell? ⟨w.heap.size, 0, none⟩ = some (.int .i64 7) := by rw [k_a.cell]; rfl
    have x_a1 : w2.cell? ⟨w.heap.size, 1, none⟩ = some (.int .i64 n) := by rw [k_a.cell]; rfl
    have x_a2 : w2.cell? ⟨w.heap.size, 2, none⟩ = some (.string s) := by rw [k_a.cell]; rfl
    have l_a := k_a.lt
    have x_b0 : w2.cell? ⟨w.heap.size + 1, 0, none⟩ = some (.int .i64 7) := by rw [k_b.cell]; rfl
    have x_b1 : w2.cell? ⟨w.heap.size + 1, 1, none⟩ = some (.int .i64 (n')) := by rw [k_b.cell]; rfl
    have x_b2 : w2.cell? ⟨w.heap.size + 1, 2, none⟩ = some (.string (s')) := by rw [k_b.cell]; rfl
    have l_b := k_b.lt
    have x_r0 : w2.cell? ⟨w.heap.size + 1 + 1, 0, none⟩ = some (.int .i64 0) := by rw [k_r.cell]; rfl
    have x_r1 : w2.cell? ⟨w.heap.size + 1 + 1, 1, none⟩ = some (.int .i64 0) := by rw [k_r.cell]; rfl
    have x_r2 : w2.cell? ⟨w.heap.size + 1 + 1, 2, none⟩ = some (.string ⟨#[]⟩) := by rw [k_r.cell]; rfl
    have l_r := k_r.lt
    have z_r0 := k_r.frozen 0
    have z_r1 := k_r.frozen 1
    have z_r2 := k_r.frozen 2
    go_wp2
    exact bodyPost_ret (v := .tuple #[VS 2 (tN true) ⟨#[]⟩, .int .i64 0]) (by simp [results, Tryd.results36, go_sem, x_r0, x_r1, x_r2, l_r]) rfl ⟨rfl, (((bb).setCell (p := ⟨w.heap.size + 1 + 1, 0, none⟩) (by first | exact Nat.le_refl _ | (simp; done) | (simp; omega) | omega) _).setCell (p := ⟨w.heap.size + 1 + 1, 1, none⟩) (by first | exact Nat.le_refl _ | (simp; done) | (simp; omega) | omega) _).setCell (p := ⟨w.heap.size + 1 + 1, 2, none⟩) (by first | exact Nat.le_refl _ | (simp; done) | (simp; omega) | omega) _⟩
  case neg =>
    have t1 : decide (c < 0) = false := by simpa using hr
    rw [t1]
    have HT := Lib.hid (fun W => truth_any false W)
    go_enter Tryd.func36, Tryd.ntmps36
    go_wp2_with fail
    have k_a := ((Blk.new w 27 #[.int .i64 7, .int .i64 n, .string s]).alloc (.cells #[.int .i64 7, .int .i64 (n'), .string (s')] 27)).alloc (.cells #[.int .i64 0, .int .i64 0, .string ⟨#[]⟩] 27)
    have k_b := (Blk.new (w.alloc (.cells #[.int .i64 7, .int .i64 n, .string s] 27)) 27 #[.int .i64 7, .int .i64 (n'), .string (s')]).alloc (.cells #[.int .i64 0, .int .i64 0, .string ⟨#[]⟩] 27)
    rw [World.size_alloc] at k_b
    have k_r := Blk.new ((w.alloc (.cells #[.int .i64 7, .int .i64 n, .string s] 27)).alloc (.cells #[.int .i64 7, .int .i64 (n'), .string (s')] 27)) 27 #[.int .i64 0, .int .i64 0, .string ⟨#[]⟩]
    rw [World.size_alloc, World.size_alloc] at k_r
    have bb : Below w.heap.size w _ := ((((Below.refl _ _).alloc (Nat.le_refl _) (.cells #[.int .i64 7, .int .i64 n, .string s] 27)).alloc (by simp) (.cells #[.int .i64 7, .int .i64 (n'), .string (s')] 27)).alloc (by simp; omega) (.cells #[.int .i64 0, .int .i64 0, .string ⟨#[]⟩] 27))
    generalize (((w.alloc (.cells #[.int .i64 7, .int .i64 n, .string s] 27)).alloc (.cells #[.int .i64 7, .int .i64 (n'), .string (s')] 27)).alloc (.cells #[.int .i64 0, .int .i64 0, .string ⟨#[]⟩] 27)) = W0 at *
    refine (H1.out _).mono ?_
    rintro e w1 ⟨rfl, rfl⟩
    go_wp2_with fail
    refine (HT.out _).mono ?_
    rintro e w2 ⟨rfl, b2⟩
    have k_a := k_a.below b2 k_a.lt
    have k_b := k_b.below b2 k_b.lt
    have k_r := k_r.below b2 k_r.lt
    have bb := bb.trans (b2.mono bb.size)
    have x_a0 : w2.cell? ⟨w.heap.size, 0, none⟩ = some (.int .i64 7) := by rw [k_a.cell]; rfl
    have x_a1 : w2.cell? ⟨w.heap.size, 1, none⟩ = some (.int .i64 n) := by rw [k_a.cell]; rfl
    have x_a2 : w2.cell? ⟨w.heap.size, 2, none⟩ = some (.string s) := by rw [k_a.cell]; rfl
    have l_a := k_a.lt
    have x_b0 : w2.cell? ⟨w.heap.size + 1, 0, none⟩ = some (.int .i64 7) := by rw [k_b.cell]; rfl
    have x_b1 : w2.cell? ⟨w.heap.size + 1, 1, none⟩ = some (.int .i64 (n')) := by rw [k_b.cell]; rfl
    have x_b2 : w2.cell? ⟨w.heap.size + 1, 2, none⟩ = some (.string (s')) := by rw [k_b.cell]; rfl
    have l_b := k_b.lt
    have x_r0 : w2.cell? ⟨w.heap.size + 1 + 1, 0, none⟩ = some (.int .i64 0) := by rw [k_r.cell]; rfl
    have x_r1 : w2.cell? ⟨w.heap.size + 1 + 1, 1, none⟩ = some (.int .i64 0) := by rw [k_r.cell]; rfl
    have x_r2 : w2.cell? ⟨w.heap.size + 1 + 1, 2, none⟩ = some (.string ⟨#[]⟩) := by rw [k_r.cell]; rfl
    have l_r := k_r.lt
    have z_r0 := k_r.frozen 0
    have z_r1 := k_r.frozen 1
    have z_r2 := k_r.frozen 2
    go_wp2
    exact bodyPost_ret (v := .tuple #[VS 2 (tN false) ⟨#[]⟩, .int .i64 0]) (by simp [results, Tryd.results36, go_sem, x_r0, x_r1, x_r2, l_r]) rfl ⟨rfl, (((bb).setCell (p := ⟨w.heap.size + 1 + 1, 0, none⟩) (by first | exact Nat.le_refl _ | (simp; done) | (simp; omega) | omega) _).setCell (p := ⟨w.heap.size + 1 + 1, 1, none⟩) (by first | exact Nat.le_refl _ | (simp; done) | (simp; omega) | omega) _).setCell (p := ⟨w.heap.size + 1 + 1, 2, none⟩) (by first | exact Nat.le_refl _ | (simp; done) | (simp; omega) | omega) _⟩
set_option maxHeartbeats 4000000 in
set_option maxRecDepth 100000 in
theorem cmp_s_gt (w : World) (c : Int) (C1 : ∀ W, Calls Tryd.prog 52 #[.string s, .string s'] W fun e w' => e = .returned (.int .i64 c) ∧ W = w') : Calls Tryd.prog 36 #[.string ⟨#[62]⟩, VS 7 n s, VS 7 n' s'] w (Ret (.tuple #[VS 2 (tN (decide (0 < c))) ⟨#[]⟩, .int .i64 0]) w) := by
  have H1 := Lib.hid C1
  clear C1
  by_cases hr : 0 < c
  case pos =>
    have t1 : decide (0 < c) = true := by simpa using hr
    rw [t1]
    have HT := Lib.hid (fun W => truth_any true W)
    go_enter Tryd.func36, Tryd.ntmps36
    go_wp2_with fail
    have k_a := ((Blk.new w 27 #[.int .i64 7, .int .i64 n, .string s]).alloc (.cells #[.int .i64 7, .int .i64 (n'), .string (s')] 27)).alloc (.cells #[.int .i64 0, .int .i64 0, .string ⟨#[]⟩] 27)
    have k_b := (Blk.new (w.alloc (.cells #[.int .i64 7, .int .i64 n, .string s] 27)) 27 #[.int .i64 7, .int .i64 (n'), .string (s')]).alloc (.cells #[.int .i64 0, .int .i64 0, .string ⟨#[]⟩] 27)
    rw [World.size_alloc] at k_b
    have k_r := Blk.new ((w.alloc (.cells #[.int .i64 7, .int .i64 n, .string s] 27)).alloc (.cells #[.int .i64 7, .int .i64 (n'), .string (s')] 27)) 27 #[.int .i64 0, .int .i64 0, .string ⟨#[]⟩]
    rw [World.size_alloc, World.size_alloc] at k_r
    have bb : Below w.heap.size w _ := ((((Below.refl _ _).alloc (Nat.le_refl _) (.cells #[.int .i64 7, .int .i64 n, .string s] 27)).alloc (by simp) (.cells #[.int .i64 7, .int .i64 (n'), .string (s')] 27)).alloc (by simp; omega) (.cells #[.int .i64 0, .int .i64 0, .string ⟨#[]⟩] 27))
    generalize (((w.alloc (.cells #[.int .i64 7, .int .i64 n, .string s] 27)).alloc (.cells #[.int .i64 7, .int .i64 (n'), .string (s')] 27)).alloc (.cells #[.int .i64 0, .int .i64 0, .string ⟨#[]⟩] 27)) = W0 at *
    refine (H1.out _).mono ?_
    rintro e w1 ⟨rfl, rfl⟩
    go_wp2_with fail
    refine (HT.out _).mono ?_
    rintro e w2 ⟨rfl, b2⟩
    have k_a := k_a.below b2 k_a.lt
    have k_b := k_b.below b2 k_b.lt
    have k_r := k_r.below b2 k_r.lt
    have bb := bb.trans (b2.mono bb.size)
    have x_a0 : w2.cell? ⟨w.heap.size, 0, none⟩ = some (.int .i64 7) := by rw [k_a.cell]; rfl
    have x_a1 : w2.cell? ⟨w.heap.size, 1, none⟩ = some (.int .i64 n) := by rw [k_a.cell]; rfl
    have x_a2 : w2.cell? ⟨w.heap.size, 2, none⟩ = some (.string s) := by rw [k_a.cell]; rfl
    have l_a := k_a.lt
    have x_b0 : w2.cell? ⟨w.heap.size + 1, 0, none⟩ = some (.int .i64 7) := by rw [k_b.cell]; rfl
    have x_b1 : w2.cell? ⟨w.heap.size + 1, 1, none⟩ = some (.int .i64 (n')) := by rw [k_b.cell]; rfl
    have x_b2 : w2.cell? ⟨w.heap.size + 1, 2, none⟩ = some (.string (s')) := by rw [k_b.cell]; rfl
    have l_b := k_b.lt
    have x_r0 : w2.cell? ⟨w.heap.size + 1 + 1, 0, none⟩ = some (.int .i64 0) := by rw [k_r.cell]; rfl
    have x_r1 : w2.cell? ⟨w.heap.size + 1 + 1, 1, none⟩ = some (.int .i64 0) := by rw [k_r.cell]; rfl
    have x_r2 : w2.cell? ⟨w.heap.size + 1 + 1, 2, none⟩ = some (.string ⟨#[]⟩) := by rw [k_r.cell]; rfl
    have l_r := k_r.lt
    have z_r0 := k_r.frozen 0
    have z_r1 := k_r.frozen 1
    have z_r2 := k_r.frozen 2
    go_wp2
    exact bodyPost_ret (v := .tuple #[VS 2 (tN true) ⟨#[]⟩, .int .i64 0]) (by simp [results, Tryd.results36, go_sem, x_r0, x_r1, x_r2, l_r]) rfl ⟨rfl, (((bb).setCell (p := ⟨w.heap.size + 1 + 1, 0, none⟩) (by first | exact Nat.le_refl _ | (simp; done) | (simp; omega) | omega) _).setCell (p := ⟨w.heap.size + 1 + 1, 1, none⟩) (by first | exact Nat.le_refl _ | (simp; done) | (simp; omega) | omega) _).setCell (p := ⟨w.heap.size + 1 + 1, 2, none⟩) (by first | exact Nat.le_refl _ | (simp; done) | (simp; omega) | omega) _⟩
  case neg =>
    have t1 : decide (0 < c) = false := by simpa using hr
    rw [t1]
    have HT := Lib.hid (fun W => truth_any false W)
    go_enter Tryd.func36, Tryd.ntmps36
    go_wp2_with fail
    have k_a := ((Blk.new w 27 #[.int .i64 7, .int .i64 n, .string s]).alloc (.cells #[.int .i64 7, .int .i64 (n'), .string (s')] 27)).alloc (.cells #[.int .i64 0, .int .i64 0, .string ⟨#[]⟩] 27)
    have k_b := (Blk.new (w.alloc (.cells #[.int .i64 7, .int .i64 n, .string s] 27)) 27 #[.int .i64 7, .int .i64 (n'), .string (s')]).alloc (.cells #[.int .i64 0, .int .i64 0, .string ⟨#[]⟩] 27)
    rw [World.size_alloc] at k_b
    have k_r := Blk.new ((w.alloc (.cells #[.int .i64 7, .int .i64 n, .string s] 27)).alloc (.cells #[.int .i64 7, .int .i64 (n'), .string (s')] 27)) 27 #[.int .i64 0, .int .i64 0, .string ⟨#[]⟩]
    rw [World.size_alloc, World.size_alloc] at k_r
    have bb : Below w.heap.size w _ := ((((Below.refl _ _).alloc (Nat.le_refl _) (.cells #[.int .i64 7, .int .i64 n, .string s] 27)).alloc (by simp) (.cells #[.int .i64 7, .int .i64 (n'), .string (s')] 27)).alloc (by simp; omega) (.cells #[.int .i64 0, .int .i64 0, .string ⟨#[]⟩] 27))
    generalize (((w.alloc (.cells #[.int .i64 7, .int .i64 n, .string s] 27)).alloc (.cells #[.int .i64 7, .int .i64 (n'), .string (s')] 27)).alloc (.cells #[.int .i64 0, .int .i64 0, .string ⟨#[]⟩] 27)) = W0 at *
    refine (H1.out _).mono ?_
    rintro e w1 ⟨rfl, rfl⟩
    go_wp2_with fail
    refine (HT.out _).mono ?_
    rintro e w2 ⟨rfl, b2⟩
    have k_a := k_a.below b2 k_a.lt
    have k_b := k_b.below b2 k_b.lt
    have k_r := k_r.below b2 k_r.lt
    have bb := bb.trans (b2.mono bb.size)
    have x_a0 : w2.cell? ⟨w.heap.size, 0, none⟩ = some (.int .i64 7) := by rw [k_a.cell]; rfl
    have x_a1 : w2.cell? ⟨w.heap.size, 1, none⟩ = some (.int .i64 n) := by rw [k_a.cell]; rfl
    have x_a2 : w2.cell? ⟨w.heap.size, 2, none⟩ = some (.string s) := by rw [k_a.cell]; rfl
    have l_a := k_a.lt
    have x_b0 : w2.cell? ⟨w.heap.size + 1, 0, none⟩ = some (.int .i64 7) := by rw [k_b.cell]; rfl
    have x_b1 : w2.cell? ⟨w.heap.size + 1, 1, none⟩ = some (.int .i64 (n')) := by rw [k_b.cell]; rfl
    have x_b2 : w2.cell? ⟨w.heap.size + 1, 2, none⟩ = some (.string (s')) := by rw [k_b.cell]; rfl
    have l_b := k_b.lt
    have x_r0 : w2.cell? ⟨w.heap.size + 1 + 1, 0, none⟩ = some (.int .i64 0) := by rw [k_r.cell]; rfl
    have x_r1 : w2.cell? ⟨w.heap.size + 1 + 1, 1, none⟩ = some (.int .i64 0) := by rw [k_r.cell]; rfl
    have x_r2 : w2.cell? ⟨w.heap.size + 1 + 1, 2, none⟩ = some (.string ⟨#[]⟩) := by rw [k_r.cell]; rfl
    have l_r := k_r.lt
    have z_r0 := k_r.frozen 0
    have z_r1 := k_r.frozen 1
    have z_r2 := k_r.frozen 2
    go_wp2
    exact bodyPost_ret (v := .tuple #[VS 2 (tN false) ⟨#[]⟩, .int .i64 0]) (by simp [results, Tryd.results36, go_sem, x_r0, x_r1, x_r2, l_r]) rfl ⟨rfl, (((bb).setCell (p := ⟨w.heap.size + 1 + 1, 0, none⟩) (by first | exact Nat.le_refl _ | (simp; done) | (simp; omega) | omega) _).setCell (p := ⟨w.heap.size + 1 + 1, 1, none⟩) (by first | exact Nat.le_refl _ | (simp; done) | (simp; omega) | omega) _).setCell (p := ⟨w.heap.size + 1 + 1, 2, none⟩) (by first | exact Nat.le_refl _ | (simp; done) | (simp; omega) | omega) _⟩
set_option maxHeartbeats 4000000 in
set_option maxRecDepth 100000 in
theorem cmp_s_le (w : World) (c : Int) (C1 : ∀ W, Calls Tryd.prog 52 #[.string s, .string s'] W fun e w' => e = .returned (.int .i64 c) ∧ W = w') : Calls Tryd.prog 36 #[.string ⟨#[60, 61]⟩, VS 7 n s, VS 7 n' s'] w (Ret (.tuple #[VS 2 (tN (decide (c ≤ 0))) ⟨#[]⟩, .int .i64 0]) w) := by
  have H1 := Lib.hid C1
  clear C1
  by_cases hr : c ≤ 0
  case pos =>
    have t1 : decide (c ≤ 0) = true := by simpa using hr
    rw [t1]
    have HT := Lib.hid (fun W => truth_any true W)
    go_enter Tryd.func36, Tryd.ntmps36
    go_wp2_with fail
    have k_a := ((Blk.new w 27 #[.int .i64 7, .int .i64 n, .string s]).alloc (.cells #[.int .i64 7, .int .i64 (n'), .string (s')] 27)).alloc (.cells #[.int .i64 0, .int .i64 0, .string ⟨#[]⟩] 27)
    have k_b := (Blk.new (w.alloc (.cells #[.int .i64 7, .int .i64 n, .string s] 27)) 27 #[.int .i64 7, .int .i64 (n'), .string (s')]).alloc (.cells #[.int .i64 0, .int .i64 0, .string ⟨#[]⟩] 27)
    rw [World.size_alloc] at k_b
    have k_r := Blk.new ((w.alloc (.cells #[.int .i64 7, .int .i64 n, .string s] 27)).alloc (.cells #[.int .i64 7, .int .i64 (n'), .string (s')] 27)) 27 #[.int .i64 0, .int .i64 0, .string ⟨#[]⟩]
    rw [World.size_alloc, World.size_alloc] at k_r
    have bb : Below w.heap.size w _ := ((((Below.refl _ _).alloc (Nat.le_refl _) (.cells #[.int .i64 7, .int .i64 n, .string s] 27)).alloc (by simp) (.cells #[.int .i64 7, .int .i64 (n'), .string (s')] 27)).alloc (by simp; omega) (.cells #[.int .i64 0, .int .i64 0, .string ⟨#[]⟩] 27))
    generalize (((w.alloc (.cells #[.int .i64 7, .int .i64 n, .string s] 27)).alloc (.cells #[.int .i64 7, .int .i64 (n'), .string (s')] 27)).alloc (.cells #[.int .i64 0, .int .i64 0, .string ⟨#[]⟩] 27)) = W0 at *
    refine (H1.out _).mono ?_
    rintro e w1 ⟨rfl, rfl⟩
    go_wp2_with fail
    refine (HT.out _).mono ?_
    rintro e w2 ⟨rfl, b2⟩
    have k_a := k_a.below b2 k_a.lt
    have k_b := k_b.below b2 k_b.lt
    have k_r := k_r.below b2 k_r.lt
    have bb := bb.trans (b2.mono bb.size)
    have x_a0 : w2.cell? ⟨w.heap.size, 0, none⟩ = some (.int .i64 7) := by rw [k_a.cell]; rfl
    have x_a1 : w2.cell? ⟨w.heap.size, 1, none⟩ = some (.int .i64 n) := by rw [k_a.cell]; rfl
    have x_a2 : w2.cell? ⟨w.heap.size, 2, none⟩ = some (.string s) := by rw [k_a.cell]; rfl
    have l_a := k_a.lt
    have x_b0 : w2.cell? ⟨w.heap.size + 1, 0, none⟩ = some (.int .i64 7) := by rw [k_b.cell]; rfl
    have x_b1 : w2.cell? ⟨w.heap.size + 1, 1, none⟩ = some (.int .i64 (n')) := by rw [k_b.cell]; rfl
    have x_b2 : w2.cell? ⟨w.heap.size + 1, 2, none⟩ = some (.string (s')) := by rw [k_b.cell]; rfl
    have l_b := k_b.lt
    have x_r0 : w2.cell? ⟨w.heap.size + 1 + 1, 0, none⟩ = some (.int .i64 0) := by rw [k_r.cell]; rfl
    have x_r1 : w2.cell? ⟨w.heap.size + 1 + 1, 1, none⟩ = some (.int .i64 0) := by rw [k_r.cell]; rfl
    have x_r2 : w2.cell? ⟨w.heap.size + 1 + 1, 2, none⟩ = some (.string ⟨#[]⟩) := by rw [k_r.cell]; rfl
    have l_r := k_r.lt
    have z_r0 := k_r.frozen 0
    have z_r1 := k_r.frozen 1
    have z_r2 := k_r.frozen 2
    go_wp2
    exact bodyPost_ret (v := .tuple #[VS 2 (tN true) ⟨#[]⟩, .int .i64 0]) (by simp [results, Tryd.results36, go_sem, x_r0, x_r1, x_r2, l_r]) rfl ⟨rfl, (((bb).setCell (p := ⟨w.heap.size + 1 + 1, 0, none⟩) (by first | exact Nat.le_refl _ | (simp; done) | (simp; omega) | omega) _).setCell (p := ⟨w.heap.size + 1 + 1, 1, none⟩) (by first | exact Nat.le_refl _ | (simp; done) | (simp; omega) | omega) _).setCell (p := ⟨w.heap.size + 1 + 1, 2, none⟩) (by first | exact Nat.le_refl _ | (simp; done) | (simp; omega) | omega) _⟩
  case neg =>
    have t1 : decide (c ≤ 0) = false := by simpa using hr
    rw [t1]
    have HT := Lib.hid (fun W => truth_any false W)
    go_enter Tryd.func36, Tryd.ntmps36
    go_wp2_with fail
    have k_a := ((Blk.new w 27 #[.int .i64 7, .int .i64 n, .string s]).alloc (.cells #[.int .i64 7, .int .i64 (n'), .string (s')] 27)).alloc (.cells #[.int .i64 0, .int .i64 0, .string ⟨#[]⟩] 27)
    have k_b := (Blk.new (w.alloc (.cells #[.int .i64 7, .int .i64 n, .string s] 27)) 27 #[.int .i64 7, .int .i64 (n'), .string (s')]).alloc (.cells #[.int .i64 0, .int .i64 0, .string ⟨#[]⟩] 27)
    rw [World.size_alloc] at k_b
    have k_r := Blk.new ((w.alloc (.cells #[.int .i64 7, .int .i64 n, .string s] 27)).alloc (.cells #[.int .i64 7, .int .i64 (n'), .string (s')] 27)) 27 #[.int .i64 0, .int .i64 0, .string ⟨#[]⟩]
    rw [World.size_alloc, World.size_alloc] at k_r
    have bb : Below w.heap.size w _ := ((((Below.refl _ _).alloc (Nat.le_refl _) (.cells #[.int .i64 7, .int .i64 n, .string s] 27)).alloc (by simp) (.cells #[.int .i64 7, .int .i64 (n'), .string (s')] 27)).alloc (by simp; omega) (.cells #[.int .i64 0, .int .i64 0, .string ⟨#[]⟩] 27))
    generalize (((w.alloc (.cells #[.int .i64 7, .int .i64 n, .string s] 27)).alloc (.cells #[.int .i64 7, .int .i64 (n'), .string (s')] 27)).alloc (.cells #[.int .i64 0, .int .i64 0, .string ⟨#[]⟩] 27)) = W0 at *
    refine (H1.out _).mono ?_
    rintro e w1 ⟨rfl, rfl⟩
    go_wp2_with fail
    refine (HT.out _).mono ?_
    rintro e w2 ⟨rfl, b2⟩
    have k_a := k_a.below b2 k_a.lt
    have k_b := k_b.below b2 k_b.lt
    have k_r := k_r.below b2 k_r.lt
    have bb := bb.trans (b2.mono bb.size)
    have x_a0 : w2.cell? ⟨w.heap.size, 0, none⟩ = some (.int .i64 7) := by rw [k_a.cell]; rfl
    have x_a1 : w2.cell? ⟨w.heap.size, 1, none⟩ = some (.int .i64 n) := by rw [k_a.cell]; rfl
    have x_a2 : w2.cell? ⟨w.heap.size, 2, none⟩ = some (.string s) := by rw [k_a.cell]; rfl
    have l_a := k_a.lt
    have x_b0 : w2.cell? ⟨w.heap.size + 1, 0, none⟩ = some (.int .i64 7) := by rw [k_b.cell]; rfl
    have x_b1 : w2.cell? ⟨w.heap.size + 1, 1, none⟩ = some (.int .i64 (n')) := by rw [k_b.cell]; rfl
    have x_b2 : w2.cell? ⟨w.heap.size + 1, 2, none⟩ = some (.string (s')) := by rw [k_b.cell]; rfl
    have l_b := k_b.lt
    have x_r0 : w2.cell? ⟨w.heap.size + 1 + 1, 0, none⟩ = some (.int .i64 0) := by rw [k_r.cell]; rfl
    have x_r1 : w2.cell? ⟨w.heap.size + 1 + 1, 1, none⟩ = some (.int .i64 0) := by rw [k_r.cell]; rfl
    have x_r2 : w2.cell? ⟨w.heap.size + 1 + 1, 2, none⟩ = some (.string ⟨#[]⟩) := by rw [k_r.cell]; rfl
    have l_r := k_r.lt
    have z_r0 := k_r.frozen 0
    have z_r1 := k_r.frozen 1
    have z_r2 := k_r.frozen 2
    go_wp2
    exact bodyPost_ret (v := .tuple #[VS 2 (tN false) ⟨#[]⟩, .int .i64 0]) (by simp [results, Tryd.results36, go_sem, x_r0, x_r1, x_r2, l_r]) rfl ⟨rfl, (((bb).setCell (p := ⟨w.heap.size + 1 + 1, 0, none⟩) (by first | exact Nat.le_refl _ | (simp; done) | (simp; omega) | omega) _).setCell (p := ⟨w.heap.size + 1 + 1, 1, none⟩) (by first | exact Nat.le_refl _ | (simp; done) | (simp; omega) | omega) _).setCell (p := ⟨w.heap.size + 1 + 1, 2, none⟩) (by first | exact Nat.le_refl _ | (simp; done) | (simp; omega) | omega) _⟩
set_option maxHeartbeats 4000000 in
set_option maxRecDepth 100000 in
theorem cmp_s_ge (w : World) (c : Int) (C1 : ∀ W, Calls Tryd.prog 52 #[.string s, .string s'] W fun e w' => e = .returned (.int .i64 c) ∧ W = w') : Calls Tryd.prog 36 #[.string ⟨#[62, 61]⟩, VS 7 n s, VS 7 n' s'] w (Ret (.tuple #[VS 2 (tN (decide (0 ≤ c))) ⟨#[]⟩, .int .i64 0]) w) := by
  have H1 := Lib.hid C1
  clear C1
  by_cases hr : 0 ≤ c
  case pos =>
    have t1 : decide (0 ≤ c) = true := by simpa using hr
    rw [t1]
    have HT := Lib.hid (fun W => truth_any true W)
    go_enter Tryd.func36, Tryd.ntmps36
    go_wp2_with fail
    have k_a := ((Blk.new w 27 #[.int .i64 7, .int .i64 n, .string s]).alloc (.cells #[.int .i64 7, .int .i64 (n'), .string (s')] 27)).alloc (.cells #[.int .i64 0, .int .i64 0, .string ⟨#[]⟩] 27)
    have k_b := (Blk.new (w.alloc (.cells #[.int .i64 7, .int .i64 n, .string s] 27)) 27 #[.int .i64 7, .int .i64 (n'), .string (s')]).alloc (.cells #[.int .i64 0, .int .i64 0, .string ⟨#[]⟩] 27)
    rw [World.size_alloc] at k_b
    have k_r := Blk.new ((w.alloc (.cells #[.int .i64 7, .int .i64 n, .string s] 27)).alloc (.cells #[.int .i64 7, .int .i64 (n'), .string (s')] 27)) 27 #[.int .i64 0, .int .i64 0, .string ⟨#[]⟩]
    rw [World.size_alloc, World.size_alloc] at k_r
    have bb : Below w.heap.size w _ := ((((Below.refl _ _).alloc (Nat.le_refl _) (.cells #[.int .i64 7, .int .i64 n, .string s] 27)).alloc (by simp) (.cells #[.int .i64 7, .int .i64 (n'), .string (s')] 27)).alloc (by simp; omega) (.cells #[.int .i64 0, .int .i64 0, .string ⟨#[]⟩] 27))
    generalize (((w.alloc (.cells #[.int .i64 7, .int .i64 n, .string s] 27)).alloc (.cells #[.int .i64 7, .int .i64 (n'), .string (s')] 27)).alloc (.cells #[.int .i64 0, .int .i64 0, .string ⟨#[]⟩] 27)) = W0 at *
    refine (H1.out _).mono ?_
    rintro e w1 ⟨rfl, rfl⟩
    go_wp2_with fail
    refine (HT.out _).mono ?_
    rintro e w2 ⟨rfl, b2⟩
    have k_a := k_a.below b2 k_a.lt
    have k_b := k_b.below b2 k_b.lt
    have k_r := k_r.below b2 k_r.lt
    have bb := bb.trans (b2.mono bb.size)
    have x_a0 : w2.cell? ⟨w.heap.size, 0, none⟩ = some (.int .i64 7) := by rw [k_a.cell]; rfl
    have x_a1 : w2.cell? ⟨w.heap.size, 1, none⟩ = some (.int .i64 n) := by rw [k_a.cell]; rfl
    have x_a2 : w2.cell? ⟨w.heap.size, 2, none⟩ = some (.string s) := by rw [k_a.cell]; rfl
    have l_a := k_a.lt
    have x_b0 : w2.cell? ⟨w.heap.size + 1, 0, none⟩ = some (.int .i64 7) := by rw [k_b.cell]; rfl
    have x_b1 : w2.cell? ⟨w.heap.size + 1, 1, none⟩ = some (.int .i64 (n')) := by rw [k_b.cell]; rfl
    have x_b2 : w2.cell? ⟨w.heap.size + 1, 2, none⟩ = some (.string (s')) := by rw [k_b.cell]; rfl
    have l_b := k_b.lt
    have x_r0 : w2.cell? ⟨w.heap.size + 1 + 1, 0, none⟩ = some (.int .i64 0) := by rw [k_r.cell]; rfl
    have x_r1 : w2.cell? ⟨w.heap.size + 1 + 1, 1, none⟩ = some (.int .i64 0) := by rw [k_r.cell]; rfl
    have x_r2 : w2.cell? ⟨w.heap.size + 1 + 1, 2, none⟩ = some (.string ⟨#[]⟩) := by rw [k_r.cell]; rfl
    have l_r := k_r.lt
    have z_r0 := k_r.frozen 0
    have z_r1 := k_r.frozen 1
    have z_r2 := k_r.frozen 2
    go_wp2
    exact bodyPost_ret (v := .tuple #[VS 2 (tN true) ⟨#[]⟩, .int .i64 0]) (by simp [results, Tryd.results36, go_sem, x_r0, x_r1, x_r2, l_r]) rfl ⟨rfl, (((bb).setCell (p := ⟨w.heap.size + 1 + 1, 0, none⟩) (by first | exact Nat.le_refl _ | (simp; done) | (simp; omega) | omega) _).setCell (p := ⟨w.heap.size + 1 + 1, 1, none⟩) (by first | exact Nat.le_refl _ | (simp; done) | (simp; omega) | omega) _).setCell (p := ⟨w.heap.size + 1 + 1, 2, none⟩) (by first | exact Nat.le_refl _ | (simp; done) | (simp; omega) | omega) _⟩
  case neg =>
    have t1 : decide (0 ≤ c) = false := by simpa using hr
    rw [t1]
    have HT := Lib.hid (fun W => truth_any false W)
    go_enter Tryd.func36, Tryd.ntmps36
    go_wp2_with fail
    have k_a := ((Blk.new w 27 #[.int .i64 7, .int .i64 n, .string s]).alloc (.cells #[.int .i64 7, .int .i64 (n'), .string (s')] 27)).alloc (.cells #[.int .i64 0, .int .i64 0, .string ⟨#[]⟩] 27)
    have k_b := (Blk.new (w.alloc (.cells #[.int .i64 7, .int .i64 n, .string s] 27)) 27 #[.int .i64 7, .int .i64 (n'), .string (s')]).alloc (.cells #[.int .i64 0, .int .i64 0, .string ⟨#[]⟩] 27)
    rw [World.size_alloc] at k_b
    have k_r := Blk.new ((w.alloc (.cells #[.int .i64 7, .int .i64 n, .string s] 27)).alloc (.cells #[.int .i64 7, .int .i64 (n'), .string (s')] 27)) 27 #[.int .i64 0, .int .i64 0, .string ⟨#[]⟩]
    rw [World.size_alloc, World.size_alloc] at k_r
    have bb : Below w.heap.size w _ := ((((Below.refl _ _).alloc (Nat.le_refl _) (.cells #[.int .i64 7, .int .i64 n, .string s] 27)).alloc (by simp) (.cells #[.int .i64 7, .int .i64 (n'), .string (s')] 27)).alloc (by simp; omega) (.cells #[.int .i64 0, .int .i64 0, .string ⟨#[]⟩] 27))
    generalize (((w.alloc (.cells #[.int .i64 7, .int .i64 n, .string s] 27)).alloc (.cells #[.int .i64 7, .int .i64 (n'), .string (s')] 27)).alloc (.cells #[.int .i64 0, .int .i64 0, .string ⟨#[]⟩] 27)) = W0 at *
    refine (H1.out _).mono ?_
    rintro e w1 ⟨rfl, rfl⟩
    go_wp2_with fail
    refine (HT.out _).mono ?_
    rintro e w2 ⟨rfl, b2⟩
    have k_a := k_a.below b2 k_a.lt
    have k_b := k_b.below b2 k_b.lt
    have k_r := k_r.below b2 k_r.lt
    have bb := bb.trans (b2.mono bb.size)
    have x_a0 : w2.cell? ⟨w.heap.size, 0, none⟩ = some (.int .i64 7) := by rw [k_a.cell]; rfl
    have x_a1 : w2.cell? ⟨w.heap.size, 1, none⟩ = some (.int .i64 n) := by rw [k_a.cell]; rfl
    have x_a2 : w2.cell? ⟨w.heap.size, 2, none⟩ = some (.string s) := by rw [k_a.cell]; rfl
    have l_a := k_a.lt
    have x_b0 : w2.cell? ⟨w.heap.size + 1, 0, none⟩ = some (.int .i64 7) := by rw [k_b.cell]; rfl
    have x_b1 : w2.cell? ⟨w.heap.size + 1, 1, none⟩ = some (.int .i64 (n')) := by rw [k_b.cell]; rfl
    have x_b2 : w2.cell? ⟨w.heap.size + 1, 2, none⟩ = some (.string (s')) := by rw [k_b.cell]; rfl
    have l_b := k_b.lt
    have x_r0 : w2.cell? ⟨w.heap.size + 1 + 1, 0, none⟩ = some (.int .i64 0) := by rw [k_r.cell]; rfl
    have x_r1 : w2.cell? ⟨w.heap.size + 1 + 1, 1, none⟩ = some (.int .i64 0) := by rw [k_r.cell]; rfl
    have x_r2 : w2.cell? ⟨w.heap.size + 1 + 1, 2, none⟩ = some (.string ⟨#[]⟩) := by rw [k_r.cell]; rfl
    have l_r := k_r.lt
    have z_r0 := k_r.frozen 0
    have z_r1 := k_r.frozen 1
    have z_r2 := k_r.frozen 2
    go_wp2
    exact bodyPost_ret (v := .tuple #[VS 2 (tN false) ⟨#[]⟩, .int .i64 0]) (by simp [results, Tryd.results36, go_sem, x_r0, x_r1, x_r2, l_r]) rfl ⟨rfl, (((bb).setCell (p := ⟨w.heap.size + 1 + 1, 0, none⟩) (by first | exact Nat.le_refl _ | (simp; done) | (simp; omega) | omega) _).setCell (p := ⟨w.heap.size + 1 + 1, 1, none⟩) (by first | exact Nat.le_refl _ | (simp; done) | (simp; omega) | omega) _).setCell (p := ⟨w.heap.size + 1 + 1, 2, none⟩) (by first | exact Nat.le_refl _ | (simp; done) | (simp; omega) | omega) _⟩
set_option maxHeartbeats 4000000 in
set_option maxRecDepth 100000 in
theorem cmp_lt_x_e1 (w : World) (p q e1 : Int) (he : ¬ e1 = 0) (hk : (k == 7) = false) (C1 : ∀ W, Calls Tryd.prog 29 #[VS k n s] W (Ret (.tuple #[VN p q, .int .i64 e1]) W)) : Calls Tryd.prog 36 #[.string ⟨#[60]⟩, VS k n s, VS k' n' s'] w (Ret (.tuple #[VS 0 0 ⟨#[]⟩, .int .i64 e1]) w) := by
  have H1 := Lib.hid C1
  clear C1
  have t1 : (e1 != 0) = true := by simpa using he
  have t2 : ¬ e1 = 0 := he
  go_enter Tryd.func36, Tryd.ntmps36
  go_wp2_with fail
  have k_a := ((Blk.new w 27 #[.int .i64 k, .int .i64 n, .string s]).alloc (.cells #[.int .i64 (k'), .int .i64 (n'), .string (s')] 27)).alloc (.cells #[.int .i64 0, .int .i64 0, .string ⟨#[]⟩] 27)
  have k_b := (Blk.new (w.alloc (.cells #[.int .i64 k, .int .i64 n, .string s] 27)) 27 #[.int .i64 (k'), .int .i64 (n'), .string (s')]).alloc (.cells #[.int .i64 0, .int .i64 0, .string ⟨#[]⟩] 27)
  rw [World.size_alloc] at k_b
  have k_r := Blk.new ((w.alloc (.cells #[.int .i64 k, .int .i64 n, .string s] 27)).alloc (.cells #[.int .i64 (k'), .int .i64 (n'), .string (s')] 27)) 27 #[.int .i64 0, .int .i64 0, .string ⟨#[]⟩]
  rw [World.size_alloc, World.size_alloc] at k_r
  have bb : Below w.heap.size w _ := ((((Below.refl _ _).alloc (Nat.le_refl _) (.cells #[.int .i64 k, .int .i64 n, .string s] 27)).alloc (by simp) (.cells #[.int .i64 (k'), .int .i64 (n'), .string (s')] 27)).alloc (by simp; omega) (.cells #[.int .i64 0, .int .i64 0, .string ⟨#[]⟩] 27))
  generalize (((w.alloc (.cells #[.int .i64 k, .int .i64 n, .string s] 27)).alloc (.cells #[.int .i64 (k'), .int .i64 (n'), .string (s')] 27)).alloc (.cells #[.int .i64 0, .int .i64 0, .string ⟨#[]⟩] 27)) = W0 at *
  refine (H1.out _).mono ?_
  rintro e w1 ⟨rfl, b1⟩
  have k_a := k_a.below b1 k_a.lt
  have k_b := k_b.below b1 k_b.lt
  have k_r := k_r.below b1 k_r.lt
  have bb := bb.trans (b1.mono bb.size)
  have x_a0 : w1.cell? ⟨w.heap.size, 0, none⟩ = some (.int .i64 k) := by rw [k_a.cell]; rfl
  have x_a1 : w1.cell? ⟨w.heap.size, 1, none⟩ = some (.int .i64 n) := by rw [k_a.cell]; rfl
  have x_a2 : w1.cell? ⟨w.heap.size, 2, none⟩ = some (.string s) := by rw [k_a.cell]; rfl
  have l_a := k_a.lt
  have x_b0 : w1.cell? ⟨w.heap.size + 1, 0, none⟩ = some (.int .i64 (k')) := by rw [k_b.cell]; rfl
  have x_b1 : w1.cell? ⟨w.heap.size + 1, 1, none⟩ = some (.int .i64 (n')) := by rw [k_b.cell]; rfl
  have x_b2 : w1.cell? ⟨w.heap.size + 1, 2, none⟩ = some (.string (s')) := by rw [k_b.cell]; rfl
  have l_b := k_b.lt
  have x_r0 : w1.cell? ⟨w.heap.size + 1 + 1, 0, none⟩ = some (.int .i64 0) := by rw [k_r.cell]; rfl
  have x_r1 : w1.cell? ⟨w.heap.size + 1 + 1, 1, none⟩ = some (.int .i64 0) := by rw [k_r.cell]; rfl
  have x_r2 : w1.cell? ⟨w.heap.size + 1 + 1, 2, none⟩ = some (.string ⟨#[]⟩) := by rw [k_r.cell]; rfl
  have l_r := k_r.lt
  have z_r0 := k_r.frozen 0
  have z_r1 := k_r.frozen 1
  have z_r2 := k_r.frozen 2
  go_wp2
  exact bodyPost_ret (v := .tuple #[VS 0 0 ⟨#[]⟩, .int .i64 e1]) (by simp [results, Tryd.results36, go_sem, x_r0, x_r1, x_r2, l_r]) rfl ⟨rfl, ((((bb).setCell (p := ⟨w.heap.size + 1 + 1, 0, none⟩) (by first | exact Nat.le_refl _ | (simp; done) | (simp; omega) | omega) _).setCell (p := ⟨w.heap.size + 1 + 1, 1, none⟩) (by first | exact Nat.le_refl _ | (simp; done) | (simp; omega) | omega) _).setCell (p := ⟨w.heap.size + 1 + 1, 2, none⟩) (by first | exact Nat.le_refl _ | (simp; done) | (simp; omega) | omega) _).alloc (by first | exact bb.size | (simp; exact bb.size) | (have := bb.size; simp; omega)) _⟩
set_option maxHeartbeats 4000000 in
set_option maxRecDepth 100000 in
theorem cmp_lt_x_e2 (w : World) (p q p' q' e1 : Int) (he : ¬ e1 = 0) (hk : (k == 7) = false) (C1 : ∀ W, Calls Tryd.prog 29 #[VS k n s] W (Ret (.tuple #[VN p q, .int .i64 0]) W)) (C2 : ∀ W, Calls Tryd.prog 29 #[VS k' n' s'] W (Ret (.tuple #[VN p' q', .int .i64 e1]) W)) : Calls Tryd.prog 36 #[.string ⟨#[60]⟩, VS k n s, VS k' n' s'] w (Ret (.tuple #[VS 0 0 ⟨#[]⟩, .int .i64 e1]) w) := by
  have H1 := Lib.hid C1
  have H2 := Lib.hid C2
  clear C1 C2
  have t1 : (e1 != 0) = true := by simpa using he
  have t2 : ¬ e1 = 0 := he
  go_enter Tryd.func36, Tryd.ntmps36
  go_wp2_with fail
  have k_a := ((Blk.new w 27 #[.int .i64 k, .int .i64 n, .string s]).alloc (.cells #[.int .i64 (k'), .int .i64 (n'), .string (s')] 27)).alloc (.cells #[.int .i64 0, .int .i64 0, .string ⟨#[]⟩] 27)
  have k_b := (Blk.new (w.alloc (.cells #[.int .i64 k, .int .i64 n, .string s] 27)) 27 #[.int .i64 (k'), .int .i64 (n'), .string (s')]).alloc (.cells #[.int .i64 0, .int .i64 0, .string ⟨#[]⟩] 27)
  rw [World.size_alloc] at k_b
  have k_r := Blk.new ((w.alloc (.cells #[.int .i64 k, .int .i64 n, .string s] 27)).alloc (.cells #[.int .i64 (k'), .int .i64 (n'), .string (s')] 27)) 27 #[.int .i64 0, .int .i64 0, .string ⟨#[]⟩]
  rw [World.size_alloc, World.size_alloc] at k_r
  have bb : Below w.heap.size w _ := ((((Below.refl _ _).alloc (Nat.le_refl _) (.cells #[.int .i64 k, .int .i64 n, .string s] 27)).alloc (by simp) (.cells #[.int .i64 (k'), .int .i64 (n'), .string (s')] 27)).alloc (by simp; omega) (.cells #[.int .i64 0, .int .i64 0, .string ⟨#[]⟩] 27))
  generalize (((w.alloc (.cells #[.int .i64 k, .int .i64 n, .string s] 27)).alloc (.cells #[.int .i64 (k'), .int .i64 (n'), .string (s')] 27)).alloc (.cells #[.int .i64 0, .int .i64 0, .string ⟨#[]⟩] 27)) = W0 at *
  refine (H1.out _).mono ?_
  rintro e w1 ⟨rfl, b1⟩
  have k_a := k_a.below b1 k_a.lt
  have k_b := k_b.below b1 k_b.lt
  have k_r := k_r.below b1 k_r.lt
  have bb := bb.trans (b1.mono bb.size)
  have x_a0 : w1.cell? ⟨w.heap.size, 0, none⟩ = some (.int .i64 k) := by rw [k_a.cell]; rfl
  have x_a1 : w1.cell? ⟨w.heap.size, 1, none⟩ = some (.int .i64 n) := by rw [k_a.cell]; rfl
  have x_a2 : w1.cell? ⟨w.heap.size, 2, none⟩ = some (.string s) := by rw [k_a.cell]; rfl
  have l_a := k_a.lt
  have x_b0 : w1.cell? ⟨w.heap.size + 1, 0, none⟩ = some (.int .i64 (k')) := by rw [k_b.cell]; rfl
  have x_b1 : w1.cell? ⟨w.heap.size + 1, 1, none⟩ = some (.int .i64 (n')) := by rw [k_b.cell]; rfl
  have x_b2 : w1.cell? ⟨w.heap.size + 1, 2, none⟩ = some (.string (s')) := by rw [k_b.cell]; rfl
  have l_b := k_b.lt
  have x_r0 : w1.cell? ⟨w.heap.size + 1 + 1, 0, none⟩ = some (.int .i64 0) := by rw [k_r.cell]; rfl
  have x_r1 : w1.cell? ⟨w.heap.size + 1 + 1, 1, none⟩ = some (.int .i64 0) := by rw [k_r.cell]; rfl
  have x_r2 : w1.cell? ⟨w.heap.size + 1 + 1, 2, none⟩ = some (.string ⟨#[]⟩) := by rw [k_r.cell]; rfl
  have l_r := k_r.lt
  go_wp2_with fail
  have k_a := k_a.alloc (.cells #[.int .i64 p, .int .i64 q, .string ⟨#[]⟩] 27)
  have k_b := k_b.alloc (.cells #[.int .i64 p, .int .i64 q, .string ⟨#[]⟩] 27)
  have k_r := k_r.alloc (.cells #[.int .i64 p, .int .i64 q, .string ⟨#[]⟩] 27)
  have k_x := Blk.new w1 27 #[.int .i64 p, .int .i64 q, .string ⟨#[]⟩]
  have bb := bb.alloc bb.size (.cells #[.int .i64 p, .int .i64 q, .string ⟨#[]⟩] 27)
  clear x_a0 x_a1 x_a2 l_a x_b0 x_b1 x_b2 l_b x_r0 x_r1 x_r2 l_r
  generalize w1.alloc (.cells #[.int .i64 p, .int .i64 q, .string ⟨#[]⟩] 27) = V1 at *
  refine (H2.out _).mono ?_
  rintro e w2 ⟨rfl, b2⟩
  have k_a := k_a.below b2 k_a.lt
  have k_b := k_b.below b2 k_b.lt
  have k_r := k_r.below b2 k_r.lt
  have k_x := k_x.below b2 k_x.lt
  have bb := bb.trans (b2.mono bb.size)
  have x_a0 : w2.cell? ⟨w.heap.size, 0, none⟩ = some (.int .i64 k) := by rw [k_a.cell]; rfl
  have x_a1 : w2.cell? ⟨w.heap.size, 1, none⟩ = some (.int .i64 n) := by rw [k_a.cell]; rfl
  have x_a2 : w2.cell? ⟨w.heap.size, 2, none⟩ = some (.string s) := by rw [k_a.cell]; rfl
  have l_a := k_a.lt
  have x_b0 : w2.cell? ⟨w.heap.size + 1, 0, none⟩ = some (.int .i64 (k')) := by rw [k_b.cell]; rfl
  have x_b1 : w2.cell? ⟨w.heap.size + 1, 1, none⟩ = some (.int .i64 (n')) := by rw [k_b.cell]; rfl
  have x_b2 : w2.cell? ⟨w.heap.size + 1, 2, none⟩ = some (.string (s')) := by rw [k_b.cell]; rfl
  have l_b := k_b.lt
  have x_r0 : w2.cell? ⟨w.heap.size + 1 + 1, 0, none⟩ = some (.int .i64 0) := by rw [k_r.cell]; rfl
  have x_r1 : w2.cell? ⟨w.heap.size + 1 + 1, 1, none⟩ = some (.int .i64 0) := by rw [k_r.cell]; rfl
  have x_r2 : w2.cell? ⟨w.heap.size + 1 + 1, 2, none⟩ = some (.string ⟨#[]⟩) := by rw [k_r.cell]; rfl
  have l_r := k_r.lt
  have x_x0 : w2.cell? ⟨w1.heap.size, 0, none⟩ = some (.int .i64 p) := by rw [k_x.cell]; rfl
  have x_x1 : w2.cell? ⟨w1.heap.size, 1, none⟩ = some (.int .i64 q) := by rw [k_x.cell]; rfl
  have x_x2 : w2.cell? ⟨w1.heap.size, 2, none⟩ = some (.string ⟨#[]⟩) := by rw [k_x.cell]; rfl
  have l_x := k_x.lt
  have z_r0 := k_r.frozen 0
  have z_r1 := k_r.frozen 1
  have z_r2 := k_r.frozen 2
  go_wp2
  exact bodyPost_ret (v := .tuple #[VS 0 0 ⟨#[]⟩, .int .i64 e1]) (by simp [results, Tryd.results36, go_sem, x_r0, x_r1, x_r2, l_r]) rfl ⟨rfl, ((((bb).setCell (p := ⟨w.heap.size + 1 + 1, 0, none⟩) (by first | exact Nat.le_refl _ | (simp; done) | (simp; omega) | omega) _).setCell (p := ⟨w.heap.size + 1 + 1, 1, none⟩) (by first | exact Nat.le_refl _ | (simp; done) | (simp; omega) | omega) _).setCell (p := ⟨w.heap.size + 1 + 1, 2, none⟩) (by first | exact Nat.le_refl _ | (simp; done) | (simp; omega) | omega) _).alloc (by first | exact bb.size | (simp; exact bb.size) | (have := bb.size; simp; omega)) _⟩
set_option maxHeartbeats 4000000 in
set_option maxRecDepth 100000 in
theorem cmp_lt_x (w : World) (p q p' q' : Int) (l m ok ok2 : Bool) (hk : (k == 7) = false) (C1 : ∀ W, Calls Tryd.prog 29 #[VS k n s] W (Ret (.tuple #[VN p q, .int .i64 0]) W)) (C2 : ∀ W, Calls Tryd.prog 29 #[VS k' n' s'] W (Ret (.tuple #[VN p' q', .int .i64 0]) W)) (C3 : ∀ W, Calls Tryd.prog 53 #[VN p q, VN p' q'] W (Ret (.tuple #[.bool l, .bool ok]) W)) (C4 : ∀ W, Calls Tryd.prog 53 #[VN p' q', VN p q] W (Ret (.tuple #[.bool m, .bool ok2]) W)) : Calls Tryd.prog 36 #[.string ⟨#[60]⟩, VS k n s, VS k' n' s'] w (Ret (.tuple #[VS 2 (tN l) ⟨#[]⟩, .int .i64 0]) w) := by
  have H1 := Lib.hid C1
  have H2 := Lib.hid C2
  have H3 := Lib.hid C3
  have H4 := Lib.hid C4
  clear C1 C2 C3 C4
  cases l
  all_goals
    have HT := Lib.hid (fun b W => truth_any b W)
    go_enter Tryd.func36, Tryd.ntmps36
    go_wp2_with fail
    have k_a := ((Blk.new w 27 #[.int .i64 k, .int .i64 n, .string s]).alloc (.cells #[.int .i64 (k'), .int .i64 (n'), .string (s')] 27)).alloc (.cells #[.int .i64 0, .int .i64 0, .string ⟨#[]⟩] 27)
    have k_b := (Blk.new (w.alloc (.cells #[.int .i64 k, .int .i64 n, .string s] 27)) 27 #[.int .i64 (k'), .int .i64 (n'), .string (s')]).alloc (.cells #[.int .i64 0, .int .i64 0, .string ⟨#[]⟩] 27)
    rw [World.size_alloc] at k_b
    have k_r := Blk.new ((w.alloc (.cells #[.int .i64 k, .int .i64 n, .string s] 27)).alloc (.cells #[.int .i64 (k'), .int .i64 (n'), .string (s')] 27)) 27 #[.int .i64 0, .int .i64 0, .string ⟨#[]⟩]
    rw [World.size_alloc, World.size_alloc] at k_r
    have bb : Below w.heap.size w _ := ((((Below.refl _ _).alloc (Nat.le_refl _) (.cells #[.int .i64 k, .int .i64 n, .string s] 27)).alloc (by simp) (.cells #[.int .i64 (k'), .int .i64 (n'), .string (s')] 27)).alloc (by simp; omega) (.cells #[.int .i64 0, .int .i64 0, .string ⟨#[]⟩] 27))
    generalize (((w.alloc (.cells #[.int .i64 k, .int .i64 n, .string s] 27)).alloc (.cells #[.int .i64 (k'), .int .i64 (n'), .string (s')] 27)).alloc (.cells #[.int .i64 0, .int .i64 0, .string ⟨#[]⟩] 27)) = W0 at *
    refine (H1.out _).mono ?_
    rintro e w1 ⟨rfl, b1⟩
    have k_a := k_a.below b1 k_a.lt
    have k_b := k_b.below b1 k_b.lt
    have k_r := k_r.below b1 k_r.lt
    have bb := bb.trans (b1.mono bb.size)
    have x_a0 : w1.cell? ⟨w.heap.size, 0, none⟩ = some (.int .i64 k) := by rw [k_a.cell]; rfl
    have x_a1 : w1.cell? ⟨w.heap.size, 1, none⟩ = some (.int .i64 n) := by rw [k_a.cell]; rfl
    have x_a2 : w1.cell? ⟨w.heap.size, 2, none⟩ = some (.string s) := by rw [k_a.cell]; rfl
    have l_a := k_a.lt
    have x_b0 : w1.cell? ⟨w.heap.size + 1, 0, none⟩ = some (.int .i64 (k')) := by rw [k_b.cell]; rfl
    have x_b1 : w1.cell? ⟨w.heap.size + 1, 1, none⟩ = some (.int .i64 (n')) := by rw [k_b.cell]; rfl
    have x_b2 : w1.cell? ⟨w.heap.size + 1, 2, none⟩ = some (.string (s')) := by rw [k_b.cell]; rfl
    have l_b := k_b.lt
    have x_r0 : w1.cell? ⟨w.heap.size + 1 + 1, 0, none⟩ = some (.int .i64 0) := by rw [k_r.cell]; rfl
    have x_r1 : w1.cell? ⟨w.heap.size + 1 + 1, 1, none⟩ = some (.int .i64 0) := by rw [k_r.cell]; rfl
    have x_r2 : w1.cell? ⟨w.heap.size + 1 + 1, 2, none⟩ = some (.string ⟨#[]⟩) := by rw [k_r.cell]; rfl
    have l_r := k_r.lt
    go_wp2_with fail
    have k_a := k_a.alloc (.cells #[.int .i64 p, .int .i64 q, .string ⟨#[]⟩] 27)
    have k_b := k_b.alloc (.cells #[.int .i64 p, .int .i64 q, .string ⟨#[]⟩] 27)
    have k_r := k_r.alloc (.cells #[.int .i64 p, .int .i64 q, .string ⟨#[]⟩] 27)
    have k_x := Blk.new w1 27 #[.int .i64 p, .int .i64 q, .string ⟨#[]⟩]
    have bb := bb.alloc bb.size (.cells #[.int .i64 p, .int .i64 q, .string ⟨#[]⟩] 27)
    clear x_a0 x_a1 x_a2 l_a x_b0 x_b1 x_b2 l_b x_r0 x_r1 x_r2 l_r
    generalize w1.alloc (.cells #[.int .i64 p, .int .i64 q, .string ⟨#[]⟩] 27) = V1 at *
    refine (H2.out _).mono ?_
    rintro e w2 ⟨rfl, b2⟩
    have k_a := k_a.below b2 k_a.lt
    have k_b := k_b.below b2 k_b.lt
    have k_r := k_r.below b2 k_r.lt
    have k_x := k_x.below b2 k_x.lt
    have bb := bb.trans (b2.mono bb.size)
    have x_a0 : w2.cell? ⟨w.heap.size, 0, none⟩ = some (.int .i64 k) := by rw [k_a.cell]; rfl
    have x_a1 : w2.cell? ⟨w.heap.size, 1, none⟩ = some (.int .i64 n) := by rw [k_a.cell]; rfl
    have x_a2 : w2.cell? ⟨w.heap.size, 2, none⟩ = some (.string s) := by rw [k_a.cell]; rfl
    have l_a := k_a.lt
    have x_b0 : w2.cell? ⟨w.heap.size + 1, 0, none⟩ = some (.int .i64 (k')) := by rw [k_b.cell]; rfl
    have x_b1 : w2.cell? ⟨w.heap.size + 1, 1, none⟩ = some (.int .i64 (n')) := by rw [k_b.cell]; rfl
    have x_b2 : w2.cell? ⟨w.heap.size + 1, 2, none⟩ = some (.string (s')) := by rw [k_b.cell]; rfl
    have l_b := k_b.lt
    have x_r0 : w2.cell? ⟨w.heap.size + 1 + 1, 0, none⟩ = some (.int .i64 0) := by rw [k_r.cell]; rfl
    have x_r1 : w2.cell? ⟨w.heap.size + 1 + 1, 1, none⟩ = some (.int .i64 0) := by rw [k_r.cell]; rfl
    have x_r2 : w2.cell? ⟨w.heap.size + 1 + 1, 2, none⟩ = some (.string ⟨#[]⟩) := by rw [k_r.cell]; rfl
    have l_r := k_r.lt
    have x_x0 : w2.cell? ⟨w1.heap.size, 0, none⟩ = some (.int .i64 p) := by rw [k_x.cell]; rfl
    have x_x1 : w2.cell? ⟨w1.heap.size, 1, none⟩ = some (.int .i64 q) := by rw [k_x.cell]; rfl
    have x_x2 : w2.cell? ⟨w1.heap.size, 2, none⟩ = some (.string ⟨#[]⟩) := by rw [k_x.cell]; rfl
    have l_x := k_x.lt
    go_wp2_with fail
    have k_a := k_a.alloc (.cells #[.int .i64 (p'), .int .i64 (q'), .string ⟨#[]⟩] 27)
    have k_b := k_b.alloc (.cells #[.int .i64 (p'), .int .i64 (q'), .string ⟨#[]⟩] 27)
    have k_r := k_r.alloc (.cells #[.int .i64 (p'), .int .i64 (q'), .string ⟨#[]⟩] 27)
    have k_x := k_x.alloc (.cells #[.int .i64 (p'), .int .i64 (q'), .string ⟨#[]⟩] 27)
    have k_y := Blk.new w2 27 #[.int .i64 (p'), .int .i64 (q'), .string ⟨#[]⟩]
    have bb := bb.alloc bb.size (.cells #[.int .i64 (p'), .int .i64 (q'), .string ⟨#[]⟩] 27)
    clear x_a0 x_a1 x_a2 l_a x_b0 x_b1 x_b2 l_b x_r0 x_r1 x_r2 l_r x_x0 x_x1 x_x2 l_x
    generalize w2.alloc (.cells #[.int .i64 (p'), .int .i64 (q'), .string ⟨#[]⟩] 27) = V2 at *
    refine (H3.out _).mono ?_
    rintro e w3 ⟨rfl, b3⟩
    have k_a := k_a.below b3 k_a.lt
    have k_b := k_b.below b3 k_b.lt
    have k_r := k_r.below b3 k_r.lt
    have k_x := k_x.below b3 k_x.lt
    have k_y := k_y.below b3 k_y.lt
    have bb := bb.trans (b3.mono bb.size)
    have x_a0 : w3.cell? ⟨w.heap.size, 0, none⟩ = some (.int .i64 k) := by rw [k_a.cell]; rfl
    have x_a1 : w3.cell? ⟨w.heap.size, 1, none⟩ = some (.int .i64 n) := by rw [k_a.cell]; rfl
    have x_a2 : w3.cell? ⟨w.heap.size, 2, none⟩ = some (.string s) := by rw [k_a.cell]; rfl
    have l_a := k_a.lt
    have x_b0 : w3.cell? ⟨w.heap.size + 1, 0, none⟩ = some (.int .i64 (k')) := by rw [k_b.cell]; rfl
    have x_b1 : w3.cell? ⟨w.heap.size + 1, 1, none⟩ = some (.int .i64 (n')) := by rw [k_b.cell]; rfl
    have x_b2 : w3.cell? ⟨w.heap.size + 1, 2, none⟩ = some (.string (s')) := by rw [k_b.cell]; rfl
    have l_b := k_b.lt
    have x_r0 : w3.cell? ⟨w.heap.size + 1 + 1, 0, none⟩ = some (.int .i64 0) := by rw [k_r.cell]; rfl
    have x_r1 : w3.cell? ⟨w.heap.size + 1 + 1, 1, none⟩ = some (.int .i64 0) := by rw [k_r.cell]; rfl
    have x_r2 : w3.cell? ⟨w.heap.size + 1 + 1, 2, none⟩ = some (.string ⟨#[]⟩) := by rw [k_r.cell]; rfl
    have l_r := k_r.lt
    have x_x0 : w3.cell? ⟨w1.heap.size, 0, none⟩ = some (.int .i64 p) := by rw [k_x.cell]; rfl
    have x_x1 : w3.cell? ⟨w1.heap.size, 1, none⟩ = some (.int .i64 q) := by rw [k_x.cell]; rfl
    have x_x2 : w3.cell? ⟨w1.heap.size, 2, none⟩ = some (.string ⟨#[]⟩) := by rw [k_x.cell]; rfl
    have l_x := k_x.lt
    have x_y0 : w3.cell? ⟨w2.heap.size, 0, none⟩ = some (.int .i64 (p')) := by rw [k_y.cell]; rfl
    have x_y1 : w3.cell? ⟨w2.heap.size, 1, none⟩ = some (.int .i64 (q')) := by rw [k_y.cell]; rfl
    have x_y2 : w3.cell? ⟨w2.heap.size, 2, none⟩ = some (.string ⟨#[]⟩) := by rw [k_y.cell]; rfl
    have l_y := k_y.lt
    go_wp2_with fail
    refine (H4.out _).mono ?_
    rintro e w4 ⟨rfl, b4⟩
    clear x_a0 x_a1 x_a2 l_a x_b0 x_b1 x_b2 l_b x_r0 x_r1 x_r2 l_r x_x0 x_x1 x_x2 l_x x_y0 x_y1 x_y2 l_y
    have k_a := k_a.below b4 k_a.lt
    have k_b := k_b.below b4 k_b.lt
    have k_r := k_r.below b4 k_r.lt
    have k_x := k_x.below b4 k_x.lt
    have k_y := k_y.below b4 k_y.lt
    have bb := bb.trans (b4.mono bb.size)
    have x_a0 : w4.cell? ⟨w.heap.size, 0, none⟩ = some (.int .i64 k) := by rw [k_a.cell]; rfl
    have x_a1 : w4.cell? ⟨w.heap.size, 1, none⟩ = some (.int .i64 n) := by rw [k_a.cell]; rfl
    have x_a2 : w4.cell? ⟨w.heap.size, 2, none⟩ = some (.string s) := by rw [k_a.cell]; rfl
    have l_a := k_a.lt
    have x_b0 : w4.cell? ⟨w.heap.size + 1, 0, none⟩ = some (.int .i64 (k')) := by rw [k_b.cell]; rfl
    have x_b1 : w4.cell? ⟨w.heap.size + 1, 1, none⟩ = some (.int .i64 (n')) := by rw [k_b.cell]; rfl
    have x_b2 : w4.cell? ⟨w.heap.size + 1, 2, none⟩ = some (.string (s')) := by rw [k_b.cell]; rfl
    have l_b := k_b.lt
    have x_r0 : w4.cell? ⟨w.heap.size + 1 + 1, 0, none⟩ = some (.int .i64 0) := by rw [k_r.cell]; rfl
    have x_r1 : w4.cell? ⟨w.heap.size + 1 + 1, 1, none⟩ = some (.int .i64 0) := by rw [k_r.cell]; rfl
    have x_r2 : w4.cell? ⟨w.heap.size + 1 + 1, 2, none⟩ = some (.string ⟨#[]⟩) := by rw [k_r.cell]; rfl
    have l_r := k_r.lt
    have x_x0 : w4.cell? ⟨w1.heap.size, 0, none⟩ = some (.int .i64 p) := by rw [k_x.cell]; rfl
    have x_x1 : w4.cell? ⟨w1.heap.size, 1, none⟩ = some (.int .i64 q) := by rw [k_x.cell]; rfl
    have x_x2 : w4.cell? ⟨w1.heap.size, 2, none⟩ = some (.string ⟨#[]⟩) := by rw [k_x.cell]; rfl
    have l_x := k_x.lt
    have x_y0 : w4.cell? ⟨w2.heap.size, 0, none⟩ = some (.int .i64 (p')) := by rw [k_y.cell]; rfl
    have x_y1 : w4.cell? ⟨w2.heap.size, 1, none⟩ = some (.int .i64 (q')) := by rw [k_y.cell]; rfl
    have x_y2 : w4.cell? ⟨w2.heap.size, 2, none⟩ = some (.string ⟨#[]⟩) := by rw [k_y.cell]; rfl
    have l_y := k_y.lt
    go_wp2_with fail
    refine (HT.out _ _).mono ?_
    rintro e w5 ⟨rfl, b5⟩
    clear x_a0 x_a1 x_a2 l_a x_b0 x_b1 x_b2 l_b x_r0 x_r1 x_r2 l_r x_x0 x_x1 x_x2 l_x x_y0 x_y1 x_y2 l_y
    have k_a := k_a.below b5 k_a.lt
    have k_b := k_b.below b5 k_b.lt
    have k_r := k_r.below b5 k_r.lt
    have k_x := k_x.below b5 k_x.lt
    have k_y := k_y.below b5 k_y.lt
    have bb := bb.trans (b5.mono bb.size)
    have x_a0 : w5.cell? ⟨w.heap.size, 0, none⟩ = some (.int .i64 k) := by rw [k_a.cell]; rfl
    have x_a1 : w5.cell? ⟨w.heap.size, 1, none⟩ = some (.int .i64 n) := by rw [k_a.cell]; rfl
    have x_a2 : w5.cell? ⟨w.heap.size, 2, none⟩ = some (.string s) := by rw [k_a.cell]; rfl
    have l_a := k_a.lt
    have x_b0 : w5.cell? ⟨w.heap.size + 1, 0, none⟩ = some (.int .i64 (k')) := by rw [k_b.cell]; rfl
    have x_b1 : w5.cell? ⟨w.heap.size + 1, 1, none⟩ = some (.int .i64 (n')) := by rw [k_b.cell]; rfl
    have x_b2 : w5.cell? ⟨w.heap.size + 1, 2, none⟩ = some (.string (s')) := by rw [k_b.cell]; rfl
    have l_b := k_b.lt
    have x_r0 : w5.cell? ⟨w.heap.size + 1 + 1, 0, none⟩ = some (.int .i64 0) := by rw [k_r.cell]; rfl
    have x_r1 : w5.cell? ⟨w.heap.size + 1 + 1, 1, none⟩ = some (.int .i64 0) := by rw [k_r.cell]; rfl
    have x_r2 : w5.cell? ⟨w.heap.size + 1 + 1, 2, none⟩ = some (.string ⟨#[]⟩) := by rw [k_r.cell]; rfl
    have l_r := k_r.lt
    have x_x0 : w5.cell? ⟨w1.heap.size, 0, none⟩ = some (.int .i64 p) := by rw [k_x.cell]; rfl
    have x_x1 : w5.cell? ⟨w1.heap.size, 1, none⟩ = some (.int .i64 q) := by rw [k_x.cell]; rfl
    have x_x2 : w5.cell? ⟨w1.heap.size, 2, none⟩ = some (.string ⟨#[]⟩) := by rw [k_x.cell]; rfl
    have l_x := k_x.lt
    have x_y0 : w5.cell? ⟨w2.heap.size, 0, none⟩ = some (.int .i64 (p')) := by rw [k_y.cell]; rfl
    have x_y1 : w5.cell? ⟨w2.heap.size, 1, none⟩ = some (.int .i64 (q')) := by rw [k_y.cell]; rfl
    have x_y2 : w5.cell? ⟨w2.heap.size, 2, none⟩ = some (.string ⟨#[]⟩) := by rw [k_y.cell]; rfl
    have l_y := k_y.lt
    have z_r0 := k_r.frozen 0
    have z_r1 := k_r.frozen 1
    have z_r2 := k_r.frozen 2
    go_wp2
    exact bodyPost_ret (v := .tuple #[VS 2 _ ⟨#[]⟩, .int .i64 0]) (by simp [results, Tryd.results36, go_sem, x_r0, x_r1, x_r2, l_r]) rfl ⟨rfl, (((bb).setCell (p := ⟨w.heap.size + 1 + 1, 0, none⟩) (by first | exact Nat.le_refl _ | (simp; done) | (simp; omega) | omega) _).setCell (p := ⟨w.heap.size + 1 + 1, 1, none⟩) (by first | exact Nat.le_refl _ | (simp; done) | (simp; omega) | omega) _).setCell (p := ⟨w.heap.size + 1 + 1, 2, none⟩) (by first | exact Nat.le_refl _ | (simp; done) | (simp; omega) | omega) _⟩
set_option maxHeartbeats 4000000 in
set_option maxRecDepth 100000 in
theorem cmp_lt_y_e1 (w : World) (p q e1 : Int) (he : ¬ e1 = 0) (hk : (k == 7) = true) (hk' : (k' == 7) = false) (C1 : ∀ W, Calls Tryd.prog 29 #[VS k n s] W (Ret (.tuple #[VN p q, .int .i64 e1]) W)) : Calls Tryd.prog 36 #[.string ⟨#[60]⟩, VS k n s, VS k' n' s'] w (Ret (.tuple #[VS 0 0 ⟨#[]⟩, .int .i64 e1]) w) := by
  have H1 := Lib.hid C1
  clear C1
  have t1 : (e1 != 0) = true := by simpa using he
  have t2 : ¬ e1 = 0 := he
  go_enter Tryd.func36, Tryd.ntmps36
  go_wp2_with fail
  have k_a := ((Blk.new w 27 #[.int .i64 k, .int .i64 n, .string s]).alloc (.cells #[.int .i64 (k'), .int .i64 (n'), .string (s')] 27)).alloc (.cells #[.int .i64 0, .int .i64 0, .string ⟨#[]⟩] 27)
  have k_b := (Blk.new (w.alloc (.cells #[.int .i64 k, .int .i64 n, .string s] 27)) 27 #[.int .i64 (k'), .int .i64 (n'), .string (s')]).alloc (.cells #[.int .i64 0, .int .i64 0, .string ⟨#[]⟩] 27)
  rw [World.size_alloc] at k_b
  have k_r := Blk.new ((w.alloc (.cells #[.int .i64 k, .int .i64 n, .string s] 27)).alloc (.cells #[.int .i64 (k'), .int .i64 (n'), .string (s')] 27)) 27 #[.int .i64 0, .int .i64 0, .string ⟨#[]⟩]
  rw [World.size_alloc, World.size_alloc] at k_r
  have bb : Below w.heap.size w _ := ((((Below.refl _ _).alloc (Nat.le_refl _) (.cells #[.int .i64 k, .int .i64 n, .string s] 27)).alloc (by simp) (.cells #[.int .i64 (k'), .int .i64 (n'), .string (s')] 27)).alloc (by simp; omega) (.cells #[.int .i64 0, .int .i64 0, .string ⟨#[]⟩] 27))
  generalize (((w.alloc (.cells #[.int .i64 k, .int .i64 n, .string s] 27)).alloc (.cells #[.int .i64 (k'), .int .i64 (n'), .string (s')] 27)).alloc (.cells #[.int .i64 0, .int .i64 0, .string ⟨#[]⟩] 27)) = W0 at *
  refine (H1.out _).mono ?_
  rintro e w1 ⟨rfl, b1⟩
  have k_a := k_a.below b1 k_a.lt
  have k_b := k_b.below b1 k_b.lt
  have k_r := k_r.below b1 k_r.lt
  have bb := bb.trans (b1.mono bb.size)
  have x_a0 : w1.cell? ⟨w.heap.size, 0, none⟩ = some (.int .i64 k) := by rw [k_a.cell]; rfl
  have x_a1 : w1.cell? ⟨w.heap.size, 1, none⟩ = some (.int .i64 n) := by rw [k_a.cell]; rfl
  have x_a2 : w1.cell? ⟨w.heap.size, 2, none⟩ = some (.string s) := by rw [k_a.cell]; rfl
  have l_a := k_a.lt
  have x_b0 : w1.cell? ⟨w.heap.size + 1, 0, none⟩ = some (.int .i64 (k')) := by rw [k_b.cell]; rfl
  have x_b1 : w1.cell? ⟨w.heap.size + 1, 1, none⟩ = some (.int .i64 (n')) := by rw [k_b.cell]; rfl
  have x_b2 : w1.cell? ⟨w.heap.size + 1, 2, none⟩ = some (.string (s')) := by rw [k_b.cell]; rfl
  have l_b := k_b.lt
  have x_r0 : w1.cell? ⟨w.heap.size + 1 + 1, 0, none⟩ = some (.int .i64 0) := by rw [k_r.cell]; rfl
  have x_r1 : w1.cell? ⟨w.heap.size + 1 + 1, 1, none⟩ = some (.int .i64 0) := by rw [k_r.cell]; rfl
  have x_r2 : w1.cell? ⟨w.heap.size + 1 + 1, 2, none⟩ = some (.string ⟨#[]⟩) := by rw [k_r.cell]; rfl
  have l_r := k_r.lt
  have z_r0 := k_r.frozen 0
  have z_r1 := k_r.frozen 1
  have z_r2 := k_r.frozen 2
  go_wp2
  exact bodyPost_ret (v := .tuple #[VS 0 0 ⟨#[]⟩, .int .i64 e1]) (by simp [results, Tryd.results36, go_sem, x_r0, x_r1, x_r2, l_r]) rfl ⟨rfl, ((((bb).setCell (p := ⟨w.heap.size + 1 + 1, 0, none⟩) (by first | exact Nat.le_refl _ | (simp; done) | (simp; omega) | omega) _).setCell (p := ⟨w.heap.size + 1 + 1, 1, none⟩) (by first | exact Nat.le_refl _ | (simp; done) | (simp; omega) | omega) _).setCell (p := ⟨w.heap.size + 1 + 1, 2, none⟩) (by first | exact Nat.le_refl _ | (simp; done) | (simp; omega) | omega) _).alloc (by first | exact bb.size | (simp; exact bb.size) | (have := bb.size; simp; omega)) _⟩
set_option maxHeartbeats 4000000 in
set_option maxRecDepth 100000 in
theorem cmp_lt_y_e2 (w : World) (p q p' q' e1 : Int) (he : ¬ e1 = 0) (hk : (k == 7) = true) (hk' : (k' == 7) = false) (C1 : ∀ W, Calls Tryd.prog 29 #[VS k n s] W (Ret (.tuple #[VN p q, .int .i64 0]) W)) (C2 : ∀ W, Calls Tryd.prog 29 #[VS k' n' s'] W (Ret (.tuple #[VN p' q', .int .i64 e1]) W)) : Calls Tryd.prog 36 #[.string ⟨#[60]⟩, VS k n s, VS k' n' s'] w (Ret (.tuple #[VS 0 0 ⟨#[]⟩, .int .i64 e1]) w) := by
  have H1 := Lib.hid C1
  have H2 := Lib.hid C2
  clear C1 C2
  have t1 : (e1 != 0) = true := by simpa using he
  have t2 : ¬ e1 = 0 := he
  go_enter Tryd.func36, Tryd.ntmps36
  go_wp2_with fail
  have k_a := ((Blk.new w 27 #[.int .i64 k, .int .i64 n, .string s]).alloc (.cells #[.int .i64 (k'), .int .i64 (n'), .string (s')] 27)).alloc (.cells #[.int .i64 0, .int .i64 0, .string ⟨#[]⟩] 27)
  have k_b := (Blk.new (w.alloc (.cells #[.int .i64 k, .int .i64 n, .string s] 27)) 27 #[.int .i64 (k'), .int .i64 (n'), .string (s')]).alloc (.cells #[.int .i64 0, .int .i64 0, .string ⟨#[]⟩] 27)
  rw [World.size_alloc] at k_b
  have k_r := Blk.new ((w.alloc (.cells #[.int .i64 k, .int .i64 n, .string s] 27)).alloc (.cells #[.int .i64 (k'), .int .i64 (n'), .string (s')] 27)) 27 #[.int .i64 0, .int .i64 0, .string ⟨#[]⟩]
  rw [World.size_alloc, World.size_alloc] at k_r
  have bb : Below w.heap.size w _ := ((((Below.refl _ _).alloc (Nat.le_refl _) (.cells #[.int .i64 k, .int .i64 n, .string s] 27)).alloc (by simp) (.cells #[.int .i64 (k'), .int .i64 (n'), .string (s')] 27)).alloc (by simp; omega) (.cells #[.int .i64 0, .int .i64 0, .string ⟨#[]⟩] 27))
  generalize (((w.alloc (.cells #[.int .i64 k, .int .i64 n, .string s] 27)).alloc (.cells #[.int .i64 (k'), .int .i64 (n'), .string (s')] 27)).alloc (.cells #[.int .i64 0, .int .i64 0, .string ⟨#[]⟩] 27)) = W0 at *
  refine (H1.out _).mono ?_
  rintro e w1 ⟨rfl, b1⟩
  have k_a := k_a.below b1 k_a.lt
  have k_b := k_b.below b1 k_b.lt
  have k_r := k_r.below b1 k_r.lt
  have bb := bb.trans (b1.mono bb.size)
  have x_a0 : w1.cell? ⟨w.heap.size, 0, none⟩ = some (.int .i64 k) := by rw [k_a.cell]; rfl
  have x_a1 : w1.cell? ⟨w.heap.size, 1, none⟩ = some (.int .i64 n) := by rw [k_a.cell]; rfl
  have x_a2 : w1.cell? ⟨w.heap.size, 2, none⟩ = some (.string s) := by rw [k_a.cell]; rfl
  have l_a := k_a.lt
  have x_b0 : w1.cell? ⟨w.heap.size + 1, 0, none⟩ = some (.int .i64 (k')) := by rw [k_b.cell]; rfl
  have x_b1 : w1.cell? ⟨w.heap.size + 1, 1, none⟩ = some (.int .i64 (n')) := by rw [k_b.cell]; rfl
  have x_b2 : w1.cell? ⟨w.heap.size + 1, 2, none⟩ = some (.string (s')) := by rw [k_b.cell]; rfl
  have l_b := k_b.lt
  have x_r0 : w1.cell? ⟨w.heap.size + 1 + 1, 0, none⟩ = some (.int .i64 0) := by rw [k_r.cell]; rfl
  have x_r1 : w1.cell? ⟨w.heap.size + 1 + 1, 1, none⟩ = some (.int .i64 0) := by rw [k_r.cell]; rfl
  have x_r2 : w1.cell? ⟨w.heap.size + 1 + 1, 2, none⟩ = some (.string ⟨#[]⟩) := by rw [k_r.cell]; rfl
  have l_r := k_r.lt
  go_wp2_with fail
  have k_a := k_a.alloc (.cells #[.int .i64 p, .int .i64 q, .string ⟨#[]⟩] 27)
  have k_b := k_b.alloc (.cells #[.int .i64 p, .int .i64 q, .string ⟨#[]⟩] 27)
  have k_r := k_r.alloc (.cells #[.int .i64 p, .int .i64 q, .string ⟨#[]⟩] 27)
  have k_x := Blk.new w1 27 #[.int .i64 p, .int .i64 q, .string ⟨#[]⟩]
  have bb := bb.alloc bb.size (.cells #[.int .i64 p, .int .i64 q, .string ⟨#[]⟩] 27)
  clear x_a0 x_a1 x_a2 l_a x_b0 x_b1 x_b2 l_b x_r0 x_r1 x_r2 l_r
  generalize w1.alloc (.cells #[.int .i64 p, .int .i64 q, .string ⟨#[]⟩] 27) = V1 at *
  refine (H2.out _).mono ?_
  rintro e w2 ⟨rfl, b2⟩
  have k_a := k_a.below b2 k_a.lt
  have k_b := k_b.below b2 k_b.lt
  have k_r := k_r.below b2 k_r.lt
  have k_x := k_x.below b2 k_x.lt
  have bb := bb.trans (b2.mono bb.size)
  have x_a0 : w2.cell? ⟨w.heap.size, 0, none⟩ = some (.int .i64 k) := by rw [k_a.cell]; rfl
  have x_a1 : w2.cell? ⟨w.heap.size, 1, none⟩ = some (.int .i64 n) := by rw [k_a.cell]; rfl
  have x_a2 : w2.cell? ⟨w.heap.size, 2, none⟩ = some (.string s) := by rw [k_a.cell]; rfl
  have l_a := k_a.lt
  have x_b0 : w2.cell? ⟨w.heap.size + 1, 0, none⟩ = some (.int .i64 (k')) := by rw [k_b.cell]; rfl
  have x_b1 : w2.cell? ⟨w.heap.size + 1, 1, none⟩ = some (.int .i64 (n')) := by rw [k_b.cell]; rfl
  have x_b2 : w2.cell? ⟨w.heap.size + 1, 2, none⟩ = some (.string (s')) := by rw [k_b.cell]; rfl
  have l_b := k_b.lt
  have x_r0 : w2.cell? ⟨w.heap.size + 1 + 1, 0, none⟩ = some (.int .i64 0) := by rw [k_r.cell]; rfl
  have x_r1 : w2.cell? ⟨w.heap.size + 1 + 1, 1, none⟩ = some (.int .i64 0) := by rw [k_r.cell]; rfl
  have x_r2 : w2.cell? ⟨w.heap.size + 1 + 1, 2, none⟩ = some (.string ⟨#[]⟩) := by rw [k_r.cell]; rfl
  have l_r := k_r.lt
  have x_x0 : w2.cell? ⟨w1.heap.size, 0, none⟩ = some (.int .i64 p) := by rw [k_x.cell]; rfl
  have x_x1 : w2.cell? ⟨w1.heap.size, 1, none⟩ = some (.int .i64 q) := by rw [k_x.cell]; rfl
  have x_x2 : w2.cell? ⟨w1.heap.size, 2, none⟩ = some (.string ⟨#[]⟩) := by rw [k_x.cell]; rfl
  have l_x := k_x.lt
  have z_r0 := k_r.frozen 0
  have z_r1 := k_r.frozen 1
  have z_r2 := k_r.frozen 2
  go_wp2
  exact bodyPost_ret (v := .tuple #[VS 0 0 ⟨#[]⟩, .int .i64 e1]) (by simp [results, Tryd.results36, go_sem, x_r0, x_r1, x_r2, l_r]) rfl ⟨rfl, ((((bb).setCell (p := ⟨w.heap.size + 1 + 1, 0, none⟩) (by first | exact Nat.le_refl _ | (simp; done) | (simp; omega) | omega) _).setCell (p := ⟨w.heap.size + 1 + 1, 1, none⟩) (by first | exact Nat.le_refl _ | (simp; done) | (simp; omega) | omega) _).setCell (p := ⟨w.heap.size + 1 + 1, 2, none⟩) (by first | exact Nat.le_refl _ | (simp; done) | (simp; omega) | omega) _).alloc (by first | exact bb.size | (simp; exact bb.size) | (have := bb.size; simp; omega)) _⟩
set_option maxHeartbeats 4000000 in
set_option maxRecDepth 100000 in
theorem cmp_lt_y (w : World) (p q p' q' : Int) (l m ok ok2 : Bool) (hk : (k == 7) = true) (hk' : (k' == 7) = false) (C1 : ∀ W, Calls Tryd.prog 29 #[VS k n s] W (Ret (.tuple #[VN p q, .int .i64 0]) W)) (C2 : ∀ W, Calls Tryd.prog 29 #[VS k' n' s'] W (Ret (.tuple #[VN p' q', .int .i64 0]) W)) (C3 : ∀ W, Calls Tryd.prog 53 #[VN p q, VN p' q'] W (Ret (.tuple #[.bool l, .bool ok]) W)) (C4 : ∀ W, Calls Tryd.prog 53 #[VN p' q', VN p q] W (Ret (.tuple #[.bool m, .bool ok2]) W)) : Calls Tryd.prog 36 #[.string ⟨#[60]⟩, VS k n s, VS k' n' s'] w (Ret (.tuple #[VS 2 (tN l) ⟨#[]⟩, .int .i64 0]) w) := by
  have H1 := Lib.hid C1
  have H2 := Lib.hid C2
  have H3 := Lib.hid C3
  have H4 := Lib.hid C4
  clear C1 C2 C3 C4
  cases l
  all_goals
    have HT := Lib.hid (fun b W => truth_any b W)
    go_enter Tryd.func36, Tryd.ntmps36
    go_wp2_with fail
    have k_a := ((Blk.new w 27 #[.int .i64 k, .int .i64 n, .string s]).alloc (.cells #[.int .i64 (k'), .int .i64 (n'), .string (s')] 27)).alloc (.cells #[.int .i64 0, .int .i64 0, .string ⟨#[]⟩] 27)
    have k_b := (Blk.new (w.alloc (.cells #[.int .i64 k, .int .i64 n, .string s] 27)) 27 #[.int .i64 (k'), .int .i64 (n'), .string (s')]).alloc (.cells #[.int .i64 0, .int .i64 0, .string ⟨#[]⟩] 27)
    rw [World.size_alloc] at k_b
    have k_r := Blk.new ((w.alloc (.cells #[.int .i64 k, .int .i64 n, .string s] 27)).alloc (.cells #[.int .i64 (k'), .int .i64 (n'), .string (s')] 27)) 27 #[.int .i64 0, .int .i64 0, .string ⟨#[]⟩]
    rw [World.size_alloc, World.size_alloc] at k_r
    have bb : Below w.heap.size w _ := ((((Below.refl _ _).alloc (Nat.le_refl _) (.cells #[.int .i64 k, .int .i64 n, .string s] 27)).alloc (by simp) (.cells #[.int .i64 (k'), .int .i64 (n'), .string (s')] 27)).alloc (by simp; omega) (.cells #[.int .i64 0, .int .i64 0, .string ⟨#[]⟩] 27))
    generalize (((w.alloc (.cells #[.int .i64 k, .int .i64 n, .string s] 27)).alloc (.cells #[.int .i64 (k'), .int .i64 (n'), .string (s')] 27)).alloc (.cells #[.int .i64 0, .int .i64 0, .string ⟨#[]⟩] 27)) = W0 at *
    refine (H1.out _).mono ?_
    rintro e w1 ⟨rfl, b1⟩
    have k_a := k_a.below b1 k_a.lt
    have k_b := k_b.below b1 k_b.lt
    have k_r := k_r.below b1 k_r.lt
    have bb := bb.trans (b1.mono bb.size)
    have x_a0 : w1.cell? ⟨w.heap.size, 0, none⟩ = some (.int .i64 k) := by rw [k_a.cell]; rfl
    have x_a1 : w1.cell? ⟨w.heap.size, 1, none⟩ = some (.int .i64 n) := by rw [k_a.cell]; rfl
    have x_a2 : w1.cell? ⟨w.heap.size, 2, none⟩ = some (.string s) := by rw [k_a.cell]; rfl
    have l_a := k_a.lt
    have x_b0 : w1.cell? ⟨w.heap.size + 1, 0, none⟩ = some (.int .i64 (k')) := by rw [k_b.cell]; rfl
    have x_b1 : w1.cell? ⟨w.heap.size + 1, 1, none⟩ = some (.int .i64 (n')) := by rw [k_b.cell]; rfl
    have x_b2 : w1.cell? ⟨w.heap.size + 1, 2, none⟩ = some (.string (s')) := by rw [k_b.cell]; rfl
    have l_b := k_b.lt
    have x_r0 : w1.cell? ⟨w.heap.size + 1 + 1, 0, none⟩ = some (.int .i64 0) := by rw [k_r.cell]; rfl
    have x_r1 : w1.cell? ⟨w.heap.size + 1 + 1, 1, none⟩ = some (.int .i64 0) := by rw [k_r.cell]; rfl
    have x_r2 : w1.cell? ⟨w.heap.size + 1 + 1, 2, none⟩ = some (.string ⟨#[]⟩) := by rw [k_r.cell]; rfl
    have l_r := k_r.lt
    go_wp2_with fail
    have k_a := k_a.alloc (.cells #[.int .i64 p, .int .i64 q, .string ⟨#[]⟩] 27)
    have k_b := k_b.alloc (.cells #[.int .i64 p, .int .i64 q, .string ⟨#[]⟩] 27)
    have k_r := k_r.alloc (.cells #[.int .i64 p, .int .i64 q, .string ⟨#[]⟩] 27)
    have k_x := Blk.new w1 27 #[.int .i64 p, .int .i64 q, .string ⟨#[]⟩]
    have bb := bb.alloc bb.size (.cells #[.int .i64 p, .int .i64 q, .string ⟨#[]⟩] 27)
    clear x_a0 x_a1 x_a2 l_a x_b0 x_b1 x_b2 l_b x_r0 x_r1 x_r2 l_r
    generalize w1.alloc (.cells #[.int .i64 p, .int .i64 q, .string ⟨#[]⟩] 27) = V1 at *
    refine (H2.out _).mono ?_
    rintro e w2 ⟨rfl, b2⟩
    have k_a := k_a.below b2 k_a.lt
    have k_b := k_b.below b2 k_b.lt
    have k_r := k_r.below b2 k_r.lt
    have k_x := k_x.below b2 k_x.lt
    have bb := bb.trans (b2.mono bb.size)
    have x_a0 : w2.cell? ⟨w.heap.size, 0, none⟩ = some (.int .i64 k) := by rw [k_a.cell]; rfl
    have x_a1 : w2.cell? ⟨w.heap.size, 1, none⟩ = some (.int .i64 n) := by rw [k_a.cell]; rfl
    have x_a2 : w2.cell? ⟨w.heap.size, 2, none⟩ = some (.string s) := by rw [k_a.cell]; rfl
    have l_a := k_a.lt
    have x_b0 : w2.cell? ⟨w.heap.size + 1, 0, none⟩ = some (.int .i64 (k')) := by rw [k_b.cell]; rfl
    have x_b1 : w2.cell? ⟨w.heap.size + 1, 1, none⟩ = some (.int .i64 (n')) := by rw [k_b.cell]; rfl
    have x_b2 : w2.cell? ⟨w.heap.size + 1, 2, none⟩ = some (.string (s')) := by rw [k_b.cell]; rfl
    have l_b := k_b.lt
    have x_r0 : w2.cell? ⟨w.heap.size + 1 + 1, 0, none⟩ = some (.int .i64 0) := by rw [k_r.cell]; rfl
    have x_r1 : w2.cell? ⟨w.heap.size + 1 + 1, 1, none⟩ = some (.int .i64 0) := by rw [k_r.cell]; rfl
    have x_r2 : w2.cell? ⟨w.heap.size + 1 + 1, 2, none⟩ = some (.string ⟨#[]⟩) := by rw [k_r.cell]; rfl
    have l_r := k_r.lt
    have x_x0 : w2.cell? ⟨w1.heap.size, 0, none⟩ = some (.int .i64 p) := by rw [k_x.cell]; rfl
    have x_x1 : w2.cell? ⟨w1.heap.size, 1, none⟩ = some (.int .i64 q) := by rw [k_x.cell]; rfl
    have x_x2 : w2.cell? ⟨w1.heap.size, 2, none⟩ = some (.string ⟨#[]⟩) := by rw [k_x.cell]; rfl
    have l_x := k_x.lt
    go_wp2_with fail
    have k_a := k_a.alloc (.cells #[.int .i64 (p'), .int .i64 (q'), .string ⟨#[]⟩] 27)
    have k_b := k_b.alloc (.cells #[.int .i64 (p'), .int .i64 (q'), .string ⟨#[]⟩] 27)
    have k_r := k_r.alloc (.cells #[.int .i64 (p'), .int .i64 (q'), .string ⟨#[]⟩] 27)
    have k_x := k_x.alloc (.cells #[.int .i64 (p'), .int .i64 (q'), .string ⟨#[]⟩] 27)
    have k_y := Blk.new w2 27 #[.int .i64 (p'), .int .i64 (q'), .string ⟨#[]⟩]
    have bb := bb.alloc bb.size (.cells #[.int .i64 (p'), .int .i64 (q'), .string ⟨#[]⟩] 27)
    clear x_a0 x_a1 x_a2 l_a x_b0 x_b1 x_b2 l_b x_r0 x_r1 x_r2 l_r x_x0 x_x1 x_x2 l_x
    generalize w2.alloc (.cells #[.int .i64 (p'), .int .i64 (q'), .string ⟨#[]⟩] 27) = V2 at *
    refine (H3.out _).mono ?_
    rintro e w3 ⟨rfl, b3⟩
    have k_a := k_a.below b3 k_a.lt
    have k_b := k_b.below b3 k_b.lt
    have k_r := k_r.below b3 k_r.lt
    have k_x := k_x.below b3 k_x.lt
    have k_y := k_y.below b3 k_y.lt
    have bb := bb.trans (b3.mono bb.size)
    have x_a0 : w3.cell? ⟨w.heap.size, 0, none⟩ = some (.int .i64 k) := by rw [k_a.cell]; rfl
    have x_a1 : w3.cell? ⟨w.heap.size, 1, none⟩ = some (.int .i64 n) := by rw [k_a.cell]; rfl
    have x_a2 : w3.cell? ⟨w.heap.size, 2, none⟩ = some (.string s) := by rw [k_a.cell]; rfl
    have l_a := k_a.lt
    have x_b0 : w3.cell? ⟨w.heap.size + 1, 0, none⟩ = some (.int .i64 (k')) := by rw [k_b.cell]; rfl
    have x_b1 : w3.cell? ⟨w.heap.size + 1, 1, none⟩ = some (.int .i64 (n')) := by rw [k_b.cell]; rfl
    have x_b2 : w3.cell? ⟨w.heap.size + 1, 2, none⟩ = some (.string (s')) := by rw [k_b.cell]; rfl
    have l_b := k_b.lt
    have x_r0 : w3.cell? ⟨w.heap.size + 1 + 1, 0, none⟩ = some (.int .i64 0) := by rw [k_r.cell]; rfl
    have x_r1 : w3.cell? ⟨w.heap.size + 1 + 1, 1, none⟩ = some (.int .i64 0) := by rw [k_r.cell]; rfl
    have x_r2 : w3.cell? ⟨w.heap.size + 1 + 1, 2, none⟩ = some (.string ⟨#[]⟩) := by rw [k_r.cell]; rfl
    have l_r := k_r.lt
    have x_x0 : w3.cell? ⟨w1.heap.size, 0, none⟩ = some (.int .i64 p) := by rw [k_x.cell]; rfl
    have x_x1 : w3.cell? ⟨w1.heap.size, 1, none⟩ = some (.int .i64 q) := by rw [k_x.cell]; rfl
    have x_x2 : w3.cell? ⟨w1.heap.size, 2, none⟩ = some (.string ⟨#[]⟩) := by rw [k_x.cell]; rfl
    have l_x := k_x.lt
    have x_y0 : w3.cell? ⟨w2.heap.size, 0, none⟩ = some (.int .i64 (p')) := by rw [k_y.cell]; rfl
    have x_y1 : w3.cell? ⟨w2.heap.size, 1, none⟩ = some (.int .i64 (q')) := by rw [k_y.cell]; rfl
    have x_y2 : w3.cell? ⟨w2.heap.size, 2, none⟩ = some (.string ⟨#[]⟩) := by rw [k_y.cell]; rfl
    have l_y := k_y.lt
    go_wp2_with fail
    refine (H4.out _).mono ?_
    rintro e w4 ⟨rfl, b4⟩
    clear x_a0 x_a1 x_a2 l_a x_b0 x_b1 x_b2 l_b x_r0 x_r1 x_r2 l_r x_x0 x_x1 x_x2 l_x x_y0 x_y1 x_y2 l_y
    have k_a := k_a.below b4 k_a.lt
    have k_b := k_b.below b4 k_b.lt
    have k_r := k_r.below b4 k_r.lt
    have k_x := k_x.below b4 k_x.lt
    have k_y := k_y.below b4 k_y.lt
    have bb := bb.trans (b4.mono bb.size)
    have x_a0 : w4.cell? ⟨w.heap.size, 0, none⟩ = some (.int .i64 k) := by rw [k_a.cell]; rfl
    have x_a1 : w4.cell? ⟨w.heap.size, 1, none⟩ = some (.int .i64 n) := by rw [k_a.cell]; rfl
    have x_a2 : w4.cell? ⟨w.heap.size, 2, none⟩ = some (.string s) := by rw [k_a.cell]; rfl
    have l_a := k_a.lt
    have x_b0 : w4.cell? ⟨w.heap.size + 1, 0, none⟩ = some (.int .i64 (k')) := by rw [k_b.cell]; rfl
    have x_b1 : w4.cell? ⟨w.heap.size + 1, 1, none⟩ = some (.int .i64 (n')) := by rw [k_b.cell]; rfl
    have x_b2 : w4.cell? ⟨w.heap.size + 1, 2, none⟩ = some (.string (s')) := by rw [k_b.cell]; rfl
    have l_b := k_b.lt
    have x_r0 : w4.cell? ⟨w.heap.size + 1 + 1, 0, none⟩ = some (.int .i64 0) := by rw [k_r.cell]; rfl
    have x_r1 : w4.cell? ⟨w.heap.size + 1 + 1, 1, none⟩ = some (.int .i64 0) := by rw [k_r.cell]; rfl
    have x_r2 : w4.cell? ⟨w.heap.size + 1 + 1, 2, none⟩ = some (.string ⟨#[]⟩) := by rw [k_r.cell]; rfl
    have l_r := k_r.lt
    have x_x0 : w4.cell? ⟨w1.heap.size, 0, none⟩ = some (.int .i64 p) := by rw [k_x.cell]; rfl
    have x_x1 : w4.cell? ⟨w1.heap.size, 1, none⟩ = some (.int .i64 q) := by rw [k_x.cell]; rfl
    have x_x2 : w4.cell? ⟨w1.heap.size, 2, none⟩ = some (.string ⟨#[]⟩) := by rw [k_x.cell]; rfl
    have l_x := k_x.lt
    have x_y0 : w4.cell? ⟨w2.heap.size, 0, none⟩ = some (.int .i64 (p')) := by rw [k_y.cell]; rfl
    have x_y1 : w4.cell? ⟨w2.heap.size, 1, none⟩ = some (.int .i64 (q')) := by rw [k_y.cell]; rfl
    have x_y2 : w4.cell? ⟨w2.heap.size, 2, none⟩ = some (.string ⟨#[]⟩) := by rw [k_y.cell]; rfl
    have l_y := k_y.lt
    go_wp2_with fail
    refine (HT.out _ _).mono ?_
    rintro e w5 ⟨rfl, b5⟩
    clear x_a0 x_a1 x_a2 l_a x_b0 x_b1 x_b2 l_b x_r0 x_r1 x_r2 l_r x_x0 x_x1 x_x2 l_x x_y0 x_y1 x_y2 l_y
    have k_a := k_a.below b5 k_a.lt
    have k_b := k_b.below b5 k_b.lt
    have k_r := k_r.below b5 k_r.lt
    have k_x := k_x.below b5 k_x.lt
    have k_y := k_y.below b5 k_y.lt
    have bb := bb.trans (b5.mono bb.size)
    have x_a0 : w5.cell? ⟨w.heap.size, 0, none⟩ = some (.int .i64 k) := by rw [k_a.cell]; rfl
    have x_a1 : w5.cell? ⟨w.heap.size, 1, none⟩ = some (.int .i64 n) := by rw [k_a.cell]; rfl
    have x_a2 : w5.cell? ⟨w.heap.size, 2, none⟩ = some (.string s) := by rw [k_a.cell]; rfl
    have l_a := k_a.lt
    have x_b0 : w5.cell? ⟨w.heap.size + 1, 0, none⟩ = some (.int .i64 (k')) := by rw [k_b.cell]; rfl
    have x_b1 : w5.cell? ⟨w.heap.size + 1, 1, none⟩ = some (.int .i64 (n')) := by rw [k_b.cell]; rfl
    have x_b2 : w5.cell? ⟨w.heap.size + 1, 2, none⟩ = some (.string (s')) := by rw [k_b.cell]; rfl
    have l_b := k_b.lt
    have x_r0 : w5.cell? ⟨w.heap.size + 1 + 1, 0, none⟩ = some (.int .i64 0) := by rw [k_r.cell]; rfl
    have x_r1 : w5.cell? ⟨w.heap.size + 1 + 1, 1, none⟩ = some (.int .i64 0) := by rw [k_r.cell]; rfl
    have x_r2 : w5.cell? ⟨w.heap.size + 1 + 1, 2, none⟩ = some (.string ⟨#[]⟩) := by rw [k_r.cell]; rfl
    have l_r := k_r.lt
    have x_x0 : w5.cell? ⟨w1.heap.size, 0, none⟩ = some (.int .i64 p) := by rw [k_x.cell]; rfl
    have x_x1 : w5.cell? ⟨w1.heap.size, 1, none⟩ = some (.int .i64 q) := by rw [k_x.cell]; rfl
    have x_x2 : w5.cell? ⟨w1.heap.size, 2, none⟩ = some (.string ⟨#[]⟩) := by rw [k_x.cell]; rfl
    have l_x := k_x.lt
    have x_y0 : w5.cell? ⟨w2.heap.size, 0, none⟩ = some (.int .i64 (p')) := by rw [k_y.cell]; rfl
    have x_y1 : w5.cell? ⟨w2.heap.size, 1, none⟩ = some (.int .i64 (q')) := by rw [k_y.cell]; rfl
    have x_y2 : w5.cell? ⟨w2.heap.size, 2, none⟩ = some (.string ⟨#[]⟩) := by rw [k_y.cell]; rfl
    have l_y := k_y.lt
    have z_r0 := k_r.frozen 0
    have z_r1 := k_r.frozen 1
    have z_r2 := k_r.frozen 2
    go_wp2
    exact bodyPost_ret (v := .tuple #[VS 2 _ ⟨#[]⟩, .int .i64 0]) (by simp [results, Tryd.results36, go_sem, x_r0, x_r1, x_r2, l_r]) rfl ⟨rfl, (((bb).setCell (p := ⟨w.heap.size + 1 + 1, 0, none⟩) (by first | exact Nat.le_refl _ | (simp; done) | (simp; omega) | omega) _).setCell (p := ⟨w.heap.size + 1 + 1, 1, none⟩) (by first | exact Nat.le_refl _ | (simp; done) | (simp; omega) | omega) _).setCell (p := ⟨w.heap.size + 1 + 1, 2, none⟩) (by first | exact Nat.le_refl _ | (simp; done) | (simp; omega) | omega) _⟩
set_option maxHeartbeats 4000000 in
set_option maxRecDepth 100000 in
theorem cmp_gt_x_e1 (w : World) (p q e1 : Int) (he : ¬ e1 = 0) (hk : (k == 7) = false) (C1 : ∀ W, Calls Tryd.prog 29 #[VS k n s] W (Ret (.tuple #[VN p q, .int .i64 e1]) W)) : Calls Tryd.prog 36 #[.string ⟨#[62]⟩, VS k n s, VS k' n' s'] w (Ret (.tuple #[VS 0 0 ⟨#[]⟩, .int .i64 e1]) w) := by
  have H1 := Lib.hid C1
  clear C1
  have t1 : (e1 != 0) = true := by simpa using he
  have t2 : ¬ e1 = 0 := he
  go_enter Tryd.func36, Tryd.ntmps36
  go_wp2_with fail
  have k_a := ((Blk.new w 27 #[.int .i64 k, .int .i64 n, .string s]).alloc (.cells #[.int .i64 (k'), .int .i64 (n'), .string (s')] 27)).alloc (.cells #[.int .i64 0, .int .i64 0, .string ⟨#[]⟩] 27)
  have k_b := (Blk.new (w.alloc (.cells #[.int .i64 k, .int .i64 n, .string s] 27)) 27 #[.int .i64 (k'), .int .i64 (n'), .string (s')]).alloc (.cells #[.int .i64 0, .int .i64 0, .string ⟨#[]⟩] 27)
  rw [World.size_alloc] at k_b
  have k_r := Blk.new ((w.alloc (.cells #[.int .i64 k, .int .i64 n, .string s] 27)).alloc (.cells #[.int .i64 (k'), .int .i64 (n'), .string (s')] 27)) 27 #[.int .i64 0, .int .i64 0, .string ⟨#[]⟩]
  rw [World.size_alloc, World.size_alloc] at k_r
  have bb : Below w.heap.size w _ := ((((Below.refl _ _).alloc (Nat.le_refl _) (.cells #[.int .i64 k, .int .i64 n, .string s] 27)).alloc (by simp) (.cells #[.int .i64 (k'), .int .i64 (n'), .string (s')] 27)).alloc (by simp; omega) (.cells #[.int .i64 0, .int .i64 0, .string ⟨#[]⟩] 27))
  generalize (((w.alloc (.cells #[.int .i64 k, .int .i64 n, .string s] 27)).alloc (.cells #[.int .i64 (k'), .int .i64 (n'), .string (s')] 27)).alloc (.cells #[.int .i64 0, .int .i64 0, .string ⟨#[]⟩] 27)) = W0 at *
  refine (H1.out _).mono ?_
  rintro e w1 ⟨rfl, b1⟩
  have k_a := k_a.below b1 k_a.lt
  have k_b := k_b.below b1 k_b.lt
  have k_r := k_r.below b1 k_r.lt
  have bb := bb.trans (b1.mono bb.size)
  have x_a0 : w1.cell? ⟨w.heap.size, 0, none⟩ = some (.int .i64 k) := by rw [k_a.cell]; rfl
  have x_a1 : w1.cell? ⟨w.heap.size, 1, none⟩ = some (.int .i64 n) := by rw [k_a.cell]; rfl
  have x_a2 : w1.cell? ⟨w.heap.size, 2, none⟩ = some (.string s) := by rw [k_a.cell]; rfl
  have l_a := k_a.lt
  have x_b0 : w1.cell? ⟨w.heap.size + 1, 0, none⟩ = some (.int .i64 (k')) := by rw [k_b.cell]; rfl
  have x_b1 : w1.cell? ⟨w.heap.size + 1, 1, none⟩ = some (.int .i64 (n')) := by rw [k_b.cell]; rfl
  have x_b2 : w1.cell? ⟨w.heap.size + 1, 2, none⟩ = some (.string (s')) := by rw [k_b.cell]; rfl
  have l_b := k_b.lt
  have x_r0 : w1.cell? ⟨w.heap.size + 1 + 1, 0, none⟩ = some (.int .i64 0) := by rw [k_r.cell]; rfl
  have x_r1 : w1.cell? ⟨w.heap.size + 1 + 1, 1, none⟩ = some (.int .i64 0) := by rw [k_r.cell]; rfl
  have x_r2 : w1.cell? ⟨w.heap.size + 1 + 1, 2, none⟩ = some (.string ⟨#[]⟩) := by rw [k_r.cell]; rfl
  have l_r := k_r.lt
  have z_r0 := k_r.frozen 0
  have z_r1 := k_r.frozen 1
  have z_r2 := k_r.frozen 2
  go_wp2
  exact bodyPost_ret (v := .tuple #[VS 0 0 ⟨#[]⟩, .int .i64 e1]) (by simp [results, Tryd.results36, go_sem, x_r0, x_r1, x_r2, l_r]) rfl ⟨rfl, ((((bb).setCell (p := ⟨w.heap.size + 1 + 1, 0, none⟩) (by first | exact Nat.le_refl _ | (simp; done) | (simp; omega) | omega) _).setCell (p := ⟨w.heap.size + 1 + 1, 1, none⟩) (by first | exact Nat.le_refl _ | (simp; done) | (simp; omega) | omega) _).setCell (p := ⟨w.heap.size + 1 + 1, 2, none⟩) (by first | exact Nat.le_refl _ | (simp; done) | (simp; omega) | omega) _).alloc (by first | exact bb.size | (simp; exact bb.size) | (have := bb.size; simp; omega)) _⟩
set_option maxHeartbeats 4000000 in
set_option maxRecDepth 100000 in
theorem cmp_gt_x_e2 (w : World) (p q p' q' e1 : Int) (he : ¬ e1 = 0) (hk : (k == 7) = false) (C1 : ∀ W, Calls Tryd.prog 29 #[VS k n s] W (Ret (.tuple #[VN p q, .int .i64 0]) W)) (C2 : ∀ W, Calls Tryd.prog 29 #[VS k' n' s'] W (Ret (.tuple #[VN p' q', .int .i64 e1]) W)) : Calls Tryd.prog 36 #[.string ⟨#[62]⟩, VS k n s, VS k' n' s'] w (Ret (.tuple #[VS 0 0 ⟨#[]⟩, .int .i64 e1]) w) := by
  have H1 := Lib.hid C1
  have H2 := Lib.hid C2
  clear C1 C2
  have t1 : (e1 != 0) = true := by simpa using he
  have t2 : ¬ e1 = 0 := he
  go_enter Tryd.func36, Tryd.ntmps36
  go_wp2_with fail
  have k_a := ((Blk.new w 27 #[.int .i64 k, .int .i64 n, .string s]).alloc (.cells #[.int .i64 (k'), .int .i64 (n'), .string (s')] 27)).alloc (.cells #[.int .i64 0, .int .i64 0, .string ⟨#[]⟩] 27)
  have k_b := (Blk.new (w.alloc (.cells #[.int .i64 k, .int .i64 n, .string s] 27)) 27 #[.int .i64 (k'), .int .i64 (n'), .string (s')]).alloc (.cells #[.int .i64 0, .int .i64 0, .string ⟨#[]⟩] 27)
  rw [World.size_alloc] at k_b
  have k_r := Blk.new ((w.alloc (.cells #[.int .i64 k, .int .i64 n, .string s] 27)).alloc (.cells #[.int .i64 (k'), .int .i64 (n'), .string (s')] 27)) 27 #[.int .i64 0, .int .i64 0, .string ⟨#[]⟩]
  rw [World.size_alloc, World.size_alloc] at k_r
  have bb : Below w.heap.size w _ := ((((Below.refl _ _).alloc (Nat.le_refl _) (.cells #[.int .i64 k, .int .i64 n, .string s] 27)).alloc (by simp) (.cells #[.int .i64 (k'), .int .i64 (n'), .string (s')] 27)).alloc (by simp; omega) (.cells #[.int .i64 0, .int .i64 0, .string ⟨#[]⟩] 27))
  generalize (((w.alloc (.cells #[.int .i64 k, .int .i64 n, .string s] 27)).alloc (.cells #[.int .i64 (k'), .int .i64 (n'), .string (s')] 27)).alloc (.cells #[.int .i64 0, .int .i64 0, .string ⟨#[]⟩] 27)) = W0 at *
  refine (H1.out _).mono ?_
  rintro e w1 ⟨rfl, b1⟩
  have k_a := k_a.below b1 k_a.lt
  have k_b := k_b.below b1 k_b.lt
  have k_r := k_r.below b1 k_r.lt
  have bb := bb.trans (b1.mono bb.size)
  have x_a0 : w1.cell? ⟨w.heap.size, 0, none⟩ = some (.int .i64 k) := by rw [k_a.cell]; rfl
  have x_a1 : w1.cell? ⟨w.heap.size, 1, none⟩ = some (.int .i64 n) := by rw [k_a.cell]; rfl
  have x_a2 : w1.cell? ⟨w.heap.size, 2, none⟩ = some (.string s) := by rw [k_a.cell]; rfl
  have l_a := k_a.lt
  have x_b0 : w1.cell? ⟨w.heap.size + 1, 0, none⟩ = some (.int .i64 (k')) := by rw [k_b.cell]; rfl
  have x_b1 : w1.cell? ⟨w.heap.size + 1, 1, none⟩ = some (.int .i64 (n')) := by rw [k_b.cell]; rfl
  have x_b2 : w1.cell? ⟨w.heap.size + 1, 2, none⟩ = some (.string (s')) := by rw [k_b.cell]; rfl
  have l_b := k_b.lt
  have x_r0 : w1.cell? ⟨w.heap.size + 1 + 1, 0, none⟩ = some (.int .i64 0) := by rw [k_r.cell]; rfl
  have x_r1 : w1.cell? ⟨w.heap.size + 1 + 1, 1, none⟩ = some (.int .i64 0) := by rw [k_r.cell]; rfl
  have x_r2 : w1.cell? ⟨w.heap.size + 1 + 1, 2, none⟩ = some (.string ⟨#[]⟩) := by rw [k_r.cell]; rfl
  have l_r := k_r.lt
  go_wp2_with fail
  have k_a := k_a.alloc (.cells #[.int .i64 p, .int .i64 q, .string ⟨#[]⟩] 27)
  have k_b := k_b.alloc (.cells #[.int .i64 p, .int .i64 q, .string ⟨#[]⟩] 27)
  have k_r := k_r.alloc (.cells #[.int .i64 p, .int .i64 q, .string ⟨#[]⟩] 27)
  have k_x := Blk.new w1 27 #[.int .i64 p, .int .i64 q, .string ⟨#[]⟩]
  have bb := bb.alloc bb.size (.cells #[.int .i64 p, .int .i64 q, .string ⟨#[]⟩] 27)
  clear x_a0 x_a1 x_a2 l_a x_b0 x_b1 x_b2 l_b x_r0 x_r1 x_r2 l_r
  generalize w1.alloc (.cells #[.int .i64 p, .int .i64 q, .string ⟨#[]⟩] 27) = V1 at *
  refine (H2.out _).mono ?_
  rintro e w2 ⟨rfl, b2⟩
  have k_a := k_a.below b2 k_a.lt
  have k_b := k_b.below b2 k_b.lt
  have k_r := k_r.below b2 k_r.lt
  have k_x := k_x.below b2 k_x.lt
  have bb := bb.trans (b2.mono bb.size)
  have x_a0 : w2.cell? ⟨w.heap.size, 0, none⟩ = some (.int .i64 k) := by rw [k_a.cell]; rfl
  have x_a1 : w2.cell? ⟨w.heap.size, 1, none⟩ = some (.int .i64 n) := by rw [k_a.cell]; rfl
  have x_a2 : w2.cell? ⟨w.heap.size, 2, none⟩ = some (.string s) := by rw [k_a.cell]; rfl
  have l_a := k_a.lt
  have x_b0 : w2.cell? ⟨w.heap.size + 1, 0, none⟩ = some (.int .i64 (k')) := by rw [k_b.cell]; rfl
  have x_b1 : w2.cell? ⟨w.heap.size + 1, 1, none⟩ = some (.int .i64 (n')) := by rw [k_b.cell]; rfl
  have x_b2 : w2.cell? ⟨w.heap.size + 1, 2, none⟩ = some (.string (s')) := by rw [k_b.cell]; rfl
  have l_b := k_b.lt
  have x_r0 : w2.cell? ⟨w.heap.size + 1 + 1, 0, none⟩ = some (.int .i64 0) := by rw [k_r.cell]; rfl
  have x_r1 : w2.cell? ⟨w.heap.size + 1 + 1, 1, none⟩ = some (.int .i64 0) := by rw [k_r.cell]; rfl
  have x_r2 : w2.cell? ⟨w.heap.size + 1 + 1, 2, none⟩ = some (.string ⟨#[]⟩) := by rw [k_r.cell]; rfl
  have l_r := k_r.lt
  have x_x0 : w2.cell? ⟨w1.heap.size, 0, none⟩ = some (.int .i64 p) := by rw [k_x.cell]; rfl
  have x_x1 : w2.cell? ⟨w1.heap.size, 1, none⟩ = some (.int .i64 q) := by rw [k_x.cell]; rfl
  have x_x2 : w2.cell? ⟨w1.heap.size, 2, none⟩ = some (.string ⟨#[]⟩) := by rw [k_x.cell]; rfl
  have l_x := k_x.lt
  have z_r0 := k_r.frozen 0
  have z_r1 := k_r.frozen 1
  have z_r2 := k_r.frozen 2
  go_wp2
  exact bodyPost_ret (v := .tuple #[VS 0 0 ⟨#[]⟩, .int .i64 e1]) (by simp [results, Tryd.results36, go_sem, x_r0, x_r1, x_r2, l_r]) rfl ⟨rfl, ((((bb).setCell (p := ⟨w.heap.size + 1 + 1, 0, none⟩) (by first | exact Nat.le_refl _ | (simp; done) | (simp; omega) | omega) _).setCell (p := ⟨w.heap.size + 1 + 1, 1, none⟩) (by first | exact Nat.le_refl _ | (simp; done) | (simp; omega) | omega) _).setCell (p := ⟨w.heap.size + 1 + 1, 2, none⟩) (by first | exact Nat.le_refl _ | (simp; done) | (simp; omega) | omega) _).alloc (by first | exact bb.size | (simp; exact bb.size) | (have := bb.size; simp; omega)) _⟩
set_option maxHeartbeats 4000000 in
set_option maxRecDepth 100000 in
theorem cmp_gt_x (w : World) (p q p' q' : Int) (l m ok ok2 : Bool) (hk : (k == 7) = false) (C1 : ∀ W, Calls Tryd.prog 29 #[VS k n s] W (Ret (.tuple #[VN p q, .int .i64 0]) W)) (C2 : ∀ W, Calls Tryd.prog 29 #[VS k' n' s'] W (Ret (.tuple #[VN p' q', .int .i64 0]) W)) (C3 : ∀ W, Calls Tryd.prog 53 #[VN p q, VN p' q'] W (Ret (.tuple #[.bool l, .bool ok]) W)) (C4 : ∀ W, Calls Tryd.prog 53 #[VN p' q', VN p q] W (Ret (.tuple #[.bool m, .bool ok2]) W)) : Calls Tryd.prog 36 #[.string ⟨#[62]⟩, VS k n s, VS k' n' s'] w (Ret (.tuple #[VS 2 (tN m) ⟨#[]⟩, .int .i64 0]) w) := by
  have H1 := Lib.hid C1
  have H2 := Lib.hid C2
  have H3 := Lib.hid C3
  have H4 := Lib.hid C4
  clear C1 C2 C3 C4
  cases m
  all_goals
    have HT := Lib.hid (fun b W => truth_any b W)
    go_enter Tryd.func36, Tryd.ntmps36
    go_wp2_with fail
    have k_a := ((Blk.new w 27 #[.int .i64 k, .int .i64 n, .string s]).alloc (.cells #[.int .i64 (k'), .int .i64 (n'), .string (s')] 27)).alloc (.cells #[.int .i64 0, .int .i64 0, .string ⟨#[]⟩] 27)
    have k_b := (Blk.new (w.alloc (.cells #[.int .i64 k, .int .i64 n, .string s] 27)) 27 #[.int .i64 (k'), .int .i64 (n'), .string (s')]).alloc (.cells #[.int .i64 0, .int .i64 0, .string ⟨#[]⟩] 27)
    rw [World.size_alloc] at k_b
    have k_r := Blk.new ((w.alloc (.cells #[.int .i64 k, .int .i64 n, .string s] 27)).alloc (.cells #[.int .i64 (k'), .int .i64 (n'), .string (s')] 27)) 27 #[.int .i64 0, .int .i64 0, .string ⟨#[]⟩]
    rw [World.size_alloc, World.size_alloc] at k_r
    have bb : Below w.heap.size w _ := ((((Below.refl _ _).alloc (Nat.le_refl _) (.cells #[.int .i64 k, .int .i64 n, .string s] 27)).alloc (by simp) (.cells #[.int .i64 (k'), .int .i64 (n'), .string (s')] 27)).alloc (by simp; omega) (.cells #[.int .i64 0, .int .i64 0, .string ⟨#[]⟩] 27))
    generalize (((w.alloc (.cells #[.int .i64 k, .int .i64 n, .string s] 27)).alloc (.cells #[.int .i64 (k'), .int .i64 (n'), .string (s')] 27)).alloc (.cells #[.int .i64 0, .int .i64 0, .string ⟨#[]⟩] 27)) = W0 at *
    refine (H1.out _).mono ?_
    rintro e w1 ⟨rfl, b1⟩
    have k_a := k_a.below b1 k_a.lt
    have k_b := k_b.below b1 k_b.lt
    have k_r := k_r.below b1 k_r.lt
    have bb := bb.trans (b1.mono bb.size)
    have x_a0 : w1.cell? ⟨w.heap.size, 0, none⟩ = some (.int .i64 k) := by rw [k_a.cell]; rfl
    have x_a1 : w1.cell? ⟨w.heap.size, 1, none⟩ = some (.int .i64 n) := by rw [k_a.cell]; rfl
    have x_a2 : w1.cell? ⟨w.heap.size, 2, none⟩ = some (.string s) := by rw [k_a.cell]; rfl
    have l_a := k_a.lt
    have x_b0 : w1.cell? ⟨w.heap.size + 1, 0, none⟩ = some (.int .i64 (k')) := by rw [k_b.cell]; rfl
    have x_b1 : w1.cell? ⟨w.heap.size + 1, 1, none⟩ = some (.int .i64 (n')) := by rw [k_b.cell]; rfl
    have x_b2 : w1.cell? ⟨w.heap.size + 1, 2, none⟩ = some (.string (s')) := by rw [k_b.cell]; rfl
    have l_b := k_b.lt
    have x_r0 : w1.cell? ⟨w.heap.size + 1 + 1, 0, none⟩ = some (.int .i64 0) := by rw [k_r.cell]; rfl
    have x_r1 : w1.cell? ⟨w.heap.size + 1 + 1, 1, none⟩ = some (.int .i64 0) := by rw [k_r.cell]; rfl
    have x_r2 : w1.cell? ⟨w.heap.size + 1 + 1, 2, none⟩ = some (.string ⟨#[]⟩) := by rw [k_r.cell]; rfl
    have l_r := k_r.lt
    go_wp2_with fail
    have k_a := k_a.alloc (.cells #[.int .i64 p, .int .i64 q, .string ⟨#[]⟩] 27)
    have k_b := k_b.alloc (.cells #[.int .i64 p, .int .i64 q, .string ⟨#[]⟩] 27)
    have k_r := k_r.alloc (.cells #[.int .i64 p, .int .i64 q, .string ⟨#[]⟩] 27)
    have k_x := Blk.new w1 27 #[.int .i64 p, .int .i64 q, .string ⟨#[]⟩]
    have bb := bb.alloc bb.size (.cells #[.int .i64 p, .int .i64 q, .string ⟨#[]⟩] 27)
    clear x_a0 x_a1 x_a2 l_a x_b0 x_b1 x_b2 l_b x_r0 x_r1 x_r2 l_r
    generalize w1.alloc (.cells #[.int .i64 p, .int .i64 q, .string ⟨#[]⟩] 27) = V1 at *
    refine (H2.out _).mono ?_
    rintro e w2 ⟨rfl, b2⟩
    have k_a := k_a.below b2 k_a.lt
    have k_b := k_b.below b2 k_b.lt
    have k_r := k_r.below b2 k_r.lt
    have k_x := k_x.below b2 k_x.lt
    have bb := bb.trans (b2.mono bb.size)
    have x_a0 : w2.cell? ⟨w.heap.size, 0, none⟩ = some (.int .i64 k) := by rw [k_a.cell]; rfl
    have x_a1 : w2.cell? ⟨w.heap.size, 1, none⟩ = some (.int .i64 n) := by rw [k_a.cell]; rfl
    have x_a2 : w2.cell? ⟨w.heap.size, 2, none⟩ = some (.string s) := by rw [k_a.cell]; rfl
    have l_a := k_a.lt
    have x_b0 : w2.cell? ⟨w.heap.size + 1, 0, none⟩ = some (.int .i64 (k')) := by rw [k_b.cell]; rfl
    have x_b1 : w2.cell? ⟨w.heap.size + 1, 1, none⟩ = some (.int .i64 (n')) := by rw [k_b.cell]; rfl
    have x_b2 : w2.cell? ⟨w.heap.size + 1, 2, none⟩ = some (.string (s')) := by rw [k_b.cell]; rfl
    have l_b := k_b.lt
    have x_r0 : w2.cell? ⟨w.heap.size + 1 + 1, 0, none⟩ = some (.int .i64 0) := by rw [k_r.cell]; rfl
    have x_r1 : w2.cell? ⟨w.heap.size + 1 + 1, 1, none⟩ = some (.int .i64 0) := by rw [k_r.cell]; rfl
    have x_r2 : w2.cell? ⟨w.heap.size + 1 + 1, 2, none⟩ = some (.string ⟨#[]⟩) := by rw [k_r.cell]; rfl
    have l_r := k_r.lt
    have x_x0 : w2.cell? ⟨w1.heap.size, 0, none⟩ = some (.int .i64 p) := by rw [k_x.cell]; rfl
    have x_x1 : w2.cell? ⟨w1.heap.size, 1, none⟩ = some (.int .i64 q) := by rw [k_x.cell]; rfl
    have x_x2 : w2.cell? ⟨w1.heap.size, 2, none⟩ = some (.string ⟨#[]⟩) := by rw [k_x.cell]; rfl
    have l_x := k_x.lt
    go_wp2_with fail
    have k_a := k_a.alloc (.cells #[.int .i64 (p'), .int .i64 (q'), .string ⟨#[]⟩] 27)
    have k_b := k_b.alloc (.cells #[.int .i64 (p'), .int .i64 (q'), .string ⟨#[]⟩] 27)
    have k_r := k_r.alloc (.cells #[.int .i64 (p'), .int .i64 (q'), .string ⟨#[]⟩] 27)
    have k_x := k_x.alloc (.cells #[.int .i64 (p'), .int .i64 (q'), .string ⟨#[]⟩] 27)
    have k_y := Blk.new w2 27 #[.int .i64 (p'), .int .i64 (q'), .string ⟨#[]⟩]
    have bb := bb.alloc bb.size (.cells #[.int .i64 (p'), .int .i64 (q'), .string ⟨#[]⟩] 27)
    clear x_a0 x_a1 x_a2 l_a x_b0 x_b1 x_b2 l_b x_r0 x_r1 x_r2 l_r x_x0 x_x1 x_x2 l_x
    generalize w2.alloc (.cells #[.int .i64 (p'), .int .i64 (q'), .string ⟨#[]⟩] 27) = V2 at *
    refine (H3.out _).mono ?_
    rintro e w3 ⟨rfl, b3⟩
    have k_a := k_a.below b3 k_a.lt
    have k_b := k_b.below b3 k_b.lt
    have k_r := k_r.below b3 k_r.lt
    have k_x := k_x.below b3 k_x.lt
    have k_y := k_y.below b3 k_y.lt
    have bb := bb.trans (b3.mono bb.size)
    have x_a0 : w3.cell? ⟨w.heap.size, 0, none⟩ = some (.int .i64 k) := by rw [k_a.cell]; rfl
    have x_a1 : w3.cell? ⟨w.heap.size, 1, none⟩ = some (.int .i64 n) := by rw [k_a.cell]; rfl
    have x_a2 : w3.cell? ⟨w.heap.size, 2, none⟩ = some (.string s) := by rw [k_a.cell]; rfl
    have l_a := k_a.lt
    have x_b0 : w3.cell? ⟨w.heap.size + 1, 0, none⟩ = some (.int .i64 (k')) := by rw [k_b.cell]; rfl
    have x_b1 : w3.cell? ⟨w.heap.size + 1, 1, none⟩ = some (.int .i64 (n')) := by rw [k_b.cell]; rfl
    have x_b2 : w3.cell? ⟨w.heap.size + 1, 2, none⟩ = some (.string (s')) := by rw [k_b.cell]; rfl
    have l_b := k_b.lt
    have x_r0 : w3.cell? ⟨w.heap.size + 1 + 1, 0, none⟩ = some (.int .i64 0) := by rw [k_r.cell]; rfl
    have x_r1 : w3.cell? ⟨w.heap.size + 1 + 1, 1, none⟩ = some (.int .i64 0) := by rw [k_r.cell]; rfl
    have x_r2 : w3.cell? ⟨w.heap.size + 1 + 1, 2, none⟩ = some (.string ⟨#[]⟩) := by rw [k_r.cell]; rfl
    have l_r := k_r.lt
    have x_x0 : w3.cell? ⟨w1.heap.size, 0, none⟩ = some (.int .i64 p) := by rw [k_x.cell]; rfl
    have x_x1 : w3.cell? ⟨w1.heap.size, 1, none⟩ = some (.int .i64 q) := by rw [k_x.cell]; rfl
    have x_x2 : w3.cell? ⟨w1.heap.size, 2, none⟩ = some (.string ⟨#[]⟩) := by rw [k_x.cell]; rfl
    have l_x := k_x.lt
    have x_y0 : w3.cell? ⟨w2.heap.size, 0, none⟩ = some (.int .i64 (p')) := by rw [k_y.cell]; rfl
    have x_y1 : w3.cell? ⟨w2.heap.size, 1, none⟩ = some (.int .i64 (q')) := by rw [k_y.cell]; rfl
    have x_y2 : w3.cell? ⟨w2.heap.size, 2, none⟩ = some (.string ⟨#[]⟩) := by rw [k_y.cell]; rfl
    have l_y := k_y.lt
    go_wp2_with fail
    refine (H4.out _).mono ?_
    rintro e w4 ⟨rfl, b4⟩
    clear x_a0 x_a1 x_a2 l_a x_b0 x_b1 x_b2 l_b x_r0 x_r1 x_r2 l_r x_x0 x_x1 x_x2 l_x x_y0 x_y1 x_y2 l_y
    have k_a := k_a.below b4 k_a.lt
    have k_b := k_b.below b4 k_b.lt
    have k_r := k_r.below b4 k_r.lt
    have k_x := k_x.below b4 k_x.lt
    have k_y := k_y.below b4 k_y.lt
    have bb := bb.trans (b4.mono bb.size)
    have x_a0 : w4.cell? ⟨w.heap.size, 0, none⟩ = some (.int .i64 k) := by rw [k_a.cell]; rfl
    have x_a1 : w4.cell? ⟨w.heap.size, 1, none⟩ = some (.int .i64 n) := by rw [k_a.cell]; rfl
    have x_a2 : w4.cell? ⟨w.heap.size, 2, none⟩ = some (.string s) := by rw [k_a.cell]; rfl
    have l_a := k_a.lt
    have x_b0 : w4.cell? ⟨w.heap.size + 1, 0, none⟩ = some (.int .i64 (k')) := by rw [k_b.cell]; rfl
    have x_b1 : w4.cell? ⟨w.heap.size + 1, 1, none⟩ = some (.int .i64 (n')) := by rw [k_b.cell]; rfl
    have x_b2 : w4.cell? ⟨w.heap.size + 1, 2, none⟩ = some (.string (s')) := by rw [k_b.cell]; rfl
    have l_b := k_b.lt
    have x_r0 : w4.cell? ⟨w.heap.size + 1 + 1, 0, none⟩ = some (.int .i64 0) := by rw [k_r.cell]; rfl
    have x_r1 : w4.cell? ⟨w.heap.size + 1 + 1, 1, none⟩ = some (.int .i64 0) := by rw [k_r.cell]; rfl
    have x_r2 : w4.cell? ⟨w.heap.size + 1 + 1, 2, none⟩ = some (.string ⟨#[]⟩) := by rw [k_r.cell]; rfl
    have l_r := k_r.lt
    have x_x0 : w4.cell? ⟨w1.heap.size, 0, none⟩ = some (.int .i64 p) := by rw [k_x.cell]; rfl
    have x_x1 : w4.cell? ⟨w1.heap.size, 1, none⟩ = some (.int .i64 q) := by rw [k_x.cell]; rfl
    have x_x2 : w4.cell? ⟨w1.heap.size, 2, none⟩ = some (.string ⟨#[]⟩) := by rw [k_x.cell]; rfl
    have l_x := k_x.lt
    have x_y0 : w4.cell? ⟨w2.heap.size, 0, none⟩ = some (.int .i64 (p')) := by rw [k_y.cell]; rfl
    have x_y1 : w4.cell? ⟨w2.heap.size, 1, none⟩ = some (.int .i64 (q')) := by rw [k_y.cell]; rfl
    have x_y2 : w4.cell? ⟨w2.heap.size, 2, none⟩ = some (.string ⟨#[]⟩) := by rw [k_y.cell]; rfl
    have l_y := k_y.lt
    go_wp2_with fail
    refine (HT.out _ _).mono ?_
    rintro e w5 ⟨rfl, b5⟩
    clear x_a0 x_a1 x_a2 l_a x_b0 x_b1 x_b2 l_b x_r0 x_r1 x_r2 l_r x_x0 x_x1 x_x2 l_x x_y0 x_y1 x_y2 l_y
    have k_a := k_a.below b5 k_a.lt
    have k_b := k_b.below b5 k_b.lt
    have k_r := k_r.below b5 k_r.lt
    have k_x := k_x.below b5 k_x.lt
    have k_y := k_y.below b5 k_y.lt
    have bb := bb.trans (b5.mono bb.size)
    have x_a0 : w5.cell? ⟨w.heap.size, 0, none⟩ = some (.int .i64 k) := by rw [k_a.cell]; rfl
    have x_a1 : w5.cell? ⟨w.heap.size, 1, none⟩ = some (.int .i64 n) := by rw [k_a.cell]; rfl
    have x_a2 : w5.cell? ⟨w.heap.size, 2, none⟩ = some (.string s) := by rw [k_a.cell]; rfl
    have l_a := k_a.lt
    have x_b0 : w5.cell? ⟨w.heap.size + 1, 0, none⟩ = some (.int .i64 (k')) := by rw [k_b.cell]; rfl
    have x_b1 : w5.cell? ⟨w.heap.size + 1, 1, none⟩ = some (.int .i64 (n')) := by rw [k_b.cell]; rfl
    have x_b2 : w5.cell? ⟨w.heap.size + 1, 2, none⟩ = some (.string (s')) := by rw [k_b.cell]; rfl
    have l_b := k_b.lt
    have x_r0 : w5.cell? ⟨w.heap.size + 1 + 1, 0, none⟩ = some (.int .i64 0) := by rw [k_r.cell]; rfl
    have x_r1 : w5.cell? ⟨w.heap.size + 1 + 1, 1, none⟩ = some (.int .i64 0) := by rw [k_r.cell]; rfl
    have x_r2 : w5.cell? ⟨w.heap.size + 1 + 1, 2, none⟩ = some (.string ⟨#[]⟩) := by rw [k_r.cell]; rfl
    have l_r := k_r.lt
    have x_x0 : w5.cell? ⟨w1.heap.size, 0, none⟩ = some (.int .i64 p) := by rw [k_x.cell]; rfl
    have x_x1 : w5.cell? ⟨w1.heap.size, 1, none⟩ = some (.int .i64 q) := by rw [k_x.cell]; rfl
    have x_x2 : w5.cell? ⟨w1.heap.size, 2, none⟩ = some (.string ⟨#[]⟩) := by rw [k_x.cell]; rfl
    have l_x := k_x.lt
    have x_y0 : w5.cell? ⟨w2.heap.size, 0, none⟩ = some (.int .i64 (p')) := by rw [k_y.cell]; rfl
    have x_y1 : w5.cell? ⟨w2.heap.size, 1, none⟩ = some (.int .i64 (q')) := by rw [k_y.cell]; rfl
    have x_y2 : w5.cell? ⟨w2.heap.size, 2, none⟩ = some (.string ⟨#[]⟩) := by rw [k_y.cell]; rfl
    have l_y := k_y.lt
    have z_r0 := k_r.frozen 0
    have z_r1 := k_r.frozen 1
    have z_r2 := k_r.frozen 2
    go_wp2
    exact bodyPost_ret (v := .tuple #[VS 2 _ ⟨#[]⟩, .int .i64 0]) (by simp [results, Tryd.results36, go_sem, x_r0, x_r1, x_r2, l_r]) rfl ⟨rfl, (((bb).setCell (p := ⟨w.heap.size + 1 + 1, 0, none⟩) (by first | exact Nat.le_refl _ | (simp; done) | (simp; omega) | omega) _).setCell (p := ⟨w.heap.size + 1 + 1, 1, none⟩) (by first | exact Nat.le_refl _ | (simp; done) | (simp; omega) | omega) _).setCell (p := ⟨w.heap.size + 1 + 1, 2, none⟩) (by first | exact Nat.le_refl _ | (simp; done) | (simp; omega) | omega) _⟩
set_option maxHeartbeats 4000000 in
set_option maxRecDepth 100000 in
theorem cmp_gt_y_e1 (w : World) (p q e1 : Int) (he : ¬ e1 = 0) (hk : (k == 7) = true) (hk' : (k' == 7) = false) (C1 : ∀ W, Calls Tryd.prog 29 #[VS k n s] W (Ret (.tuple #[VN p q, .int .i64 e1]) W)) : Calls Tryd.prog 36 #[.string ⟨#[62]⟩, VS k n s, VS k' n' s'] w (Ret (.tuple #[VS 0 0 ⟨#[]⟩, .int .i64 e1]) w) := by
  have H1 := Lib.hid C1
  clear C1
  have t1 : (e1 != 0) = true := by simpa using he
  have t2 : ¬ e1 = 0 := he
  go_enter Tryd.func36, Tryd.ntmps36
  go_wp2_with fail
  have k_a := ((Blk.new w 27 #[.int .i64 k, .int .i64 n, .string s]).alloc (.cells #[.int .i64 (k'), .int .i64 (n'), .string (s')] 27)).alloc (.cells #[.int .i64 0, .int .i64 0, .string ⟨#[]⟩] 27)
  have k_b := (Blk.new (w.alloc (.cells #[.int .i64 k, .int .i64 n, .string s] 27)) 27 #[.int .i64 (k'), .int .i64 (n'), .string (s')]).alloc (.cells #[.int .i64 0, .int .i64 0, .string ⟨#[]⟩] 27)
  rw [World.size_alloc] at k_b
  have k_r := Blk.new ((w.alloc (.cells #[.int .i64 k, .int .i64 n, .string s] 27)).alloc (.cells #[.int .i64 (k'), .int .i64 (n'), .string (s')] 27)) 27 #[.int .i64 0, .int .i64 0, .string ⟨#[]⟩]
  rw [World.size_alloc, World.size_alloc] at k_r
  have bb : Below w.heap.size w _ := ((((Below.refl _ _).alloc (Nat.le_refl _) (.cells #[.int .i64 k, .int .i64 n, .string s] 27)).alloc (by simp) (.cells #[.int .i64 (k'), .int .i64 (n'), .string (s')] 27)).alloc (by simp; omega) (.cells #[.int .i64 0, .int .i64 0, .string ⟨#[]⟩] 27))
  generalize (((w.alloc (.cells #[.int .i64 k, .int .i64 n, .string s] 27)).alloc (.cells #[.int .i64 (k'), .int .i64 (n'), .string (s')] 27)).alloc (.cells #[.int .i64 0, .int .i64 0, .string ⟨#[]⟩] 27)) = W0 at *
  refine (H1.out _).mono ?_
  rintro e w1 ⟨rfl, b1⟩
  have k_a := k_a.below b1 k_a.lt
  have k_b := k_b.below b1 k_b.lt
  have k_r := k_r.below b1 k_r.lt
  have bb := bb.trans (b1.mono bb.size)
  have x_a0 : w1.cell? ⟨w.heap.size, 0, none⟩ = some (.int .i64 k) := by rw [k_a.cell]; rfl
  have x_a1 : w1.cell? ⟨w.heap.size, 1, none⟩ = some (.int .i64 n) := by rw [k_a.cell]; rfl
  have x_a2 : w1.cell? ⟨w.heap.size, 2, none⟩ = some (.string s) := by rw [k_a.cell]; rfl
  have l_a := k_a.lt
  have x_b0 : w1.cell? ⟨w.heap.size + 1, 0, none⟩ = some (.int .i64 (k')) := by rw [k_b.cell]; rfl
  have x_b1 : w1.cell? ⟨w.heap.size + 1, 1, none⟩ = some (.int .i64 (n')) := by rw [k_b.cell]; rfl
  have x_b2 : w1.cell? ⟨w.heap.size + 1, 2, none⟩ = some (.string (s')) := by rw [k_b.cell]; rfl
  have l_b := k_b.lt
  have x_r0 : w1.cell? ⟨w.heap.size + 1 + 1, 0, none⟩ = some (.int .i64 0) := by rw [k_r.cell]; rfl
  have x_r1 : w1.cell? ⟨w.heap.size + 1 + 1, 1, none⟩ = some (.int .i64 0) := by rw [k_r.cell]; rfl
  have x_r2 : w1.cell? ⟨w.heap.size + 1 + 1, 2, none⟩ = some (.string ⟨#[]⟩) := by rw [k_r.cell]; rfl
  have l_r := k_r.lt
  have z_r0 := k_r.frozen 0
  have z_r1 := k_r.frozen 1
  have z_r2 := k_r.frozen 2
  go_wp2
  exact bodyPost_ret (v := .tuple #[VS 0 0 ⟨#[]⟩, .int .i64 e1]) (by simp [results, Tryd.results36, go_sem, x_r0, x_r1, x_r2, l_r]) rfl ⟨rfl, ((((bb).setCell (p := ⟨w.heap.size + 1 + 1, 0, none⟩) (by first | exact Nat.le_refl _ | (simp; done) | (simp; omega) | omega) _).setCell (p := ⟨w.heap.size + 1 + 1, 1, none⟩) (by first | exact Nat.le_refl _ | (simp; done) | (simp; omega) | omega) _).setCell (p := ⟨w.heap.size + 1 + 1, 2, none⟩) (by first | exact Nat.le_refl _ | (simp; done) | (simp; omega) | omega) _).alloc (by first | exact bb.size | (simp; exact bb.size) | (have := bb.size; simp; omega)) _⟩
set_option maxHeartbeats 4000000 in
set_option maxRecDepth 100000 in
theorem cmp_gt_y_e2 (w : World) (p q p' q' e1 : Int) (he : ¬ e1 = 0) (hk : (k == 7) = true) (hk' : (k' == 7) = false) (C1 : ∀ W, Calls Tryd.prog 29 #[VS k n s] W (Ret (.tuple #[VN p q, .int .i64 0]) W)) (C2 : ∀ W, Calls Tryd.prog 29 #[VS k' n' s'] W (Ret (.tuple #[VN p' q', .int .i64 e1]) W)) : Calls Tryd.prog 36 #[.string ⟨#[62]⟩, VS k n s, VS k' n' s'] w (Ret (.tuple #[VS 0 0 ⟨#[]⟩, .int .i64 e1]) w) := by
  have H1 := Lib.hid C1
  have H2 := Lib.hid C2
  clear C1 C2
  have t1 : (e1 != 0) = true := by simpa using he
  have t2 : ¬ e1 = 0 := he
  go_enter Tryd.func36, Tryd.ntmps36
  go_wp2_with fail
  have k_a := ((Blk.new w 27 #[.int .i64 k, .int .i64 n, .string s]).alloc (.cells #[.int .i64 (k'), .int .i64 (n'), .string (s')] 27)).alloc (.cells #[.int .i64 0, .int .i64 0, .string ⟨#[]⟩] 27)
  have k_b := (Blk.new (w.alloc (.cells #[.int .i64 k, .int .i64 n, .string s] 27)) 27 #[.int .i64 (k'), .int .i64 (n'), .string (s')]).alloc (.cells #[.int .i64 0, .int .i64 0, .string ⟨#[]⟩] 27)
  rw [World.size_alloc] at k_b
  have k_r := Blk.new ((w.alloc (.cells #[.int .i64 k, .int .i64 n, .string s] 27)).alloc (.cells #[.int .i64 (k'), .int .i64 (n'), .string (s')] 27)) 27 #[.int .i64 0, .int .i64 0, .string ⟨#[]⟩]
  rw [World.size_alloc, World.size_alloc] at k_r
  have bb : Below w.heap.size w _ := ((((Below.refl _ _).alloc (Nat.le_refl _) (.cells #[.int .i64 k, .int .i64 n, .string s] 27)).alloc (by simp) (.cells #[.int .i64 (k'), .int .i64 (n'), .string (s')] 27)).alloc (by simp; omega) (.cells #[.int .i64 0, .int .i64 0, .string ⟨#[]⟩] 27))
  generalize (((w.alloc (.cells #[.int .i64 k, .int .i64 n, .string s] 27)).alloc (.cells #[.int .i64 (k'), .int .i64 (n'), .string (s')] 27)).alloc (.cells #[.int .i64 0, .int .i64 0, .string ⟨#[]⟩] 27)) = W0 at *
  refine (H1.out _).mono ?_
  rintro e w1 ⟨rfl, b1⟩
  have k_a := k_a.below b1 k_a.lt
  have k_b := k_b.below b1 k_b.lt
  have k_r := k_r.below b1 k_r.lt
  have bb := bb.trans (b1.mono bb.size)
  have x_a0 : w1.cell? ⟨w.heap.size, 0, none⟩ = some (.int .i64 k) := by rw [k_a.cell]; rfl
  have x_a1 : w1.cell? ⟨w.heap.size, 1, none⟩ = some (.int .i64 n) := by rw [k_a.cell]; rfl
  have x_a2 : w1.cell? ⟨w.heap.size, 2, none⟩ = some (.string s) := by rw [k_a.cell]; rfl
  have l_a := k_a.lt
  have x_b0 : w1.cell? ⟨w.heap.size + 1, 0, none⟩ = some (.int .i64 (k')) := by rw [k_b.cell]; rfl
  have x_b1 : w1.cell? ⟨w.heap.size + 1, 1, none⟩ = some (.int .i64 (n')) := by rw [k_b.cell]; rfl
  have x_b2 : w1.cell? ⟨w.heap.size + 1, 2, none⟩ = some (.string (s')) := by rw [k_b.cell]; rfl
  have l_b := k_b.lt
  have x_r0 : w1.cell? ⟨w.heap.size + 1 + 1, 0, none⟩ = some (.int .i64 0) := by rw [k_r.cell]; rfl
  have x_r1 : w1.cell? ⟨w.heap.size + 1 + 1, 1, none⟩ = some (.int .i64 0) := by rw [k_r.cell]; rfl
  have x_r2 : w1.cell? ⟨w.heap.size + 1 + 1, 2, none⟩ = some (.string ⟨#[]⟩) := by rw [k_r.cell]; rfl
  have l_r := k_r.lt
  go_wp2_with fail
  have k_a := k_a.alloc (.cells #[.int .i64 p, .int .i64 q, .string ⟨#[]⟩] 27)
  have k_b := k_b.alloc (.cells #[.int .i64 p, .int .i64 q, .string ⟨#[]⟩] 27)
  have k_r := k_r.alloc (.cells #[.int .i64 p, .int .i64 q, .string ⟨#[]⟩] 27)
  have k_x := Blk.new w1 27 #[.int .i64 p, .int .i64 q, .string ⟨#[]⟩]
  have bb := bb.alloc bb.size (.cells #[.int .i64 p, .int .i64 q, .string ⟨#[]⟩] 27)
  clear x_a0 x_a1 x_a2 l_a x_b0 x_b1 x_b2 l_b x_r0 x_r1 x_r2 l_r
  generalize w1.alloc (.cells #[.int .i64 p, .int .i64 q, .string ⟨#[]⟩] 27) = V1 at *
  refine (H2.out _).mono ?_
  rintro e w2 ⟨rfl, b2⟩
  have k_a := k_a.below b2 k_a.lt
  have k_b := k_b.below b2 k_b.lt
  have k_r := k_r.below b2 k_r.lt
  have k_x := k_x.below b2 k_x.lt
  have bb := bb.trans (b2.mono bb.size)
  have x_a0 : w2.cell? ⟨w.heap.size, 0, none⟩ = some (.int .i64 k) := by rw [k_a.cell]; rfl
  have x_a1 : w2.cell? ⟨w.heap.size, 1, none⟩ = some (.int .i64 n) := by rw [k_a.cell]; rfl
  have x_a2 : w2.cell? ⟨w.heap.size, 2, none⟩ = some (.string s) := by rw [k_a.cell]; rfl
  have l_a := k_a.lt
  have x_b0 : w2.cell? ⟨w.heap.size + 1, 0, none⟩ = some (.int .i64 (k')) := by rw [k_b.cell]; rfl
  have x_b1 : w2.cell? ⟨w.heap.size + 1, 1, none⟩ = some (.int .i64 (n')) := by rw [k_b.cell]; rfl
  have x_b2 : w2.cell? ⟨w.heap.size + 1, 2, none⟩ = some (.string (s')) := by rw [k_b.cell]; rfl
  have l_b := k_b.lt
  have x_r0 : w2.cell? ⟨w.heap.size + 1 + 1, 0, none⟩ = some (.int .i64 0) := by rw [k_r.cell]; rfl
  have x_r1 : w2.cell? ⟨w.heap.size + 1 + 1, 1, none⟩ = some (.int .i64 0) := by rw [k_r.cell]; rfl
  have x_r2 : w2.cell? ⟨w.heap.size + 1 + 1, 2, none⟩ = some (.string ⟨#[]⟩) := by rw [k_r.cell]; rfl
  have l_r := k_r.lt
  have x_x0 : w2.cell? ⟨w1.heap.size, 0, none⟩ = some (.int .i64 p) := by rw [k_x.cell]; rfl
  have x_x1 : w2.cell? ⟨w1.heap.size, 1, none⟩ = some (.int .i64 q) := by rw [k_x.cell]; rfl
  have x_x2 : w2.cell? ⟨w1.heap.size, 2, none⟩ = some (.string ⟨#[]⟩) := by rw [k_x.cell]; rfl
  have l_x := k_x.lt
  have z_r0 := k_r.frozen 0
  have z_r1 := k_r.frozen 1
  have z_r2 := k_r.frozen 2
  go_wp2
  exact bodyPost_ret (v := .tuple #[VS 0 0 ⟨#[]⟩, .int .i64 e1]) (by simp [results, Tryd.results36, go_sem, x_r0, x_r1, x_r2, l_r]) rfl ⟨rfl, ((((bb).setCell (p := ⟨w.heap.size + 1 + 1, 0, none⟩) (by first | exact Nat.le_refl _ | (simp; done) | (simp; omega) | omega) _).setCell (p := ⟨w.heap.size + 1 + 1, 1, none⟩) (by first | exact Nat.le_refl _ | (simp; done) | (simp; omega) | omega) _).setCell (p := ⟨w.heap.size + 1 + 1, 2, none⟩) (by first | exact Nat.le_refl _ | (simp; done) | (simp; omega) | omega) _).alloc (by first | exact bb.size | (simp; exact bb.size) | (have := bb.size; simp; omega)) _⟩
set_option maxHeartbeats 4000000 in
set_option maxRecDepth 100000 in
theorem cmp_gt_y (w : World) (p q p' q' : Int) (l m ok ok2 : Bool) (hk : (k == 7) = true) (hk' : (k' == 7) = false) (C1 : ∀ W, Calls Tryd.prog 29 #[VS k n s] W (Ret (.tuple #[VN p q, .int .i64 0]) W)) (C2 : ∀ W, Calls Tryd.prog 29 #[VS k' n' s'] W (Ret (.tuple #[VN p' q', .int .i64 0]) W)) (C3 : ∀ W, Calls Tryd.prog 53 #[VN p q, VN p' q'] W (Ret (.tuple #[.bool l, .bool ok]) W)) (C4 : ∀ W, Calls Tryd.prog 53 #[VN p' q', VN p q] W (Ret (.tuple #[.bool m, .bool ok2]) W)) : Calls Tryd.prog 36 #[.string ⟨#[62]⟩, VS k n s, VS k' n' s'] w (Ret (.tuple #[VS 2 (tN m) ⟨#[]⟩, .int .i64 0]) w) := by
  have H1 := Lib.hid C1
  have H2 := Lib.hid C2
  have H3 := Lib.hid C3
  have H4 := Lib.hid C4
  clear C1 C2 C3 C4
  cases m
  all_goals
    have HT := Lib.hid (fun b W => truth_any b W)
    go_enter Tryd.func36, Tryd.ntmps36
    go_wp2_with fail
    have k_a := ((Blk.new w 27 #[.int .i64 k, .int .i64 n, .string s]).alloc (.cells #[.int .i64 (k'), .int .i64 (n'), .string (s')] 27)).alloc (.cells #[.int .i64 0, .int .i64 0, .string ⟨#[]⟩] 27)
    have k_b := (Blk.new (w.alloc (.cells #[.int .i64 k, .int .i64 n, .string s] 27)) 27 #[.int .i64 (k'), .int .i64 (n'), .string (s')]).alloc (.cells #[.int .i64 0, .int .i64 0, .string ⟨#[]⟩] 27)
    rw [World.size_alloc] at k_b
    have k_r := Blk.new ((w.alloc (.cells #[.int .i64 k, .int .i64 n, .string s] 27)).alloc (.cells #[.int .i64 (k'), .int .i64 (n'), .string (s')] 27)) 27 #[.int .i64 0, .int .i64 0, .string ⟨#[]⟩]
    rw [World.size_alloc, World.size_alloc] at k_r
    have bb : Below w.heap.size w _ := ((((Below.refl _ _).alloc (Nat.le_refl _) (.cells #[.int .i64 k, .int .i64 n, .string s] 27)).alloc (by simp) (.cells #[.int .i64 (k'), .int .i64 (n'), .string (s')] 27)).alloc (by simp; omega) (.cells #[.int .i64 0, .int .i64 0, .string ⟨#[]⟩] 27))
    generalize (((w.alloc (.cells #[.int .i64 k, .int .i64 n, .string s] 27)).alloc (.cells #[.int .i64 (k'), .int .i64 (n'), .string (s')] 27)).alloc (.cells #[.int .i64 0, .int .i64 0, .string ⟨#[]⟩] 27)) = W0 at *
    refine (H1.out _).mono ?_
    rintro e w1 ⟨rfl, b1⟩
    have k_a := k_a.below b1 k_a.lt
    have k_b := k_b.below b1 k_b.lt
    have k_r := k_r.below b1 k_r.lt
    have bb := bb.trans (b1.mono bb.size)
    have x_a0 : w1.cell? ⟨w.heap.size, 0, none⟩ = some (.int .i64 k) := by rw [k_a.cell]; rfl
    have x_a1 : w1.cell? ⟨w.heap.size, 1, none⟩ = some (.int .i64 n) := by rw [k_a.cell]; rfl
    have x_a2 : w1.cell? ⟨w.heap.size, 2, none⟩ = some (.string s) := by rw [k_a.cell]; rfl
    have l_a := k_a.lt
    have x_b0 : w1.cell? ⟨w.heap.size + 1, 0, none⟩ = some (.int .i64 (k')) := by rw [k_b.cell]; rfl
    have x_b1 : w1.cell? ⟨w.heap.size + 1, 1, none⟩ = some (.int .i64 (n')) := by rw [k_b.cell]; rfl
    have x_b2 : w1.cell? ⟨w.heap.size + 1, 2, none⟩ = some (.string (s')) := by rw [k_b.cell]; rfl
    have l_b := k_b.lt
    have x_r0 : w1.cell? ⟨w.heap.size + 1 + 1, 0, none⟩ = some (.int .i64 0) := by rw [k_r.cell]; rfl
    have x_r1 : w1.cell? ⟨w.heap.size + 1 + 1, 1, none⟩ = some (.int .i64 0) := by rw [k_r.cell]; rfl
    have x_r2 : w1.cell? ⟨w.heap.size + 1 + 1, 2, none⟩ = some (.string ⟨#[]⟩) := by rw [k_r.cell]; rfl
    have l_r := k_r.lt
    go_wp2_with fail
    have k_a := k_a.alloc (.cells #[.int .i64 p, .int .i64 q, .string ⟨#[]⟩] 27)
    have k_b := k_b.alloc (.cells #[.int .i64 p, .int .i64 q, .string ⟨#[]⟩] 27)
    have k_r := k_r.alloc (.cells #[.int .i64 p, .int .i64 q, .string ⟨#[]⟩] 27)
    have k_x := Blk.new w1 27 #[.int .i64 p, .int .i64 q, .string ⟨#[]⟩]
    have bb := bb.alloc bb.size (.cells #[.int .i64 p, .int .i64 q, .string ⟨#[]⟩] 27)
    clear x_a0 x_a1 x_a2 l_a x_b0 x_b1 x_b2 l_b x_r0 x_r1 x_r2 l_r
    generalize w1.alloc (.cells #[.int .i64 p, .int .i64 q, .string ⟨#[]⟩] 27) = V1 at *
    refine (H2.out _).mono ?_
    rintro e w2 ⟨rfl, b2⟩
    have k_a := k_a.below b2 k_a.lt
    have k_b := k_b.below b2 k_b.lt
    have k_r := k_r.below b2 k_r.lt
    have k_x := k_x.below b2 k_x.lt
    have bb := bb.trans (b2.mono bb.size)
    have x_a0 : w2.cell? ⟨w.heap.size, 0, none⟩ = some (.int .i64 k) := by rw [k_a.cell]; rfl
    have x_a1 : w2.cell? ⟨w.heap.size, 1, none⟩ = some (.int .i64 n) := by rw [k_a.cell]; rfl
    have x_a2 : w2.cell? ⟨w.heap.size, 2, none⟩ = some (.string s) := by rw [k_a.cell]; rfl
    have l_a := k_a.lt
    have x_b0 : w2.cell? ⟨w.heap.size + 1, 0, none⟩ = some (.int .i64 (k')) := by rw [k_b.cell]; rfl
    have x_b1 : w2.cell? ⟨w.heap.size + 1, 1, none⟩ = some (.int .i64 (n')) := by rw [k_b.cell]; rfl
    have x_b2 : w2.cell? ⟨w.heap.size + 1, 2, none⟩ = some (.string (s')) := by rw [k_b.cell]; rfl
    have l_b := k_b.lt
    have x_r0 : w2.cell? ⟨w.heap.size + 1 + 1, 0, none⟩ = some (.int .i64 0) := by rw [k_r.cell]; rfl
    have x_r1 : w2.cell? ⟨w.heap.size + 1 + 1, 1, none⟩ = some (.int .i64 0) := by rw [k_r.cell]; rfl
    have x_r2 : w2.cell? ⟨w.heap.size + 1 + 1, 2, none⟩ = some (.string ⟨#[]⟩) := by rw [k_r.cell]; rfl
    have l_r := k_r.lt
    have x_x0 : w2.cell? ⟨w1.heap.size, 0, none⟩ = some (.int .i64 p) := by rw [k_x.cell]; rfl
    have x_x1 : w2.cell? ⟨w1.heap.size, 1, none⟩ = some (.int .i64 q) := by rw [k_x.cell]; rfl
    have x_x2 : w2.cell? ⟨w1.heap.size, 2, none⟩ = some (.string ⟨#[]⟩) := by rw [k_x.cell]; rfl
    have l_x := k_x.lt
    go_wp2_with fail
    have k_a := k_a.alloc (.cells #[.int .i64 (p'), .int .i64 (q'), .string ⟨#[]⟩] 27)
    have k_b := k_b.alloc (.cells #[.int .i64 (p'), .int .i64 (q'), .string ⟨#[]⟩] 27)
    have k_r := k_r.alloc (.cells #[.int .i64 (p'), .int .i64 (q'), .string ⟨#[]⟩] 27)
    have k_x := k_x.alloc (.cells #[.int .i64 (p'), .int .i64 (q'), .string ⟨#[]⟩] 27)
    have k_y := Blk.new w2 27 #[.int .i64 (p'), .int .i64 (q'), .string ⟨#[]⟩]
    have bb := bb.alloc bb.size (.cells #[.int .i64 (p'), .int .i64 (q'), .string ⟨#[]⟩] 27)
    clear x_a0 x_a1 x_a2 l_a x_b0 x_b1 x_b2 l_b x_r0 x_r1 x_r2 l_r x_x0 x_x1 x_x2 l_x
    generalize w2.alloc (.cells #[.int .i64 (p'), .int .i64 (q'), .string ⟨#[]⟩] 27) = V2 at *
    refine (H3.out _).mono ?_
    rintro e w3 ⟨rfl, b3⟩
    have k_a := k_a.below b3 k_a.lt
    have k_b := k_b.below b3 k_b.lt
    have k_r := k_r.below b3 k_r.lt
    have k_x := k_x.below b3 k_x.lt
    have k_y := k_y.below b3 k_y.lt
    have bb := bb.trans (b3.mono bb.size)
    have x_a0 : w3.cell? ⟨w.heap.size, 0, none⟩ = some (.int .i64 k) := by rw [k_a.cell]; rfl
    have x_a1 : w3.cell? ⟨w.heap.size, 1, none⟩ = some (.int .i64 n) := by rw [k_a.cell]; rfl
    have x_a2 : w3.cell? ⟨w.heap.size, 2, none⟩ = some (.string s) := by rw [k_a.cell]; rfl
    have l_a := k_a.lt
    have x_b0 : w3.cell? ⟨w.heap.size + 1, 0, none⟩ = some (.int .i64 (k')) := by rw [k_b.cell]; rfl
    have x_b1 : w3.cell? ⟨w.heap.size + 1, 1, none⟩ = some (.int .i64 (n')) := by rw [k_b.cell]; rfl
    have x_b2 : w3.cell? ⟨w.heap.size + 1, 2, none⟩ = some (.string (s')) := by rw [k_b.cell]; rfl
    have l_b := k_b.lt
    have x_r0 : w3.cell? ⟨w.heap.size + 1 + 1, 0, none⟩ = some (.int .i64 0) := by rw [k_r.cell]; rfl
    have x_r1 : w3.cell? ⟨w.heap.size + 1 + 1, 1, none⟩ = some (.int .i64 0) := by rw [k_r.cell]; rfl
    have x_r2 : w3.cell? ⟨w.heap.size + 1 + 1, 2, none⟩ = some (.string ⟨#[]⟩) := by rw [k_r.cell]; rfl
    have l_r := k_r.lt
    have x_x0 : w3.cell? ⟨w1.heap.size, 0, none⟩ = some (.int .i64 p) := by rw [k_x.cell]; rfl
    have x_x1 : w3.cell? ⟨w1.heap.size, 1, none⟩ = some (.int .i64 q) := by rw [k_x.cell]; rfl
    have x_x2 : w3.cell? ⟨w1.heap.size, 2, none⟩ = some (.string ⟨#[]⟩) := by rw [k_x.cell]; rfl
    have l_x := k_x.lt
    have x_y0 : w3.cell? ⟨w2.heap.size, 0, none⟩ = some (.int .i64 (p')) := by rw [k_y.cell]; rfl
    have x_y1 : w3.cell? ⟨w2.heap.size, 1, none⟩ = some (.int .i64 (q')) := by rw [k_y.cell]; rfl
    have x_y2 : w3.cell? ⟨w2.heap.size, 2, none⟩ = some (.string ⟨#[]⟩) := by rw [k_y.cell]; rfl
    have l_y := k_y.lt
    go_wp2_with fail
    refine (H4.out _).mono ?_
    rintro e w4 ⟨rfl, b4⟩
    clear x_a0 x_a1 x_a2 l_a x_b0 x_b1 x_b2 l_b x_r0 x_r1 x_r2 l_r x_x0 x_x1 x_x2 l_x x_y0 x_y1 x_y2 l_y
    have k_a := k_a.below b4 k_a.lt
    have k_b := k_b.below b4 k_b.lt
    have k_r := k_r.below b4 k_r.lt
    have k_x := k_x.below b4 k_x.lt
    have k_y := k_y.below b4 k_y.lt
    have bb := bb.trans (b4.mono bb.size)
    have x_a0 : w4.cell? ⟨w.heap.size, 0, none⟩ = some (.int .i64 k) := by rw [k_a.cell]; rfl
    have x_a1 : w4.cell? ⟨w.heap.size, 1, none⟩ = some (.int .i64 n) := by rw [k_a.cell]; rfl
    have x_a2 : w4.cell? ⟨w.heap.size, 2, none⟩ = some (.string s) := by rw [k_a.cell]; rfl
    have l_a := k_a.lt
    have x_b0 : w4.cell? ⟨w.heap.size + 1, 0, none⟩ = some (.int .i64 (k')) := by rw [k_b.cell]; rfl
    have x_b1 : w4.cell? ⟨w.heap.size + 1, 1, none⟩ = some (.int .i64 (n')) := by rw [k_b.cell]; rfl
    have x_b2 : w4.cell? ⟨w.heap.size + 1, 2, none⟩ = some (.string (s')) := by rw [k_b.cell]; rfl
    have l_b := k_b.lt
    have x_r0 : w4.cell? ⟨w.heap.size + 1 + 1, 0, none⟩ = some (.int .i64 0) := by rw [k_r.cell]; rfl
    have x_r1 : w4.cell? ⟨w.heap.size + 1 + 1, 1, none⟩ = some (.int .i64 0) := by rw [k_r.cell]; rfl
    have x_r2 : w4.cell? ⟨w.heap.size + 1 + 1, 2, none⟩ = some (.string ⟨#[]⟩) := by rw [k_r.cell]; rfl
    have l_r := k_r.lt
    have x_x0 : w4.cell? ⟨w1.heap.size, 0, none⟩ = some (.int .i64 p) := by rw [k_x.cell]; rfl
    have x_x1 : w4.cell? ⟨w1.heap.size, 1, none⟩ = some (.int .i64 q) := by rw [k_x.cell]; rfl
    have x_x2 : w4.cell? ⟨w1.heap.size, 2, none⟩ = some (.string ⟨#[]⟩) := by rw [k_x.cell]; rfl
    have l_x := k_x.lt
    have x_y0 : w4.cell? ⟨w2.heap.size, 0, none⟩ = some (.int .i64 (p')) := by rw [k_y.cell]; rfl
    have x_y1 : w4.cell? ⟨w2.heap.size, 1, none⟩ = some (.int .i64 (q')) := by rw [k_y.cell]; rfl
    have x_y2 : w4.cell? ⟨w2.heap.size, 2, none⟩ = some (.string ⟨#[]⟩) := by rw [k_y.cell]; rfl
    have l_y := k_y.lt
    go_wp2_with fail
    refine (HT.out _ _).mono ?_
    rintro e w5 ⟨rfl, b5⟩
    clear x_a0 x_a1 x_a2 l_a x_b0 x_b1 x_b2 l_b x_r0 x_r1 x_r2 l_r x_x0 x_x1 x_x2 l_x x_y0 x_y1 x_y2 l_y
    have k_a := k_a.below b5 k_a.lt
    have k_b := k_b.below b5 k_b.lt
    have k_r := k_r.below b5 k_r.lt
    have k_x := k_x.below b5 k_x.lt
    have k_y := k_y.below b5 k_y.lt
    have bb := bb.trans (b5.mono bb.size)
    have x_a0 : w5.cell? ⟨w.heap.size, 0, none⟩ = some (.int .i64 k) := by rw [k_a.cell]; rfl
    have x_a1 : w5.cell? ⟨w.heap.size, 1, none⟩ = some (.int .i64 n) := by rw [k_a.cell]; rfl
    have x_a2 : w5.cell? ⟨w.heap.size, 2, none⟩ = some (.string s) := by rw [k_a.cell]; rfl
    have l_a := k_a.lt
    have x_b0 : w5.cell? ⟨w.heap.size + 1, 0, none⟩ = some (.int .i64 (k')) := by rw [k_b.cell]; rfl
    have x_b1 : w5.cell? ⟨w.heap.size + 1, 1, none⟩ = some (.int .i64 (n')) := by rw [k_b.cell]; rfl
    have x_b2 : w5.cell? ⟨w.heap.size + 1, 2, none⟩ = some (.string (s')) := by rw [k_b.cell]; rfl
    have l_b := k_b.lt
    have x_r0 : w5.cell? ⟨w.heap.size + 1 + 1, 0, none⟩ = some (.int .i64 0) := by rw [k_r.cell]; rfl
    have x_r1 : w5.cell? ⟨w.heap.size + 1 + 1, 1, none⟩ = some (.int .i64 0) := by rw [k_r.cell]; rfl
    have x_r2 : w5.cell? ⟨w.heap.size + 1 + 1, 2, none⟩ = some (.string ⟨#[]⟩) := by rw [k_r.cell]; rfl
    have l_r := k_r.lt
    have x_x0 : w5.cell? ⟨w1.heap.size, 0, none⟩ = some (.int .i64 p) := by rw [k_x.cell]; rfl
    have x_x1 : w5.cell? ⟨w1.heap.size, 1, none⟩ = some (.int .i64 q) := by rw [k_x.cell]; rfl
    have x_x2 : w5.cell? ⟨w1.heap.size, 2, none⟩ = some (.string ⟨#[]⟩) := by rw [k_x.cell]; rfl
    have l_x := k_x.lt
    have x_y0 : w5.cell? ⟨w2.heap.size, 0, none⟩ = some (.int .i64 (p')) := by rw [k_y.cell]; rfl
    have x_y1 : w5.cell? ⟨w2.heap.size, 1, none⟩ = some (.int .i64 (q')) := by rw [k_y.cell]; rfl
    have x_y2 : w5.cell? ⟨w2.heap.size, 2, none⟩ = some (.string ⟨#[]⟩) := by rw [k_y.cell]; rfl
    have l_y := k_y.lt
    have z_r0 := k_r.frozen 0
    have z_r1 := k_r.frozen 1
    have z_r2 := k_r.frozen 2
    go_wp2
    exact bodyPost_ret (v := .tuple #[VS 2 _ ⟨#[]⟩, .int .i64 0]) (by simp [results, Tryd.results36, go_sem, x_r0, x_r1, x_r2, l_r]) rfl ⟨rfl, (((bb).setCell (p := ⟨w.heap.size + 1 + 1, 0, none⟩) (by first | exact Nat.le_refl _ | (simp; done) | (simp; omega) | omega) _).setCell (p := ⟨w.heap.size + 1 + 1, 1, none⟩) (by first | exact Nat.le_refl _ | (simp; done) | (simp; omega) | omega) _).setCell (p := ⟨w.heap.size + 1 + 1, 2, none⟩) (by first | exact Nat.le_refl _ | (simp; done) | (simp; omega) | omega) _⟩
set_option maxHeartbeats 4000000 in
set_option maxRecDepth 100000 in
theorem cmp_le_x_e1 (w : World) (p q e1 : Int) (he : ¬ e1 = 0) (hk : (k == 7) = false) (C1 : ∀ W, Calls Tryd.prog 29 #[VS k n s] W (Ret (.tuple #[VN p q, .int .i64 e1]) W)) : Calls Tryd.prog 36 #[.string ⟨#[60, 61]⟩, VS k n s, VS k' n' s'] w (Ret (.tuple #[VS 0 0 ⟨#[]⟩, .int .i64 e1]) w) := by
  have H1 := Lib.hid C1
  clear C1
  have t1 : (e1 != 0) = true := by simpa using he
  have t2 : ¬ e1 = 0 := he
  go_enter Tryd.func36, Tryd.ntmps36
  go_wp2_with fail
  have k_a := ((Blk.new w 27 #[.int .i64 k, .int .i64 n, .string s]).alloc (.cells #[.int .i64 (k'), .int .i64 (n'), .string (s')] 27)).alloc (.cells #[.int .i64 0, .int .i64 0, .string ⟨#[]⟩] 27)
  have k_b := (Blk.new (w.alloc (.cells #[.int .i64 k, .int .i64 n, .string s] 27)) 27 #[.int .i64 (k'), .int .i64 (n'), .string (s')]).alloc (.cells #[.int .i64 0, .int .i64 0, .string ⟨#[]⟩] 27)
  rw [World.size_alloc] at k_b
  have k_r := Blk.new ((w.alloc (.cells #[.int .i64 k, .int .i64 n, .string s] 27)).alloc (.cells #[.int .i64 (k'), .int .i64 (n'), .string (s')] 27)) 27 #[.int .i64 0, .int .i64 0, .string ⟨#[]⟩]
  rw [World.size_alloc, World.size_alloc] at k_r
  have bb : Below w.heap.size w _ := ((((Below.refl _ _).alloc (Nat.le_refl _) (.cells #[.int .i64 k, .int .i64 n, .string s] 27)).alloc (by simp) (.cells #[.int .i64 (k'), .int .i64 (n'), .string (s')] 27)).alloc (by simp; omega) (.cells #[.int .i64 0, .int .i64 0, .string ⟨#[]⟩] 27))
  generalize (((w.alloc (.cells #[.int .i64 k, .int .i64 n, .string s] 27)).alloc (.cells #[.int .i64 (k'), .int .i64 (n'), .string (s')] 27)).alloc (.cells #[.int .i64 0, .int .i64 0, .string ⟨#[]⟩] 27)) = W0 at *
  refine (H1.out _).mono ?_
  rintro e w1 ⟨rfl, b1⟩
  have k_a := k_a.below b1 k_a.lt
  have k_b := k_b.below b1 k_b.lt
  have k_r := k_r.below b1 k_r.lt
  have bb := bb.trans (b1.mono bb.size)
  have x_a0 : w1.cell? ⟨w.heap.size, 0, none⟩ = some (.int .i64 k) := by rw [k_a.cell]; rfl
  have x_a1 : w1.cell? ⟨w.heap.size, 1, none⟩ = some (.int .i64 n) := by rw [k_a.cell]; rfl
  have x_a2 : w1.cell? ⟨w.heap.size, 2, none⟩ = some (.string s) := by rw [k_a.cell]; rfl
  have l_a := k_a.lt
  have x_b0 : w1.cell? ⟨w.heap.size + 1, 0, none⟩ = some (.int .i64 (k')) := by rw [k_b.cell]; rfl
  have x_b1 : w1.cell? ⟨w.heap.size + 1, 1, none⟩ = some (.int .i64 (n')) := by rw [k_b.cell]; rfl
  have x_b2 : w1.cell? ⟨w.heap.size + 1, 2, none⟩ = some (.string (s')) := by rw [k_b.cell]; rfl
  have l_b := k_b.lt
  have x_r0 : w1.cell? ⟨w.heap.size + 1 + 1, 0, none⟩ = some (.int .i64 0) := by rw [k_r.cell]; rfl
  have x_r1 : w1.cell? ⟨w.heap.size + 1 + 1, 1, none⟩ = some (.int .i64 0) := by rw [k_r.cell]; rfl
  have x_r2 : w1.cell? ⟨w.heap.size + 1 + 1, 2, none⟩ = some (.string ⟨#[]⟩) := by rw [k_r.cell]; rfl
  have l_r := k_r.lt
  have z_r0 := k_r.frozen 0
  have z_r1 := k_r.frozen 1
  have z_r2 := k_r.frozen 2
  go_wp2
  exact bodyPost_ret (v := .tuple #[VS 0 0 ⟨#[]⟩, .int .i64 e1]) (by simp [results, Tryd.results36, go_sem, x_r0, x_r1, x_r2, l_r]) rfl ⟨rfl, ((((bb).setCell (p := ⟨w.heap.size + 1 + 1, 0, none⟩) (by first | exact Nat.le_refl _ | (simp; done) | (simp; omega) | omega) _).setCell (p := ⟨w.heap.size + 1 + 1, 1, none⟩) (by first | exact Nat.le_refl _ | (simp; done) | (simp; omega) | omega) _).setCell (p := ⟨w.heap.size + 1 + 1, 2, none⟩) (by first | exact Nat.le_refl _ | (simp; done) | (simp; omega) | omega) _).alloc (by first | exact bb.size | (simp; exact bb.size) | (have := bb.size; simp; omega)) _⟩
set_option maxHeartbeats 4000000 in
set_option maxRecDepth 100000 in
theorem cmp_le_x_e2 (w : World) (p q p' q' e1 : Int) (he : ¬ e1 = 0) (hk : (k == 7) = false) (C1 : ∀ W, Calls Tryd.prog 29 #[VS k n s] W (Ret (.tuple #[VN p q, .int .i64 0]) W)) (C2 : ∀ W, Calls Tryd.prog 29 #[VS k' n' s'] W (Ret (.tuple #[VN p' q', .int .i64 e1]) W)) : Calls Tryd.prog 36 #[.string ⟨#[60, 61]⟩, VS k n s, VS k' n' s'] w (Ret (.tuple #[VS 0 0 ⟨#[]⟩, .int .i64 e1]) w) := by
  have H1 := Lib.hid C1
  have H2 := Lib.hid C2
  clear C1 C2
  have t1 : (e1 != 0) = true := by simpa using he
  have t2 : ¬ e1 = 0 := he
  go_enter Tryd.func36, Tryd.ntmps36
  go_wp2_with fail
  have k_a := ((Blk.new w 27 #[.int .i64 k, .int .i64 n, .string s]).alloc (.cells #[.int .i64 (k'), .int .i64 (n'), .string (s')] 27)).alloc (.cells #[.int .i64 0, .int .i64 0, .string ⟨#[]⟩] 27)
  have k_b := (Blk.new (w.alloc (.cells #[.int .i64 k, .int .i64 n, .string s] 27)) 27 #[.int .i64 (k'), .int .i64 (n'), .string (s')]).alloc (.cells #[.int .i64 0, .int .i64 0, .string ⟨#[]⟩] 27)
  rw [World.size_alloc] at k_b
  have k_r := Blk.new ((w.alloc (.cells #[.int .i64 k, .int .i64 n, .string s] 27)).alloc (.cells #[.int .i64 (k'), .int .i64 (n'), .string (s')] 27)) 27 #[.int .i64 0, .int .i64 0, .string ⟨#[]⟩]
  rw [World.size_alloc, World.size_alloc] at k_r
  have bb : Below w.heap.size w _ := ((((Below.refl _ _).alloc (Nat.le_refl _) (.cells #[.int .i64 k, .int .i64 n, .string s] 27)).alloc (by simp) (.cells #[.int .i64 (k'), .int .i64 (n'), .string (s')] 27)).alloc (by simp; omega) (.cells #[.int .i64 0, .int .i64 0, .string ⟨#[]⟩] 27))
  generalize (((w.alloc (.cells #[.int .i64 k, .int .i64 n, .string s] 27)).alloc (.cells #[.int .i64 (k'), .int .i64 (n'), .string (s')] 27)).alloc (.cells #[.int .i64 0, .int .i64 0, .string ⟨#[]⟩] 27)) = W0 at *
  refine (H1.out _).mono ?_
  rintro e w1 ⟨rfl, b1⟩
  have k_a := k_a.below b1 k_a.lt
  have k_b := k_b.below b1 k_b.lt
  have k_r := k_r.below b1 k_r.lt
  have bb := bb.trans (b1.mono bb.size)
  have x_a0 : w1.cell? ⟨w.heap.size, 0, none⟩ = some (.int .i64 k) := by rw [k_a.cell]; rfl
  have x_a1 : w1.cell? ⟨w.heap.size, 1, none⟩ = some (.int .i64 n) := by rw [k_a.cell]; rfl
  have x_a2 : w1.cell? ⟨w.heap.size, 2, none⟩ = some (.string s) := by rw [k_a.cell]; rfl
  have l_a := k_a.lt
  have x_b0 : w1.cell? ⟨w.heap.size + 1, 0, none⟩ = some (.int .i64 (k')) := by rw [k_b.cell]; rfl
  have x_b1 : w1.cell? ⟨w.heap.size + 1, 1, none⟩ = some (.int .i64 (n')) := by rw [k_b.cell]; rfl
  have x_b2 : w1.cell? ⟨w.heap.size + 1, 2, none⟩ = some (.string (s')) := by rw [k_b.cell]; rfl
  have l_b := k_b.lt
  have x_r0 : w1.cell? ⟨w.heap.size + 1 + 1, 0, none⟩ = some (.int .i64 0) := by rw [k_r.cell]; rfl
  have x_r1 : w1.cell? ⟨w.heap.size + 1 + 1, 1, none⟩ = some (.int .i64 0) := by rw [k_r.cell]; rfl
  have x_r2 : w1.cell? ⟨w.heap.size + 1 + 1, 2, none⟩ = some (.string ⟨#[]⟩) := by rw [k_r.cell]; rfl
  have l_r := k_r.lt
  go_wp2_with fail
  have k_a := k_a.alloc (.cells #[.int .i64 p, .int .i64 q, .string ⟨#[]⟩] 27)
  have k_b := k_b.alloc (.cells #[.int .i64 p, .int .i64 q, .string ⟨#[]⟩] 27)
  have k_r := k_r.alloc (.cells #[.int .i64 p, .int .i64 q, .string ⟨#[]⟩] 27)
  have k_x := Blk.new w1 27 #[.int .i64 p, .int .i64 q, .string ⟨#[]⟩]
  have bb := bb.alloc bb.size (.cells #[.int .i64 p, .int .i64 q, .string ⟨#[]⟩] 27)
  clear x_a0 x_a1 x_a2 l_a x_b0 x_b1 x_b2 l_b x_r0 x_r1 x_r2 l_r
  generalize w1.alloc (.cells #[.int .i64 p, .int .i64 q, .string ⟨#[]⟩] 27) = V1 at *
  refine (H2.out _).mono ?_
  rintro e w2 ⟨rfl, b2⟩
  have k_a := k_a.below b2 k_a.lt
  have k_b := k_b.below b2 k_b.lt
  have k_r := k_r.below b2 k_r.lt
  have k_x := k_x.below b2 k_x.lt
  have bb := bb.trans (b2.mono bb.size)
  have x_a0 : w2.cell? ⟨w.heap.size, 0, none⟩ = some (.int .i64 k) := by rw [k_a.cell]; rfl
  have x_a1 : w2.cell? ⟨w.heap.size, 1, none⟩ = some (.int .i64 n) := by rw [k_a.cell]; rfl
  have x_a2 : w2.cell? ⟨w.heap.size, 2, none⟩ = some (.string s) := by rw [k_a.cell]; rfl
  have l_a := k_a.lt
  have x_b0 : w2.cell? ⟨w.heap.size + 1, 0, none⟩ = some (.int .i64 (k')) := by rw [k_b.cell]; rfl
  have x_b1 : w2.cell? ⟨w.heap.size + 1, 1, none⟩ = some (.int .i64 (n')) := by rw [k_b.cell]; rfl
  have x_b2 : w2.cell? ⟨w.heap.size + 1, 2, none⟩ = some (.string (s')) := by rw [k_b.cell]; rfl
  have l_b := k_b.lt
  have x_r0 : w2.cell? ⟨w.heap.size + 1 + 1, 0, none⟩ = some (.int .i64 0) := by rw [k_r.cell]; rfl
  have x_r1 : w2.cell? ⟨w.heap.size + 1 + 1, 1, none⟩ = some (.int .i64 0) := by rw [k_r.cell]; rfl
  have x_r2 : w2.cell? ⟨w.heap.size + 1 + 1, 2, none⟩ = some (.string ⟨#[]⟩) := by rw [k_r.cell]; rfl
  have l_r := k_r.lt
  have x_x0 : w2.cell? ⟨w1.heap.size, 0, none⟩ = some (.int .i64 p) := by rw [k_x.cell]; rfl
  have x_x1 : w2.cell? ⟨w1.heap.size, 1, none⟩ = some (.int .i64 q) := by rw [k_x.cell]; rfl
  have x_x2 : w2.cell? ⟨w1.heap.size, 2, none⟩ = some (.string ⟨#[]⟩) := by rw [k_x.cell]; rfl
  have l_x := k_x.lt
  have z_r0 := k_r.frozen 0
  have z_r1 := k_r.frozen 1
  have z_r2 := k_r.frozen 2
  go_wp2
  exact bodyPost_ret (v := .tuple #[VS 0 0 ⟨#[]⟩, .int .i64 e1]) (by simp [results, Tryd.results36, go_sem, x_r0, x_r1, x_r2, l_r]) rfl ⟨rfl, ((((bb).setCell (p := ⟨w.heap.size + 1 + 1, 0, none⟩) (by first | exact Nat.le_refl _ | (simp; done) | (simp; omega) | omega) _).setCell (p := ⟨w.heap.size + 1 + 1, 1, none⟩) (by first | exact Nat.le_refl _ | (simp; done) | (simp; omega) | omega) _).setCell (p := ⟨w.heap.size + 1 + 1, 2, none⟩) (by first | exact Nat.le_refl _ | (simp; done) | (simp; omega) | omega) _).alloc (by first | exact bb.size | (simp; exact bb.size) | (have := bb.size; simp; omega)) _⟩
set_option maxHeartbeats 4000000 in
set_option maxRecDepth 100000 in
theorem cmp_le_x (w : World) (p q p' q' : Int) (l m ok ok2 : Bool) (hk : (k == 7) = false) (C1 : ∀ W, Calls Tryd.prog 29 #[VS k n s] W (Ret (.tuple #[VN p q, .int .i64 0]) W)) (C2 : ∀ W, Calls Tryd.prog 29 #[VS k' n' s'] W (Ret (.tuple #[VN p' q', .int .i64 0]) W)) (C3 : ∀ W, Calls Tryd.prog 53 #[VN p q, VN p' q'] W (Ret (.tuple #[.bool l, .bool ok]) W)) (C4 : ∀ W, Calls Tryd.prog 53 #[VN p' q', VN p q] W (Ret (.tuple #[.bool m, .bool ok2]) W)) : Calls Tryd.prog 36 #[.string ⟨#[60, 61]⟩, VS k n s, VS k' n' s'] w (Ret (.tuple #[VS 2 (tN (ok && !m)) ⟨#[]⟩, .int .i64 0]) w) := by
  have H1 := Lib.hid C1
  have H2 := Lib.hid C2
  have H3 := Lib.hid C3
  have H4 := Lib.hid C4
  clear C1 C2 C3 C4
  cases ok <;> cases m
  all_goals
    have HT := Lib.hid (fun b W => truth_any b W)
    go_enter Tryd.func36, Tryd.ntmps36
    go_wp2_with fail
    have k_a := ((Blk.new w 27 #[.int .i64 k, .int .i64 n, .string s]).alloc (.cells #[.int .i64 (k'), .int .i64 (n'), .string (s')] 27)).alloc (.cells #[.int .i64 0, .int .i64 0, .string ⟨#[]⟩] 27)
    have k_b := (Blk.new (w.alloc (.cells #[.int .i64 k, .int .i64 n, .string s] 27)) 27 #[.int .i64 (k'), .int .i64 (n'), .string (s')]).alloc (.cells #[.int .i64 0, .int .i64 0, .string ⟨#[]⟩] 27)
    rw [World.size_alloc] at k_b
    have k_r := Blk.new ((w.alloc (.cells #[.int .i64 k, .int .i64 n, .string s] 27)).alloc (.cells #[.int .i64 (k'), .int .i64 (n'), .string (s')] 27)) 27 #[.int .i64 0, .int .i64 0, .string ⟨#[]⟩]
    rw [World.size_alloc, World.size_alloc] at k_r
    have bb : Below w.heap.size w _ := ((((Below.refl _ _).alloc (Nat.le_refl _) (.cells #[.int .i64 k, .int .i64 n, .string s] 27)).alloc (by simp) (.cells #[.int .i64 (k'), .int .i64 (n'), .string (s')] 27)).alloc (by simp; omega) (.cells #[.int .i64 0, .int .i64 0, .string ⟨#[]⟩] 27))
    generalize (((w.alloc (.cells #[.int .i64 k, .int .i64 n, .string s] 27)).alloc (.cells #[.int .i64 (k'), .int .i64 (n'), .string (s')] 27)).alloc (.cells #[.int .i64 0, .int .i64 0, .string ⟨#[]⟩] 27)) = W0 at *
    refine (H1.out _).mono ?_
    rintro e w1 ⟨rfl, b1⟩
    have k_a := k_a.below b1 k_a.lt
    have k_b := k_b.below b1 k_b.lt
    have k_r := k_r.below b1 k_r.lt
    have bb := bb.trans (b1.mono bb.size)
    have x_a0 : w1.cell? ⟨w.heap.size, 0, none⟩ = some (.int .i64 k) := by rw [k_a.cell]; rfl
    have x_a1 : w1.cell? ⟨w.heap.size, 1, none⟩ = some (.int .i64 n) := by rw [k_a.cell]; rfl
    have x_a2 : w1.cell? ⟨w.heap.size, 2, none⟩ = some (.string s) := by rw [k_a.cell]; rfl
    have l_a := k_a.lt
    have x_b0 : w1.cell? ⟨w.heap.size + 1, 0, none⟩ = some (.int .i64 (k')) := by rw [k_b.cell]; rfl
    have x_b1 : w1.cell? ⟨w.heap.size + 1, 1, none⟩ = some (.int .i64 (n')) := by rw [k_b.cell]; rfl
    have x_b2 : w1.cell? ⟨w.heap.size + 1, 2, none⟩ = some (.string (s')) := by rw [k_b.cell]; rfl
    have l_b := k_b.lt
    have x_r0 : w1.cell? ⟨w.heap.size + 1 + 1, 0, none⟩ = some (.int .i64 0) := by rw [k_r.cell]; rfl
    have x_r1 : w1.cell? ⟨w.heap.size + 1 + 1, 1, none⟩ = some (.int .i64 0) := by rw [k_r.cell]; rfl
    have x_r2 : w1.cell? ⟨w.heap.size + 1 + 1, 2, none⟩ = some (.string ⟨#[]⟩) := by rw [k_r.cell]; rfl
    have l_r := k_r.lt
    go_wp2_with fail
    have k_a := k_a.alloc (.cells #[.int .i64 p, .int .i64 q, .string ⟨#[]⟩] 27)
    have k_b := k_b.alloc (.cells #[.int .i64 p, .int .i64 q, .string ⟨#[]⟩] 27)
    have k_r := k_r.alloc (.cells #[.int .i64 p, .int .i64 q, .string ⟨#[]⟩] 27)
    have k_x := Blk.new w1 27 #[.int .i64 p, .int .i64 q, .string ⟨#[]⟩]
    have bb := bb.alloc bb.size (.cells #[.int .i64 p, .int .i64 q, .string ⟨#[]⟩] 27)
    clear x_a0 x_a1 x_a2 l_a x_b0 x_b1 x_b2 l_b x_r0 x_r1 x_r2 l_r
    generalize w1.alloc (.cells #[.int .i64 p, .int .i64 q, .string ⟨#[]⟩] 27) = V1 at *
    refine (H2.out _).mono ?_
    rintro e w2 ⟨rfl, b2⟩
    have k_a := k_a.below b2 k_a.lt
    have k_b := k_b.below b2 k_b.lt
    have k_r := k_r.below b2 k_r.lt
    have k_x := k_x.below b2 k_x.lt
    have bb := bb.trans (b2.mono bb.size)
    have x_a0 : w2.cell? ⟨w.heap.size, 0, none⟩ = some (.int .i64 k) := by rw [k_a.cell]; rfl
    have x_a1 : w2.cell? ⟨w.heap.size, 1, none⟩ = some (.int .i64 n) := by rw [k_a.cell]; rfl
    have x_a2 : w2.cell? ⟨w.heap.size, 2, none⟩ = some (.string s) := by rw [k_a.cell]; rfl
    have l_a := k_a.lt
    have x_b0 : w2.cell? ⟨w.heap.size + 1, 0, none⟩ = some (.int .i64 (k')) := by rw [k_b.cell]; rfl
    have x_b1 : w2.cell? ⟨w.heap.size + 1, 1, none⟩ = some (.int .i64 (n')) := by rw [k_b.cell]; rfl
    have x_b2 : w2.cell? ⟨w.heap.size + 1, 2, none⟩ = some (.string (s')) := by rw [k_b.cell]; rfl
    have l_b := k_b.lt
    have x_r0 : w2.cell? ⟨w.heap.size + 1 + 1, 0, none⟩ = some (.int .i64 0) := by rw [k_r.cell]; rfl
    have x_r1 : w2.cell? ⟨w.heap.size + 1 + 1, 1, none⟩ = some (.int .i64 0) := by rw [k_r.cell]; rfl
    have x_r2 : w2.cell? ⟨w.heap.size + 1 + 1, 2, none⟩ = some (.string ⟨#[]⟩) := by rw [k_r.cell]; rfl
    have l_r := k_r.lt
    have x_x0 : w2.cell? ⟨w1.heap.size, 0, none⟩ = some (.int .i64 p) := by rw [k_x.cell]; rfl
    have x_x1 : w2.cell? ⟨w1.heap.size, 1, none⟩ = some (.int .i64 q) := by rw [k_x.cell]; rfl
    have x_x2 : w2.cell? ⟨w1.heap.size, 2, none⟩ = some (.string ⟨#[]⟩) := by rw [k_x.cell]; rfl
    have l_x := k_x.lt
    go_wp2_with fail
    have k_a := k_a.alloc (.cells #[.int .i64 (p'), .int .i64 (q'), .string ⟨#[]⟩] 27)
    have k_b := k_b.alloc (.cells #[.int .i64 (p'), .int .i64 (q'), .string ⟨#[]⟩] 27)
    have k_r := k_r.alloc (.cells #[.int .i64 (p'), .int .i64 (q'), .string ⟨#[]⟩] 27)
    have k_x := k_x.alloc (.cells #[.int .i64 (p'), .int .i64 (q'), .string ⟨#[]⟩] 27)
    have k_y := Blk.new w2 27 #[.int .i64 (p'), .int .i64 (q'), .string ⟨#[]⟩]
    have bb := bb.alloc bb.size (.cells #[.int .i64 (p'), .int .i64 (q'), .string ⟨#[]⟩] 27)
    clear x_a0 x_a1 x_a2 l_a x_b0 x_b1 x_b2 l_b x_r0 x_r1 x_r2 l_r x_x0 x_x1 x_x2 l_x
    generalize w2.alloc (.cells #[.int .i64 (p'), .int .i64 (q'), .string ⟨#[]⟩] 27) = V2 at *
    refine (H3.out _).mono ?_
    rintro e w3 ⟨rfl, b3⟩
    have k_a := k_a.below b3 k_a.lt
    have k_b := k_b.below b3 k_b.lt
    have k_r := k_r.below b3 k_r.lt
    have k_x := k_x.below b3 k_x.lt
    have k_y := k_y.below b3 k_y.lt
    have bb := bb.trans (b3.mono bb.size)
    have x_a0 : w3.cell? ⟨w.heap.size, 0, none⟩ = some (.int .i64 k) := by rw [k_a.cell]; rfl
    have x_a1 : w3.cell? ⟨w.heap.size, 1, none⟩ = some (.int .i64 n) := by rw [k_a.cell]; rfl
    have x_a2 : w3.cell? ⟨w.heap.size, 2, none⟩ = some (.string s) := by rw [k_a.cell]; rfl
    have l_a := k_a.lt
    have x_b0 : w3.cell? ⟨w.heap.size + 1, 0, none⟩ = some (.int .i64 (k')) := by rw [k_b.cell]; rfl
    have x_b1 : w3.cell? ⟨w.heap.size + 1, 1, none⟩ = some (.int .i64 (n')) := by rw [k_b.cell]; rfl
    have x_b2 : w3.cell? ⟨w.heap.size + 1, 2, none⟩ = some (.string (s')) := by rw [k_b.cell]; rfl
    have l_b := k_b.lt
    have x_r0 : w3.cell? ⟨w.heap.size + 1 + 1, 0, none⟩ = some (.int .i64 0) := by rw [k_r.cell]; rfl
    have x_r1 : w3.cell? ⟨w.heap.size + 1 + 1, 1, none⟩ = some (.int .i64 0) := by rw [k_r.cell]; rfl
    have x_r2 : w3.cell? ⟨w.heap.size + 1 + 1, 2, none⟩ = some (.string ⟨#[]⟩) := by rw [k_r.cell]; rfl
    have l_r := k_r.lt
    have x_x0 : w3.cell? ⟨w1.heap.size, 0, none⟩ = some (.int .i64 p) := by rw [k_x.cell]; rfl
    have x_x1 : w3.cell? ⟨w1.heap.size, 1, none⟩ = some (.int .i64 q) := by rw [k_x.cell]; rfl
    have x_x2 : w3.cell? ⟨w1.heap.size, 2, none⟩ = some (.string ⟨#[]⟩) := by rw [k_x.cell]; rfl
    have l_x := k_x.lt
    have x_y0 : w3.cell? ⟨w2.heap.size, 0, none⟩ = some (.int .i64 (p')) := by rw [k_y.cell]; rfl
    have x_y1 : w3.cell? ⟨w2.heap.size, 1, none⟩ = some (.int .i64 (q')) := by rw [k_y.cell]; rfl
    have x_y2 : w3.cell? ⟨w2.heap.size, 2, none⟩ = some (.string ⟨#[]⟩) := by rw [k_y.cell]; rfl
    have l_y := k_y.lt
    go_wp2_with fail
    refine (H4.out _).mono ?_
    rintro e w4 ⟨rfl, b4⟩
    clear x_a0 x_a1 x_a2 l_a x_b0 x_b1 x_b2 l_b x_r0 x_r1 x_r2 l_r x_x0 x_x1 x_x2 l_x x_y0 x_y1 x_y2 l_y
    have k_a := k_a.below b4 k_a.lt
    have k_b := k_b.below b4 k_b.lt
    have k_r := k_r.below b4 k_r.lt
    have k_x := k_x.below b4 k_x.lt
    have k_y := k_y.below b4 k_y.lt
    have bb := bb.trans (b4.mono bb.size)
    have x_a0 : w4.cell? ⟨w.heap.size, 0, none⟩ = some (.int .i64 k) := by rw [k_a.cell]; rfl
    have x_a1 : w4.cell? ⟨w.heap.size, 1, none⟩ = some (.int .i64 n) := by rw [k_a.cell]; rfl
    have x_a2 : w4.cell? ⟨w.heap.size, 2, none⟩ = some (.string s) := by rw [k_a.cell]; rfl
    have l_a := k_a.lt
    have x_b0 : w4.cell? ⟨w.heap.size + 1, 0, none⟩ = some (.int .i64 (k')) := by rw [k_b.cell]; rfl
    have x_b1 : w4.cell? ⟨w.heap.size + 1, 1, none⟩ = some (.int .i64 (n')) := by rw [k_b.cell]; rfl
    have x_b2 : w4.cell? ⟨w.heap.size + 1, 2, none⟩ = some (.string (s')) := by rw [k_b.cell]; rfl
    have l_b := k_b.lt
    have x_r0 : w4.cell? ⟨w.heap.size + 1 + 1, 0, none⟩ = some (.int .i64 0) := by rw [k_r.cell]; rfl
    have x_r1 : w4.cell? ⟨w.heap.size + 1 + 1, 1, none⟩ = some (.int .i64 0) := by rw [k_r.cell]; rfl
    have x_r2 : w4.cell? ⟨w.heap.size + 1 + 1, 2, none⟩ = some (.string ⟨#[]⟩) := by rw [k_r.cell]; rfl
    have l_r := k_r.lt
    have x_x0 : w4.cell? ⟨w1.heap.size, 0, none⟩ = some (.int .i64 p) := by rw [k_x.cell]; rfl
    have x_x1 : w4.cell? ⟨w1.heap.size, 1, none⟩ = some (.int .i64 q) := by rw [k_x.cell]; rfl
    have x_x2 : w4.cell? ⟨w1.heap.size, 2, none⟩ = some (.string ⟨#[]⟩) := by rw [k_x.cell]; rfl
    have l_x := k_x.lt
    have x_y0 : w4.cell? ⟨w2.heap.size, 0, none⟩ = some (.int .i64 (p')) := by rw [k_y.cell]; rfl
    have x_y1 : w4.cell? ⟨w2.heap.size, 1, none⟩ = some (.int .i64 (q')) := by rw [k_y.cell]; rfl
    have x_y2 : w4.cell? ⟨w2.heap.size, 2, none⟩ = some (.string ⟨#[]⟩) := by rw [k_y.cell]; rfl
    have l_y := k_y.lt
    go_wp2_with fail
    refine (HT.out _ _).mono ?_
    rintro e w5 ⟨rfl, b5⟩
    clear x_a0 x_a1 x_a2 l_a x_b0 x_b1 x_b2 l_b x_r0 x_r1 x_r2 l_r x_x0 x_x1 x_x2 l_x x_y0 x_y1 x_y2 l_y
    have k_a := k_a.below b5 k_a.lt
    have k_b := k_b.below b5 k_b.lt
    have k_r := k_r.below b5 k_r.lt
    have k_x := k_x.below b5 k_x.lt
    have k_y := k_y.below b5 k_y.lt
    have bb := bb.trans (b5.mono bb.size)
    have x_a0 : w5.cell? ⟨w.heap.size, 0, none⟩ = some (.int .i64 k) := by rw [k_a.cell]; rfl
    have x_a1 : w5.cell? ⟨w.heap.size, 1, none⟩ = some (.int .i64 n) := by rw [k_a.cell]; rfl
    have x_a2 : w5.cell? ⟨w.heap.size, 2, none⟩ = some (.string s) := by rw [k_a.cell]; rfl
    have l_a := k_a.lt
    have x_b0 : w5.cell? ⟨w.heap.size + 1, 0, none⟩ = some (.int .i64 (k')) := by rw [k_b.cell]; rfl
    have x_b1 : w5.cell? ⟨w.heap.size + 1, 1, none⟩ = some (.int .i64 (n')) := by rw [k_b.cell]; rfl
    have x_b2 : w5.cell? ⟨w.heap.size + 1, 2, none⟩ = some (.string (s')) := by rw [k_b.cell]; rfl
    have l_b := k_b.lt
    have x_r0 : w5.cell? ⟨w.heap.size + 1 + 1, 0, none⟩ = some (.int .i64 0) := by rw [k_r.cell]; rfl
    have x_r1 : w5.cell? ⟨w.heap.size + 1 + 1, 1, none⟩ = some (.int .i64 0) := by rw [k_r.cell]; rfl
    have x_r2 : w5.cell? ⟨w.heap.size + 1 + 1, 2, none⟩ = some (.string ⟨#[]⟩) := by rw [k_r.cell]; rfl
    have l_r := k_r.lt
    have x_x0 : w5.cell? ⟨w1.heap.size, 0, none⟩ = some (.int .i64 p) := by rw [k_x.cell]; rfl
    have x_x1 : w5.cell? ⟨w1.heap.size, 1, none⟩ = some (.int .i64 q) := by rw [k_x.cell]; rfl
    have x_x2 : w5.cell? ⟨w1.heap.size, 2, none⟩ = some (.string ⟨#[]⟩) := by rw [k_x.cell]; rfl
    have l_x := k_x.lt
    have x_y0 : w5.cell? ⟨w2.heap.size, 0, none⟩ = some (.int .i64 (p')) := by rw [k_y.cell]; rfl
    have x_y1 : w5.cell? ⟨w2.heap.size, 1, none⟩ = some (.int .i64 (q')) := by rw [k_y.cell]; rfl
    have x_y2 : w5.cell? ⟨w2.heap.size, 2, none⟩ = some (.string ⟨#[]⟩) := by rw [k_y.cell]; rfl
    have l_y := k_y.lt
    have z_r0 := k_r.frozen 0
    have z_r1 := k_r.frozen 1
    have z_r2 := k_r.frozen 2
    go_wp2
    exact bodyPost_ret (v := .tuple #[VS 2 _ ⟨#[]⟩, .int .i64 0]) (by simp [results, Tryd.results36, go_sem, x_r0, x_r1, x_r2, l_r]) rfl ⟨rfl, (((bb).setCell (p := ⟨w.heap.size + 1 + 1, 0, none⟩) (by first | exact Nat.le_refl _ | (simp; done) | (simp; omega) | omega) _).setCell (p := ⟨w.heap.size + 1 + 1, 1, none⟩) (by first | exact Nat.le_refl _ | (simp; done) | (simp; omega) | omega) _).setCell (p := ⟨w.heap.size + 1 + 1, 2, none⟩) (by first | exact Nat.le_refl _ | (simp; done) | (simp; omega) | omega) _⟩
set_option maxHeartbeats 4000000 in
set_option maxRecDepth 100000 in
theorem cmp_le_y_e1 (w : World) (p q e1 : Int) (he : ¬ e1 = 0) (hk : (k == 7) = true) (hk' : (k' == 7) = false) (C1 : ∀ W, Calls Tryd.prog 29 #[VS k n s] W (Ret (.tuple #[VN p q, .int .i64 e1]) W)) : Calls Tryd.prog 36 #[.string ⟨#[60, 61]⟩, VS k n s, VS k' n' s'] w (Ret (.tuple #[VS 0 0 ⟨#[]⟩, .int .i64 e1]) w) := by
  have H1 := Lib.hid C1
  clear C1
  have t1 : (e1 != 0) = true := by simpa using he
  have t2 : ¬ e1 = 0 := he
  go_enter Tryd.func36, Tryd.ntmps36
  go_wp2_with fail
  have k_a := ((Blk.new w 27 #[.int .i64 k, .int .i64 n, .string s]).alloc (.cells #[.int .i64 (k'), .int .i64 (n'), .string (s')] 27)).alloc (.cells #[.int .i64 0, .int .i64 0, .string ⟨#[]⟩] 27)
  have k_b := (Blk.new (w.alloc (.cells #[.int .i64 k, .int .i64 n, .string s] 27)) 27 #[.int .i64 (k'), .int .i64 (n'), .string (s')]).alloc (.cells #[.int .i64 0, .int .i64 0, .string ⟨#[]⟩] 27)
  rw [World.size_alloc] at k_b
  have k_r := Blk.new ((w.alloc (.cells #[.int .i64 k, .int .i64 n, .string s] 27)).alloc (.cells #[.int .i64 (k'), .int .i64 (n'), .string (s')] 27)) 27 #[.int .i64 0, .int .i64 0, .string ⟨#[]⟩]
  rw [World.size_alloc, World.size_alloc] at k_r
  have bb : Below w.heap.size w _ := ((((Below.refl _ _).alloc (Nat.le_refl _) (.cells #[.int .i64 k, .int .i64 n, .string s] 27)).alloc (by simp) (.cells #[.int .i64 (k'), .int .i64 (n'), .string (s')] 27)).alloc (by simp; omega) (.cells #[.int .i64 0, .int .i64 0, .string ⟨#[]⟩] 27))
  generalize (((w.alloc (.cells #[.int .i64 k, .int .i64 n, .string s] 27)).alloc (.cells #[.int .i64 (k'), .int .i64 (n'), .string (s')] 27)).alloc (.cells #[.int .i64 0, .int .i64 0, .string ⟨#[]⟩] 27)) = W0 at *
  refine (H1.out _).mono ?_
  rintro e w1 ⟨rfl, b1⟩
  have k_a := k_a.below b1 k_a.lt
  have k_b := k_b.below b1 k_b.lt
  have k_r := k_r.below b1 k_r.lt
  have bb := bb.trans (b1.mono bb.size)
  have x_a0 : w1.cell? ⟨w.heap.size, 0, none⟩ = some (.int .i64 k) := by rw [k_a.cell]; rfl
  have x_a1 : w1.cell? ⟨w.heap.size, 1, none⟩ = some (.int .i64 n) := by rw [k_a.cell]; rfl
  have x_a2 : w1.cell? ⟨w.heap.size, 2, none⟩ = some (.string s) := by rw [k_a.cell]; rfl
  have l_a := k_a.lt
  have x_b0 : w1.cell? ⟨w.heap.size + 1, 0, none⟩ = some (.int .i64 (k')) := by rw [k_b.cell]; rfl
  have x_b1 : w1.cell? ⟨w.heap.size + 1, 1, none⟩ = some (.int .i64 (n')) := by rw [k_b.cell]; rfl
  have x_b2 : w1.cell? ⟨w.heap.size + 1, 2, none⟩ = some (.string (s')) := by rw [k_b.cell]; rfl
  have l_b := k_b.lt
  have x_r0 : w1.cell? ⟨w.heap.size + 1 + 1, 0, none⟩ = some (.int .i64 0) := by rw [k_r.cell]; rfl
  have x_r1 : w1.cell? ⟨w.heap.size + 1 + 1, 1, none⟩ = some (.int .i64 0) := by rw [k_r.cell]; rfl
  have x_r2 : w1.cell? ⟨w.heap.size + 1 + 1, 2, none⟩ = some (.string ⟨#[]⟩) := by rw [k_r.cell]; rfl
  have l_r := k_r.lt
  have z_r0 := k_r.frozen 0
  have z_r1 := k_r.frozen 1
  have z_r2 := k_r.frozen 2
  go_wp2
  exact bodyPost_ret (v := .tuple #[VS 0 0 ⟨#[]⟩, .int .i64 e1]) (by simp [results, Tryd.results36, go_sem, x_r0, x_r1, x_r2, l_r]) rfl ⟨rfl, ((((bb).setCell (p := ⟨w.heap.size + 1 + 1, 0, none⟩) (by first | exact Nat.le_refl _ | (simp; done) | (simp; omega) | omega) _).setCell (p := ⟨w.heap.size + 1 + 1, 1, none⟩) (by first | exact Nat.le_refl _ | (simp; done) | (simp; omega) | omega) _).setCell (p := ⟨w.heap.size + 1 + 1, 2, none⟩) (by first | exact Nat.le_refl _ | (simp; done) | (simp; omega) | omega) _).alloc (by first | exact bb.size | (simp; exact bb.size) | (have := bb.size; simp; omega)) _⟩
set_option maxHeartbeats 4000000 in
set_option maxRecDepth 100000 in
theorem cmp_le_y_e2 (w : World) (p q p' q' e1 : Int) (he : ¬ e1 = 0) (hk : (k == 7) = true) (hk' : (k' == 7) = false) (C1 : ∀ W, Calls Tryd.prog 29 #[VS k n s] W (Ret (.tuple #[VN p q, .int .i64 0]) W)) (C2 : ∀ W, Calls Tryd.prog 29 #[VS k' n' s'] W (Ret (.tuple #[VN p' q', .int .i64 e1]) W)) : Calls Tryd.prog 36 #[.string ⟨#[60, 61]⟩, VS k n s, VS k' n' s'] w (Ret (.tuple #[VS 0 0 ⟨#[]⟩, .int .i64 e1]) w) := by
  have H1 := Lib.hid C1
  have H2 := Lib.hid C2
  clear C1 C2
  have t1 : (e1 != 0) = true := by simpa using he
  have t2 : ¬ e1 = 0 := he
  go_enter Tryd.func36, Tryd.ntmps36
  go_wp2_with fail
  have k_a := ((Blk.new w 27 #[.int .i64 k, .int .i64 n, .string s]).alloc (.cells #[.int .i64 (k'), .int .i64 (n'), .string (s')] 27)).alloc (.cells #[.int .i64 0, .int .i64 0, .string ⟨#[]⟩] 27)
  have k_b := (Blk.new (w.alloc (.cells #[.int .i64 k, .int .i64 n, .string s] 27)) 27 #[.int .i64 (k'), .int .i64 (n'), .string (s')]).alloc (.cells #[.int .i64 0, .int .i64 0, .string ⟨#[]⟩] 27)
  rw [World.size_alloc] at k_b
  have k_r := Blk.new ((w.alloc (.cells #[.int .i64 k, .int .i64 n, .string s] 27)).alloc (.cells #[.int .i64 (k'), .int .i64 (n'), .string (s')] 27)) 27 #[.int .i64 0, .int .i64 0, .string ⟨#[]⟩]
  rw [World.size_alloc, World.size_alloc] at k_r
  have bb : Below w.heap.size w _ := ((((Below.refl _ _).alloc (Nat.le_refl _) (.cells #[.int .i64 k, .int .i64 n, .string s] 27)).alloc (by simp) (.cells #[.int .i64 (k'), .int .i64 (n'), .string (s')] 27)).alloc (by simp; omega) (.cells #[.int .i64 0, .int .i64 0, .string ⟨#[]⟩] 27))
  generalize (((w.alloc (.cells #[.int .i64 k, .int .i64 n, .string s] 27)).alloc (.cells #[.int .i64 (k'), .int .i64 (n'), .string (s')] 27)).alloc (.cells #[.int .i64 0, .int .i64 0, .string ⟨#[]⟩] 27)) = W0 at *
  refine (H1.out _).mono ?_
  rintro e w1 ⟨rfl, b1⟩
  have k_a := k_a.below b1 k_a.lt
  have k_b := k_b.below b1 k_b.lt
  have k_r := k_r.below b1 k_r.lt
  have bb := bb.trans (b1.mono bb.size)
  have x_a0 : w1.cell? ⟨w.heap.size, 0, none⟩ = some (.int .i64 k) := by rw [k_a.cell]; rfl
  have x_a1 : w1.cell? ⟨w.heap.size, 1, none⟩ = some (.int .i64 n) := by rw [k_a.cell]; rfl
  have x_a2 : w1.cell? ⟨w.heap.size, 2, none⟩ = some (.string s) := by rw [k_a.cell]; rfl
  have l_a := k_a.lt
  have x_b0 : w1.cell? ⟨w.heap.size + 1, 0, none⟩ = some (.int .i64 (k')) := by rw [k_b.cell]; rfl
  have x_b1 : w1.cell? ⟨w.heap.size + 1, 1, none⟩ = some (.int .i64 (n')) := by rw [k_b.cell]; rfl
  have x_b2 : w1.cell? ⟨w.heap.size + 1, 2, none⟩ = some (.string (s')) := by rw [k_b.cell]; rfl
  have l_b := k_b.lt
  have x_r0 : w1.cell? ⟨w.heap.size + 1 + 1, 0, none⟩ = some (.int .i64 0) := by rw [k_r.cell]; rfl
  have x_r1 : w1.cell? ⟨w.heap.size + 1 + 1, 1, none⟩ = some (.int .i64 0) := by rw [k_r.cell]; rfl
  have x_r2 : w1.cell? ⟨w.heap.size + 1 + 1, 2, none⟩ = some (.string ⟨#[]⟩) := by rw [k_r.cell]; rfl
  have l_r := k_r.lt
  go_wp2_with fail
  have k_a := k_a.alloc (.cells #[.int .i64 p, .int .i64 q, .string ⟨#[]⟩] 27)
  have k_b := k_b.alloc (.cells #[.int .i64 p, .int .i64 q, .string ⟨#[]⟩] 27)
  have k_r := k_r.alloc (.cells #[.int .i64 p, .int .i64 q, .string ⟨#[]⟩] 27)
  have k_x := Blk.new w1 27 #[.int .i64 p, .int .i64 q, .string ⟨#[]⟩]
  have bb := bb.alloc bb.size (.cells #[.int .i64 p, .int .i64 q, .string ⟨#[]⟩] 27)
  clear x_a0 x_a1 x_a2 l_a x_b0 x_b1 x_b2 l_b x_r0 x_r1 x_r2 l_r
  generalize w1.alloc (.cells #[.int .i64 p, .int .i64 q, .string ⟨#[]⟩] 27) = V1 at *
  refine (H2.out _).mono ?_
  rintro e w2 ⟨rfl, b2⟩
  have k_a := k_a.below b2 k_a.lt
  have k_b := k_b.below b2 k_b.lt
  have k_r := k_r.below b2 k_r.lt
  have k_x := k_x.below b2 k_x.lt
  have bb := bb.trans (b2.mono bb.size)
  have x_a0 : w2.cell? ⟨w.heap.size, 0, none⟩ = some (.int .i64 k) := by rw [k_a.cell]; rfl
  have x_a1 : w2.cell? ⟨w.heap.size, 1, none⟩ = some (.int .i64 n) := by rw [k_a.cell]; rfl
  have x_a2 : w2.cell? ⟨w.heap.size, 2, none⟩ = some (.string s) := by rw [k_a.cell]; rfl
  have l_a := k_a.lt
  have x_b0 : w2.cell? ⟨w.heap.size + 1, 0, none⟩ = some (.int .i64 (k')) := by rw [k_b.cell]; rfl
  have x_b1 : w2.cell? ⟨w.heap.size + 1, 1, none⟩ = some (.int .i64 (n')) := by rw [k_b.cell]; rfl
  have x_b2 : w2.cell? ⟨w.heap.size + 1, 2, none⟩ = some (.string (s')) := by rw [k_b.cell]; rfl
  have l_b := k_b.lt
  have x_r0 : w2.cell? ⟨w.heap.size + 1 + 1, 0, none⟩ = some (.int .i64 0) := by rw [k_r.cell]; rfl
  have x_r1 : w2.cell? ⟨w.heap.size + 1 + 1, 1, none⟩ = some (.int .i64 0) := by rw [k_r.cell]; rfl
  have x_r2 : w2.cell? ⟨w.heap.size + 1 + 1, 2, none⟩ = some (.string ⟨#[]⟩) := by rw [k_r.cell]; rfl
  have l_r := k_r.lt
  have x_x0 : w2.cell? ⟨w1.heap.size, 0, none⟩ = some (.int .i64 p) := by rw [k_x.cell]; rfl
  have x_x1 : w2.cell? ⟨w1.heap.size, 1, none⟩ = some (.int .i64 q) := by rw [k_x.cell]; rfl
  have x_x2 : w2.cell? ⟨w1.heap.size, 2, none⟩ = some (.string ⟨#[]⟩) := by rw [k_x.cell]; rfl
  have l_x := k_x.lt
  have z_r0 := k_r.frozen 0
  have z_r1 := k_r.frozen 1
  have z_r2 := k_r.frozen 2
  go_wp2
  exact bodyPost_ret (v := .tuple #[VS 0 0 ⟨#[]⟩, .int .i64 e1]) (by simp [results, Tryd.results36, go_sem, x_r0, x_r1, x_r2, l_r]) rfl ⟨rfl, ((((bb).setCell (p := ⟨w.heap.size + 1 + 1, 0, none⟩) (by first | exact Nat.le_refl _ | (simp; done) | (simp; omega) | omega) _).setCell (p := ⟨w.heap.size + 1 + 1, 1, none⟩) (by first | exact Nat.le_refl _ | (simp; done) | (simp; omega) | omega) _).setCell (p := ⟨w.heap.size + 1 + 1, 2, none⟩) (by first | exact Nat.le_refl _ | (simp; done) | (simp; omega) | omega) _).alloc (by first | exact bb.size | (simp; exact bb.size) | (have := bb.size; simp; omega)) _⟩
set_option maxHeartbeats 4000000 in
set_option maxRecDepth 100000 in
theorem cmp_le_y (w : World) (p q p' q' : Int) (l m ok ok2 : Bool) (hk : (k == 7) = true) (hk' : (k' == 7) = false) (C1 : ∀ W, Calls Tryd.prog 29 #[VS k n s] W (Ret (.tuple #[VN p q, .int .i64 0]) W)) (C2 : ∀ W, Calls Tryd.prog 29 #[VS k' n' s'] W (Ret (.tuple #[VN p' q', .int .i64 0]) W)) (C3 : ∀ W, Calls Tryd.prog 53 #[VN p q, VN p' q'] W (Ret (.tuple #[.bool l, .bool ok]) W)) (C4 : ∀ W, Calls Tryd.prog 53 #[VN p' q', VN p q] W (Ret (.tuple #[.bool m, .bool ok2]) W)) : Calls Tryd.prog 36 #[.string ⟨#[60, 61]⟩, VS k n s, VS k' n' s'] w (Ret (.tuple #[VS 2 (tN (ok && !m)) ⟨#[]⟩, .int .i64 0]) w) := by
  have H1 := Lib.hid C1
  have H2 := Lib.hid C2
  have H3 := Lib.hid C3
  have H4 := Lib.hid C4
  clear C1 C2 C3 C4
  cases ok <;> cases m
  all_goals
    have HT := Lib.hid (fun b W => truth_any b W)
    go_enter Tryd.func36, Tryd.ntmps36
    go_wp2_with fail
    have k_a := ((Blk.new w 27 #[.int .i64 k, .int .i64 n, .string s]).alloc (.cells #[.int .i64 (k'), .int .i64 (n'), .string (s')] 27)).alloc (.cells #[.int .i64 0, .int .i64 0, .string ⟨#[]⟩] 27)
    have k_b := (Blk.new (w.alloc (.cells #[.int .i64 k, .int .i64 n, .string s] 27)) 27 #[.int .i64 (k'), .int .i64 (n'), .string (s')]).alloc (.cells #[.int .i64 0, .int .i64 0, .string ⟨#[]⟩] 27)
    rw [World.size_alloc] at k_b
    have k_r := Blk.new ((w.alloc (.cells #[.int .i64 k, .int .i64 n, .string s] 27)).alloc (.cells #[.int .i64 (k'), .int .i64 (n'), .string (s')] 27)) 27 #[.int .i64 0, .int .i64 0, .string ⟨#[]⟩]
    rw [World.size_alloc, World.size_alloc] at k_r
    have bb : Below w.heap.size w _ := ((((Below.refl _ _).alloc (Nat.le_refl _) (.cells #[.int .i64 k, .int .i64 n, .string s] 27)).alloc (by simp) (.cells #[.int .i64 (k'), .int .i64 (n'), .string (s')] 27)).alloc (by simp; omega) (.cells #[.int .i64 0, .int .i64 0, .string ⟨#[]⟩] 27))
    generalize (((w.alloc (.cells #[.int .i64 k, .int .i64 n, .string s] 27)).alloc (.cells #[.int .i64 (k'), .int .i64 (n'), .string (s')] 27)).alloc (.cells #[.int .i64 0, .int .i64 0, .string ⟨#[]⟩] 27)) = W0 at *
    refine (H1.out _).mono ?_
    rintro e w1 ⟨rfl, b1⟩
    have k_a := k_a.below b1 k_a.lt
    have k_b := k_b.below b1 k_b.lt
    have k_r := k_r.below b1 k_r.lt
    have bb := bb.trans (b1.mono bb.size)
    have x_a0 : w1.cell? ⟨w.heap.size, 0, none⟩ = some (.int .i64 k) := by rw [k_a.cell]; rfl
    have x_a1 : w1.cell? ⟨w.heap.size, 1, none⟩ = some (.int .i64 n) := by rw [k_a.cell]; rfl
    have x_a2 : w1.cell? ⟨w.heap.size, 2, none⟩ = some (.string s) := by rw [k_a.cell]; rfl
    have l_a := k_a.lt
    have x_b0 : w1.cell? ⟨w.heap.size + 1, 0, none⟩ = some (.int .i64 (k')) := by rw [k_b.cell]; rfl
    have x_b1 : w1.cell? ⟨w.heap.size + 1, 1, none⟩ = some (.int .i64 (n')) := by rw [k_b.cell]; rfl
    have x_b2 : w1.cell? ⟨w.heap.size + 1, 2, none⟩ = some (.string (s')) := by rw [k_b.cell]; rfl
    have l_b := k_b.lt
    have x_r0 : w1.cell? ⟨w.heap.size + 1 + 1, 0, none⟩ = some (.int .i64 0) := by rw [k_r.cell]; rfl
    have x_r1 : w1.cell? ⟨w.heap.size + 1 + 1, 1, none⟩ = some (.int .i64 0) := by rw [k_r.cell]; rfl
    have x_r2 : w1.cell? ⟨w.heap.size + 1 + 1, 2, none⟩ = some (.string ⟨#[]⟩) := by rw [k_r.cell]; rfl
    have l_r := k_r.lt
    go_wp2_with fail
    have k_a := k_a.alloc (.cells #[.int .i64 p, .int .i64 q, .string ⟨#[]⟩] 27)
    have k_b := k_b.alloc (.cells #[.int .i64 p, .int .i64 q, .string ⟨#[]⟩] 27)
    have k_r := k_r.alloc (.cells #[.int .i64 p, .int .i64 q, .string ⟨#[]⟩] 27)
    have k_x := Blk.new w1 27 #[.int .i64 p, .int .i64 q, .string ⟨#[]⟩]
    have bb := bb.alloc bb.size (.cells #[.int .i64 p, .int .i64 q, .string ⟨#[]⟩] 27)
    clear x_a0 x_a1 x_a2 l_a x_b0 x_b1 x_b2 l_b x_r0 x_r1 x_r2 l_r
    generalize w1.alloc (.cells #[.int .i64 p, .int .i64 q, .string ⟨#[]⟩] 27) = V1 at *
    refine (H2.out _).mono ?_
    rintro e w2 ⟨rfl, b2⟩
    have k_a := k_a.below b2 k_a.lt
    have k_b := k_b.below b2 k_b.lt
    have k_r := k_r.below b2 k_r.lt
    have k_x := k_x.below b2 k_x.lt
    have bb := bb.trans (b2.mono bb.size)
    have x_a0 : w2.cell? ⟨w.heap.size, 0, none⟩ = some (.int .i64 k) := by rw [k_a.cell]; rfl
    have x_a1 : w2.cell? ⟨w.heap.size, 1, none⟩ = some (.int .i64 n) := by rw [k_a.cell]; rfl
    have x_a2 : w2.cell? ⟨w.heap.size, 2, none⟩ = some (.string s) := by rw [k_a.cell]; rfl
    have l_a := k_a.lt
    have x_b0 : w2.cell? ⟨w.heap.size + 1, 0, none⟩ = some (.int .i64 (k')) := by rw [k_b.cell]; rfl
    have x_b1 : w2.cell? ⟨w.heap.size + 1, 1, none⟩ = some (.int .i64 (n')) := by rw [k_b.cell]; rfl
    have x_b2 : w2.cell? ⟨w.heap.size + 1, 2, none⟩ = some (.string (s')) := by rw [k_b.cell]; rfl
    have l_b := k_b.lt
    have x_r0 : w2.cell? ⟨w.heap.size + 1 + 1, 0, none⟩ = some (.int .i64 0) := by rw [k_r.cell]; rfl
    have x_r1 : w2.cell? ⟨w.heap.size + 1 + 1, 1, none⟩ = some (.int .i64 0) := by rw [k_r.cell]; rfl
    have x_r2 : w2.cell? ⟨w.heap.size + 1 + 1, 2, none⟩ = some (.string ⟨#[]⟩) := by rw [k_r.cell]; rfl
    have l_r := k_r.lt
    have x_x0 : w2.cell? ⟨w1.heap.size, 0, none⟩ = some (.int .i64 p) := by rw [k_x.cell]; rfl
    have x_x1 : w2.cell? ⟨w1.heap.size, 1, none⟩ = some (.int .i64 q) := by rw [k_x.cell]; rfl
    have x_x2 : w2.cell? ⟨w1.heap.size, 2, none⟩ = some (.string ⟨#[]⟩) := by rw [k_x.cell]; rfl
    have l_x := k_x.lt
    go_wp2_with fail
    have k_a := k_a.alloc (.cells #[.int .i64 (p'), .int .i64 (q'), .string ⟨#[]⟩] 27)
    have k_b := k_b.alloc (.cells #[.int .i64 (p'), .int .i64 (q'), .string ⟨#[]⟩] 27)
    have k_r := k_r.alloc (.cells #[.int .i64 (p'), .int .i64 (q'), .string ⟨#[]⟩] 27)
    have k_x := k_x.alloc (.cells #[.int .i64 (p'), .int .i64 (q'), .string ⟨#[]⟩] 27)
    have k_y := Blk.new w2 27 #[.int .i64 (p'), .int .i64 (q'), .string ⟨#[]⟩]
    have bb := bb.alloc bb.size (.cells #[.int .i64 (p'), .int .i64 (q'), .string ⟨#[]⟩] 27)
    clear x_a0 x_a1 x_a2 l_a x_b0 x_b1 x_b2 l_b x_r0 x_r1 x_r2 l_r x_x0 x_x1 x_x2 l_x
    generalize w2.alloc (.cells #[.int .i64 (p'), .int .i64 (q'), .string ⟨#[]⟩] 27) = V2 at *
    refine (H3.out _).mono ?_
    rintro e w3 ⟨rfl, b3⟩
    have k_a := k_a.below b3 k_a.lt
    have k_b := k_b.below b3 k_b.lt
    have k_r := k_r.below b3 k_r.lt
    have k_x := k_x.below b3 k_x.lt
    have k_y := k_y.below b3 k_y.lt
    have bb := bb.trans (b3.mono bb.size)
    have x_a0 : w3.cell? ⟨w.heap.size, 0, none⟩ = some (.int .i64 k) := by rw [k_a.cell]; rfl
    have x_a1 : w3.cell? ⟨w.heap.size, 1, none⟩ = some (.int .i64 n) := by rw [k_a.cell]; rfl
    have x_a2 : w3.cell? ⟨w.heap.size, 2, none⟩ = some (.string s) := by rw [k_a.cell]; rfl
    have l_a := k_a.lt
    have x_b0 : w3.cell? ⟨w.heap.size + 1, 0, none⟩ = some (.int .i64 (k')) := by rw [k_b.cell]; rfl
    have x_b1 : w3.cell? ⟨w.heap.size + 1, 1, none⟩ = some (.int .i64 (n')) := by rw [k_b.cell]; rfl
    have x_b2 : w3.cell? ⟨w.heap.size + 1, 2, none⟩ = some (.string (s')) := by rw [k_b.cell]; rfl
    have l_b := k_b.lt
    have x_r0 : w3.cell? ⟨w.heap.size + 1 + 1, 0, none⟩ = some (.int .i64 0) := by rw [k_r.cell]; rfl
    have x_r1 : w3.cell? ⟨w.heap.size + 1 + 1, 1, none⟩ = some (.int .i64 0) := by rw [k_r.cell]; rfl
    have x_r2 : w3.cell? ⟨w.heap.size + 1 + 1, 2, none⟩ = some (.string ⟨#[]⟩) := by rw [k_r.cell]; rfl
    have l_r := k_r.lt
    have x_x0 : w3.cell? ⟨w1.heap.size, 0, none⟩ = some (.int .i64 p) := by rw [k_x.cell]; rfl
    have x_x1 : w3.cell? ⟨w1.heap.size, 1, none⟩ = some (.int .i64 q) := by rw [k_x.cell]; rfl
    have x_x2 : w3.cell? ⟨w1.heap.size, 2, none⟩ = some (.string ⟨#[]⟩) := by rw [k_x.cell]; rfl
    have l_x := k_x.lt
    have x_y0 : w3.cell? ⟨w2.heap.size, 0, none⟩ = some (.int .i64 (p')) := by rw [k_y.cell]; rfl
    have x_y1 : w3.cell? ⟨w2.heap.size, 1, none⟩ = some (.int .i64 (q')) := by rw [k_y.cell]; rfl
    have x_y2 : w3.cell? ⟨w2.heap.size, 2, none⟩ = some (.string ⟨#[]⟩) := by rw [k_y.cell]; rfl
    have l_y := k_y.lt
    go_wp2_with fail
    refine (H4.out _).mono ?_
    rintro e w4 ⟨rfl, b4⟩
    clear x_a0 x_a1 x_a2 l_a x_b0 x_b1 x_b2 l_b x_r0 x_r1 x_r2 l_r x_x0 x_x1 x_x2 l_x x_y0 x_y1 x_y2 l_y
    have k_a := k_a.below b4 k_a.lt
    have k_b := k_b.below b4 k_b.lt
    have k_r := k_r.below b4 k_r.lt
    have k_x := k_x.below b4 k_x.lt
    have k_y := k_y.below b4 k_y.lt
    have bb := bb.trans (b4.mono bb.size)
    have x_a0 : w4.cell? ⟨w.heap.size, 0, none⟩ = some (.int .i64 k) := by rw [k_a.cell]; rfl
    have x_a1 : w4.cell? ⟨w.heap.size, 1, none⟩ = some (.int .i64 n) := by rw [k_a.cell]; rfl
    have x_a2 : w4.cell? ⟨w.heap.size, 2, none⟩ = some (.string s) := by rw [k_a.cell]; rfl
    have l_a := k_a.lt
    have x_b0 : w4.cell? ⟨w.heap.size + 1, 0, none⟩ = some (.int .i64 (k')) := by rw [k_b.cell]; rfl
    have x_b1 : w4.cell? ⟨w.heap.size + 1, 1, none⟩ = some (.int .i64 (n')) := by rw [k_b.cell]; rfl
    have x_b2 : w4.cell? ⟨w.heap.size + 1, 2, none⟩ = some (.string (s')) := by rw [k_b.cell]; rfl
    have l_b := k_b.lt
    have x_r0 : w4.cell? ⟨w.heap.size + 1 + 1, 0, none⟩ = some (.int .i64 0) := by rw [k_r.cell]; rfl
    have x_r1 : w4.cell? ⟨w.heap.size + 1 + 1, 1, none⟩ = some (.int .i64 0) := by rw [k_r.cell]; rfl
    have x_r2 : w4.cell? ⟨w.heap.size + 1 + 1, 2, none⟩ = some (.string ⟨#[]⟩) := by rw [k_r.cell]; rfl
    have l_r := k_r.lt
    have x_x0 : w4.cell? ⟨w1.heap.size, 0, none⟩ = some (.int .i64 p) := by rw [k_x.cell]; rfl
    have x_x1 : w4.cell? ⟨w1.heap.size, 1, none⟩ = some (.int .i64 q) := by rw [k_x.cell]; rfl
    have x_x2 : w4.cell? ⟨w1.heap.size, 2, none⟩ = some (.string ⟨#[]⟩) := by rw [k_x.cell]; rfl
    have l_x := k_x.lt
    have x_y0 : w4.cell? ⟨w2.heap.size, 0, none⟩ = some (.int .i64 (p')) := by rw [k_y.cell]; rfl
    have x_y1 : w4.cell? ⟨w2.heap.size, 1, none⟩ = some (.int .i64 (q')) := by rw [k_y.cell]; rfl
    have x_y2 : w4.cell? ⟨w2.heap.size, 2, none⟩ = some (.string ⟨#[]⟩) := by rw [k_y.cell]; rfl
    have l_y := k_y.lt
    go_wp2_with fail
    refine (HT.out _ _).mono ?_
    rintro e w5 ⟨rfl, b5⟩
    clear x_a0 x_a1 x_a2 l_a x_b0 x_b1 x_b2 l_b x_r0 x_r1 x_r2 l_r x_x0 x_x1 x_x2 l_x x_y0 x_y1 x_y2 l_y
    have k_a := k_a.below b5 k_a.lt
    have k_b := k_b.below b5 k_b.lt
    have k_r := k_r.below b5 k_r.lt
    have k_x := k_x.below b5 k_x.lt
    have k_y := k_y.below b5 k_y.lt
    have bb := bb.trans (b5.mono bb.size)
    have x_a0 : w5.cell? ⟨w.heap.size, 0, none⟩ = some (.int .i64 k) := by rw [k_a.cell]; rfl
    have x_a1 : w5.cell? ⟨w.heap.size, 1, none⟩ = some (.int .i64 n) := by rw [k_a.cell]; rfl
    have x_a2 : w5.cell? ⟨w.heap.size, 2, none⟩ = some (.string s) := by rw [k_a.cell]; rfl
    have l_a := k_a.lt
    have x_b0 : w5.cell? ⟨w.heap.size + 1, 0, none⟩ = some (.int .i64 (k')) := by rw [k_b.cell]; rfl
    have x_b1 : w5.cell? ⟨w.heap.size + 1, 1, none⟩ = some (.int .i64 (n')) := by rw [k_b.cell]; rfl
    have x_b2 : w5.cell? ⟨w.heap.size + 1, 2, none⟩ = some (.string (s')) := by rw [k_b.cell]; rfl
    have l_b := k_b.lt
    have x_r0 : w5.cell? ⟨w.heap.size + 1 + 1, 0, none⟩ = some (.int .i64 0) := by rw [k_r.cell]; rfl
    have x_r1 : w5.cell? ⟨w.heap.size + 1 + 1, 1, none⟩ = some (.int .i64 0) := by rw [k_r.cell]; rfl
    have x_r2 : w5.cell? ⟨w.heap.size + 1 + 1, 2, none⟩ = some (.string ⟨#[]⟩) := by rw [k_r.cell]; rfl
    have l_r := k_r.lt
    have x_x0 : w5.cell? ⟨w1.heap.size, 0, none⟩ = some (.int .i64 p) := by rw [k_x.cell]; rfl
    have x_x1 : w5.cell? ⟨w1.heap.size, 1, none⟩ = some (.int .i64 q) := by rw [k_x.cell]; rfl
    have x_x2 : w5.cell? ⟨w1.heap.size, 2, none⟩ = some (.string ⟨#[]⟩) := by rw [k_x.cell]; rfl
    have l_x := k_x.lt
    have x_y0 : w5.cell? ⟨w2.heap.size, 0, none⟩ = some (.int .i64 (p')) := by rw [k_y.cell]; rfl
    have x_y1 : w5.cell? ⟨w2.heap.size, 1, none⟩ = some (.int .i64 (q')) := by rw [k_y.cell]; rfl
    have x_y2 : w5.cell? ⟨w2.heap.size, 2, none⟩ = some (.string ⟨#[]⟩) := by rw [k_y.cell]; rfl
    have l_y := k_y.lt
    have z_r0 := k_r.frozen 0
    have z_r1 := k_r.frozen 1
    have z_r2 := k_r.frozen 2
    go_wp2
    exact bodyPost_ret (v := .tuple #[VS 2 _ ⟨#[]⟩, .int .i64 0]) (by simp [results, Tryd.results36, go_sem, x_r0, x_r1, x_r2, l_r]) rfl ⟨rfl, (((bb).setCell (p := ⟨w.heap.size + 1 + 1, 0, none⟩) (by first | exact Nat.le_refl _ | (simp; done) | (simp; omega) | omega) _).setCell (p := ⟨w.heap.size + 1 + 1, 1, none⟩) (by first | exact Nat.le_refl _ | (simp; done) | (simp; omega) | omega) _).setCell (p := ⟨w.heap.size + 1 + 1, 2, none⟩) (by first | exact Nat.le_refl _ | (simp; done) | (simp; omega) | omega) _⟩
set_option maxHeartbeats 4000000 in
set_option maxRecDepth 100000 in
theorem cmp_ge_x_e1 (w : World) (p q e1 : Int) (he : ¬ e1 = 0) (hk : (k == 7) = false) (C1 : ∀ W, Calls Tryd.prog 29 #[VS k n s] W (Ret (.tuple #[VN p q, .int .i64 e1]) W)) : Calls Tryd.prog 36 #[.string ⟨#[62, 61]⟩, VS k n s, VS k' n' s'] w (Ret (.tuple #[VS 0 0 ⟨#[]⟩, .int .i64 e1]) w) := by
  have H1 := Lib.hid C1
  clear C1
  have t1 : (e1 != 0) = true := by simpa using he
  have t2 : ¬ e1 = 0 := he
  go_enter Tryd.func36, Tryd.ntmps36
  go_wp2_with fail
  have k_a := ((Blk.new w 27 #[.int .i64 k, .int .i64 n, .string s]).alloc (.cells #[.int .i64 (k'), .int .i64 (n'), .string (s')] 27)).alloc (.cells #[.int .i64 0, .int .i64 0, .string ⟨#[]⟩] 27)
  have k_b := (Blk.new (w.alloc (.cells #[.int .i64 k, .int .i64 n, .string s] 27)) 27 #[.int .i64 (k'), .int .i64 (n'), .string (s')]).alloc (.cells #[.int .i64 0, .int .i64 0, .string ⟨#[]⟩] 27)
  rw [World.size_alloc] at k_b
  have k_r := Blk.new ((w.alloc (.cells #[.int .i64 k, .int .i64 n, .string s] 27)).alloc (.cells #[.int .i64 (k'), .int .i64 (n'), .string (s')] 27)) 27 #[.int .i64 0, .int .i64 0, .string ⟨#[]⟩]
  rw [World.size_alloc, World.size_alloc] at k_r
  have bb : Below w.heap.size w _ := ((((Below.refl _ _).alloc (Nat.le_refl _) (.cells #[.int .i64 k, .int .i64 n, .string s] 27)).alloc (by simp) (.cells #[.int .i64 (k'), .int .i64 (n'), .string (s')] 27)).alloc (by simp; omega) (.cells #[.int .i64 0, .int .i64 0, .string ⟨#[]⟩] 27))
  generalize (((w.alloc (.cells #[.int .i64 k, .int .i64 n, .string s] 27)).alloc (.cells #[.int .i64 (k'), .int .i64 (n'), .string (s')] 27)).alloc (.cells #[.int .i64 0, .int .i64 0, .string ⟨#[]⟩] 27)) = W0 at *
  refine (H1.out _).mono ?_
  rintro e w1 ⟨rfl, b1⟩
  have k_a := k_a.below b1 k_a.lt
  have k_b := k_b.below b1 k_b.lt
  have k_r := k_r.below b1 k_r.lt
  have bb := bb.trans (b1.mono bb.size)
  have x_a0 : w1.cell? ⟨w.heap.size, 0, none⟩ = some (.int .i64 k) := by rw [k_a.cell]; rfl
  have x_a1 : w1.cell? ⟨w.heap.size, 1, none⟩ = some (.int .i64 n) := by rw [k_a.cell]; rfl
  have x_a2 : w1.cell? ⟨w.heap.size, 2, none⟩ = some (.string s) := by rw [k_a.cell]; rfl
  have l_a := k_a.lt
  have x_b0 : w1.cell? ⟨w.heap.size + 1, 0, none⟩ = some (.int .i64 (k')) := by rw [k_b.cell]; rfl
  have x_b1 : w1.cell? ⟨w.heap.size + 1, 1, none⟩ = some (.int .i64 (n')) := by rw [k_b.cell]; rfl
  have x_b2 : w1.cell? ⟨w.heap.size + 1, 2, none⟩ = some (.string (s')) := by rw [k_b.cell]; rfl
  have l_b := k_b.lt
  have x_r0 : w1.cell? ⟨w.heap.size + 1 + 1, 0, none⟩ = some (.int .i64 0) := by rw [k_r.cell]; rfl
  have x_r1 : w1.cell? ⟨w.heap.size + 1 + 1, 1, none⟩ = some (.int .i64 0) := by rw [k_r.cell]; rfl
  have x_r2 : w1.cell? ⟨w.heap.size + 1 + 1, 2, none⟩ = some (.string ⟨#[]⟩) := by rw [k_r.cell]; rfl
  have l_r := k_r.lt
  have z_r0 := k_r.frozen 0
  have z_r1 := k_r.frozen 1
  have z_r2 := k_r.frozen 2
  go_wp2
  exact bodyPost_ret (v := .tuple #[VS 0 0 ⟨#[]⟩, .int .i64 e1]) (by simp [results, Tryd.results36, go_sem, x_r0, x_r1, x_r2, l_r]) rfl ⟨rfl, ((((bb).setCell (p := ⟨w.heap.size + 1 + 1, 0, none⟩) (by first | exact Nat.le_refl _ | (simp; done) | (simp; omega) | omega) _).setCell (p := ⟨w.heap.size + 1 + 1, 1, none⟩) (by first | exact Nat.le_refl _ | (simp; done) | (simp; omega) | omega) _).setCell (p := ⟨w.heap.size + 1 + 1, 2, none⟩) (by first | exact Nat.le_refl _ | (simp; done) | (simp; omega) | omega) _).alloc (by first | exact bb.size | (simp; exact bb.size) | (have := bb.size; simp; omega)) _⟩
set_option maxHeartbeats 4000000 in
set_option maxRecDepth 100000 in
theorem cmp_ge_x_e2 (w : World) (p q p' q' e1 : Int) (he : ¬ e1 = 0) (hk : (k == 7) = false) (C1 : ∀ W, Calls Tryd.prog 29 #[VS k n s] W (Ret (.tuple #[VN p q, .int .i64 0]) W)) (C2 : ∀ W, Calls Tryd.prog 29 #[VS k' n' s'] W (Ret (.tuple #[VN p' q', .int .i64 e1]) W)) : Calls Tryd.prog 36 #[.string ⟨#[62, 61]⟩, VS k n s, VS k' n' s'] w (Ret (.tuple #[VS 0 0 ⟨#[]⟩, .int .i64 e1]) w) := by
  have H1 := Lib.hid C1
  have H2 := Lib.hid C2
  clear C1 C2
  have t1 : (e1 != 0) = true := by simpa using he
  have t2 : ¬ e1 = 0 := he
  go_enter Tryd.func36, Tryd.ntmps36
  go_wp2_with fail
  have k_a := ((Blk.new w 27 #[.int .i64 k, .int .i64 n, .string s]).alloc (.cells #[.int .i64 (k'), .int .i64 (n'), .string (s')] 27)).alloc (.cells #[.int .i64 0, .int .i64 0, .string ⟨#[]⟩] 27)
  have k_b := (Blk.new (w.alloc (.cells #[.int .i64 k, .int .i64 n, .string s] 27)) 27 #[.int .i64 (k'), .int .i64 (n'), .string (s')]).alloc (.cells #[.int .i64 0, .int .i64 0, .string ⟨#[]⟩] 27)
  rw [World.size_alloc] at k_b
  have k_r := Blk.new ((w.alloc (.cells #[.int .i64 k, .int .i64 n, .string s] 27)).alloc (.cells #[.int .i64 (k'), .int .i64 (n'), .string (s')] 27)) 27 #[.int .i64 0, .int .i64 0, .string ⟨#[]⟩]
  rw [World.size_alloc, World.size_alloc] at k_r
  have bb : Below w.heap.size w _ := ((((Below.refl _ _).alloc (Nat.le_refl _) (.cells #[.int .i64 k, .int .i64 n, .string s] 27)).alloc (by simp) (.cells #[.int .i64 (k'), .int .i64 (n'), .string (s')] 27)).alloc (by simp; omega) (.cells #[.int .i64 0, .int .i64 0, .string ⟨#[]⟩] 27))
  generalize (((w.alloc (.cells #[.int .i64 k, .int .i64 n, .string s] 27)).alloc (.cells #[.int .i64 (k'), .int .i64 (n'), .string (s')] 27)).alloc (.cells #[.int .i64 0, .int .i64 0, .string ⟨#[]⟩] 27)) = W0 at *
  refine (H1.out _).mono ?_
  rintro e w1 ⟨rfl, b1⟩
  have k_a := k_a.below b1 k_a.lt
  have k_b := k_b.below b1 k_b.lt
  have k_r := k_r.below b1 k_r.lt
  have bb := bb.trans (b1.mono bb.size)
  have x_a0 : w1.cell? ⟨w.heap.size, 0, none⟩ = some (.int .i64 k) := by rw [k_a.cell]; rfl
  have x_a1 : w1.cell? ⟨w.heap.size, 1, none⟩ = some (.int .i64 n) := by rw [k_a.cell]; rfl
  have x_a2 : w1.cell? ⟨w.heap.size, 2, none⟩ = some (.string s) := by rw [k_a.cell]; rfl
  have l_a := k_a.lt
  have x_b0 : w1.cell? ⟨w.heap.size + 1, 0, none⟩ = some (.int .i64 (k')) := by rw [k_b.cell]; rfl
  have x_b1 : w1.cell? ⟨w.heap.size + 1, 1, none⟩ = some (.int .i64 (n')) := by rw [k_b.cell]; rfl
  have x_b2 : w1.cell? ⟨w.heap.size + 1, 2, none⟩ = some (.string (s')) := by rw [k_b.cell]; rfl
  have l_b := k_b.lt
  have x_r0 : w1.cell? ⟨w.heap.size + 1 + 1, 0, none⟩ = some (.int .i64 0) := by rw [k_r.cell]; rfl
  have x_r1 : w1.cell? ⟨w.heap.size + 1 + 1, 1, none⟩ = some (.int .i64 0) := by rw [k_r.cell]; rfl
  have x_r2 : w1.cell? ⟨w.heap.size + 1 + 1, 2, none⟩ = some (.string ⟨#[]⟩) := by rw [k_r.cell]; rfl
  have l_r := k_r.lt
  go_wp2_with fail
  have k_a := k_a.alloc (.cells #[.int .i64 p, .int .i64 q, .string ⟨#[]⟩] 27)
  have k_b := k_b.alloc (.cells #[.int .i64 p, .int .i64 q, .string ⟨#[]⟩] 27)
  have k_r := k_r.alloc (.cells #[.int .i64 p, .int .i64 q, .string ⟨#[]⟩] 27)
  have k_x := Blk.new w1 27 #[.int .i64 p, .int .i64 q, .string ⟨#[]⟩]
  have bb := bb.alloc bb.size (.cells #[.int .i64 p, .int .i64 q, .string ⟨#[]⟩] 27)
  clear x_a0 x_a1 x_a2 l_a x_b0 x_b1 x_b2 l_b x_r0 x_r1 x_r2 l_r
  generalize w1.alloc (.cells #[.int .i64 p, .int .i64 q, .string ⟨#[]⟩] 27) = V1 at *
  refine (H2.out _).mono ?_
  rintro e w2 ⟨rfl, b2⟩
  have k_a := k_a.below b2 k_a.lt
  have k_b := k_b.below b2 k_b.lt
  have k_r := k_r.below b2 k_r.lt
  have k_x := k_x.below b2 k_x.lt
  have bb := bb.trans (b2.mono bb.size)
  have x_a0 : w2.cell? ⟨w.heap.size, 0, none⟩ = some (.int .i64 k) := by rw [k_a.cell]; rfl
  have x_a1 : w2.cell? ⟨w.heap.size, 1, none⟩ = some (.int .i64 n) := by rw [k_a.cell]; rfl
  have x_a2 : w2.cell? ⟨w.heap.size, 2, none⟩ = some (.string s) := by rw [k_a.cell]; rfl
  have l_a := k_a.lt
  have x_b0 : w2.cell? ⟨w.heap.size + 1, 0, none⟩ = some (.int .i64 (k')) := by rw [k_b.cell]; rfl
  have x_b1 : w2.cell? ⟨w.heap.size + 1, 1, none⟩ = some (.int .i64 (n')) := by rw [k_b.cell]; rfl
  have x_b2 : w2.cell? ⟨w.heap.size + 1, 2, none⟩ = some (.string (s')) := by rw [k_b.cell]; rfl
  have l_b := k_b.lt
  have x_r0 : w2.cell? ⟨w.heap.size + 1 + 1, 0, none⟩ = some (.int .i64 0) := by rw [k_r.cell]; rfl
  have x_r1 : w2.cell? ⟨w.heap.size + 1 + 1, 1, none⟩ = some (.int .i64 0) := by rw [k_r.cell]; rfl
  have x_r2 : w2.cell? ⟨w.heap.size + 1 + 1, 2, none⟩ = some (.string ⟨#[]⟩) := by rw [k_r.cell]; rfl
  have l_r := k_r.lt
  have x_x0 : w2.cell? ⟨w1.heap.size, 0, none⟩ = some (.int .i64 p) := by rw [k_x.cell]; rfl
  have x_x1 : w2.cell? ⟨w1.heap.size, 1, none⟩ = some (.int .i64 q) := by rw [k_x.cell]; rfl
  have x_x2 : w2.cell? ⟨w1.heap.size, 2, none⟩ = some (.string ⟨#[]⟩) := by rw [k_x.cell]; rfl
  have l_x := k_x.lt
  have z_r0 := k_r.frozen 0
  have z_r1 := k_r.frozen 1
  have z_r2 := k_r.frozen 2
  go_wp2
  exact bodyPost_ret (v := .tuple #[VS 0 0 ⟨#[]⟩, .int .i64 e1]) (by simp [results, Tryd.results36, go_sem, x_r0, x_r1, x_r2, l_r]) rfl ⟨rfl, ((((bb).setCell (p := ⟨w.heap.size + 1 + 1, 0, none⟩) (by first | exact Nat.le_refl _ | (simp; done) | (simp; omega) | omega) _).setCell (p := ⟨w.heap.size + 1 + 1, 1, none⟩) (by first | exact Nat.le_refl _ | (simp; done) | (simp; omega) | omega) _).setCell (p := ⟨w.heap.size + 1 + 1, 2, none⟩) (by first | exact Nat.le_refl _ | (simp; done) | (simp; omega) | omega) _).alloc (by first | exact bb.size | (simp; exact bb.size) | (have := bb.size; simp; omega)) _⟩
set_option maxHeartbeats 4000000 in
set_option maxRecDepth 100000 in
theorem cmp_ge_x (w : World) (p q p' q' : Int) (l m ok ok2 : Bool) (hk : (k == 7) = false) (C1 : ∀ W, Calls Tryd.prog 29 #[VS k n s] W (Ret (.tuple #[VN p q, .int .i64 0]) W)) (C2 : ∀ W, Calls Tryd.prog 29 #[VS k' n' s'] W (Ret (.tuple #[VN p' q', .int .i64 0]) W)) (C3 : ∀ W, Calls Tryd.prog 53 #[VN p q, VN p' q'] W (Ret (.tuple #[.bool l, .bool ok]) W)) (C4 : ∀ W, Calls Tryd.prog 53 #[VN p' q', VN p q] W (Ret (.tuple #[.bool m, .bool ok2]) W)) : Calls Tryd.prog 36 #[.string ⟨#[62, 61]⟩, VS k n s, VS k' n' s'] w (Ret (.tuple #[VS 2 (tN (ok && !l)) ⟨#[]⟩, .int .i64 0]) w) := by
  have H1 := Lib.hid C1
  have H2 := Lib.hid C2
  have H3 := Lib.hid C3
  have H4 := Lib.hid C4
  clear C1 C2 C3 C4
  cases ok <;> cases l
  all_goals
    have HT := Lib.hid (fun b W => truth_any b W)
    go_enter Tryd.func36, Tryd.ntmps36
    go_wp2_with fail
    have k_a := ((Blk.new w 27 #[.int .i64 k, .int .i64 n, .string s]).alloc (.cells #[.int .i64 (k'), .int .i64 (n'), .string (s')] 27)).alloc (.cells #[.int .i64 0, .int .i64 0, .string ⟨#[]⟩] 27)
    have k_b := (Blk.new (w.alloc (.cells #[.int .i64 k, .int .i64 n, .string s] 27)) 27 #[.int .i64 (k'), .int .i64 (n'), .string (s')]).alloc (.cells #[.int .i64 0, .int .i64 0, .string ⟨#[]⟩] 27)
    rw [World.size_alloc] at k_b
    have k_r := Blk.new ((w.alloc (.cells #[.int .i64 k, .int .i64 n, .string s] 27)).alloc (.cells #[.int .i64 (k'), .int .i64 (n'), .string (s')] 27)) 27 #[.int .i64 0, .int .i64 0, .string ⟨#[]⟩]
    rw [World.size_alloc, World.size_alloc] at k_r
    have bb : Below w.heap.size w _ := ((((Below.refl _ _).alloc (Nat.le_refl _) (.cells #[.int .i64 k, .int .i64 n, .string s] 27)).alloc (by simp) (.cells #[.int .i64 (k'), .int .i64 (n'), .string (s')] 27)).alloc (by simp; omega) (.cells #[.int .i64 0, .int .i64 0, .string ⟨#[]⟩] 27))
    generalize (((w.alloc (.cells #[.int .i64 k, .int .i64 n, .string s] 27)).alloc (.cells #[.int .i64 (k'), .int .i64 (n'), .string (s')] 27)).alloc (.cells #[.int .i64 0, .int .i64 0, .string ⟨#[]⟩] 27)) = W0 at *
    refine (H1.out _).mono ?_
    rintro e w1 ⟨rfl, b1⟩
    have k_a := k_a.below b1 k_a.lt
    have k_b := k_b.below b1 k_b.lt
    have k_r := k_r.below b1 k_r.lt
    have bb := bb.trans (b1.mono bb.size)
    have x_a0 : w1.cell? ⟨w.heap.size, 0, none⟩ = some (.int .i64 k) := by rw [k_a.cell]; rfl
    have x_a1 : w1.cell? ⟨w.heap.size, 1, none⟩ = some (.int .i64 n) := by rw [k_a.cell]; rfl
    have x_a2 : w1.cell? ⟨w.heap.size, 2, none⟩ = some (.string s) := by rw [k_a.cell]; rfl
    have l_a := k_a.lt
    have x_b0 : w1.cell? ⟨w.heap.size + 1, 0, none⟩ = some (.int .i64 (k')) := by rw [k_b.cell]; rfl
    have x_b1 : w1.cell? ⟨w.heap.size + 1, 1, none⟩ = some (.int .i64 (n')) := by rw [k_b.cell]; rfl
    have x_b2 : w1.cell? ⟨w.heap.size + 1, 2, none⟩ = some (.string (s')) := by rw [k_b.cell]; rfl
    have l_b := k_b.lt
    have x_r0 : w1.cell? ⟨w.heap.size + 1 + 1, 0, none⟩ = some (.int .i64 0) := by rw [k_r.cell]; rfl
    have x_r1 : w1.cell? ⟨w.heap.size + 1 + 1, 1, none⟩ = some (.int .i64 0) := by rw [k_r.cell]; rfl
    have x_r2 : w1.cell? ⟨w.heap.size + 1 + 1, 2, none⟩ = some (.string ⟨#[]⟩) := by rw [k_r.cell]; rfl
    have l_r := k_r.lt
    go_wp2_with fail
    have k_a := k_a.alloc (.cells #[.int .i64 p, .int .i64 q, .string ⟨#[]⟩] 27)
    have k_b := k_b.alloc (.cells #[.int .i64 p, .int .i64 q, .string ⟨#[]⟩] 27)
    have k_r := k_r.alloc (.cells #[.int .i64 p, .int .i64 q, .string ⟨#[]⟩] 27)
    have k_x := Blk.new w1 27 #[.int .i64 p, .int .i64 q, .string ⟨#[]⟩]
    have bb := bb.alloc bb.size (.cells #[.int .i64 p, .int .i64 q, .string ⟨#[]⟩] 27)
    clear x_a0 x_a1 x_a2 l_a x_b0 x_b1 x_b2 l_b x_r0 x_r1 x_r2 l_r
    generalize w1.alloc (.cells #[.int .i64 p, .int .i64 q, .string ⟨#[]⟩] 27) = V1 at *
    refine (H2.out _).mono ?_
    rintro e w2 ⟨rfl, b2⟩
    have k_a := k_a.below b2 k_a.lt
    have k_b := k_b.below b2 k_b.lt
    have k_r := k_r.below b2 k_r.lt
    have k_x := k_x.below b2 k_x.lt
    have bb := bb.trans (b2.mono bb.size)
    have x_a0 : w2.cell? ⟨w.heap.size, 0, none⟩ = some (.int .i64 k) := by rw [k_a.cell]; rfl
    have x_a1 : w2.cell? ⟨w.heap.size, 1, none⟩ = some (.int .i64 n) := by rw [k_a.cell]; rfl
    have x_a2 : w2.cell? ⟨w.heap.size, 2, none⟩ = some (.string s) := by rw [k_a.cell]; rfl
    have l_a := k_a.lt
    have x_b0 : w2.cell? ⟨w.heap.size + 1, 0, none⟩ = some (.int .i64 (k')) := by rw [k_b.cell]; rfl
    have x_b1 : w2.cell? ⟨w.heap.size + 1, 1, none⟩ = some (.int .i64 (n')) := by rw [k_b.cell]; rfl
    have x_b2 : w2.cell? ⟨w.heap.size + 1, 2, none⟩ = some (.string (s')) := by rw [k_b.cell]; rfl
    have l_b := k_b.lt
    have x_r0 : w2.cell? ⟨w.heap.size + 1 + 1, 0, none⟩ = some (.int .i64 0) := by rw [k_r.cell]; rfl
    have x_r1 : w2.cell? ⟨w.heap.size + 1 + 1, 1, none⟩ = some (.int .i64 0) := by rw [k_r.cell]; rfl
    have x_r2 : w2.cell? ⟨w.heap.size + 1 + 1, 2, none⟩ = some (.string ⟨#[]⟩) := by rw [k_r.cell]; rfl
    have l_r := k_r.lt
    have x_x0 : w2.cell? ⟨w1.heap.size, 0, none⟩ = some (.int .i64 p) := by rw [k_x.cell]; rfl
    have x_x1 : w2.cell? ⟨w1.heap.size, 1, none⟩ = some (.int .i64 q) := by rw [k_x.cell]; rfl
    have x_x2 : w2.cell? ⟨w1.heap.size, 2, none⟩ = some (.string ⟨#[]⟩) := by rw [k_x.cell]; rfl
    have l_x := k_x.lt
    go_wp2_with fail
    have k_a := k_a.alloc (.cells #[.int .i64 (p'), .int .i64 (q'), .string ⟨#[]⟩] 27)
    have k_b := k_b.alloc (.cells #[.int .i64 (p'), .int .i64 (q'), .string ⟨#[]⟩] 27)
    have k_r := k_r.alloc (.cells #[.int .i64 (p'), .int .i64 (q'), .string ⟨#[]⟩] 27)
    have k_x := k_x.alloc (.cells #[.int .i64 (p'), .int .i64 (q'), .string ⟨#[]⟩] 27)
    have k_y := Blk.new w2 27 #[.int .i64 (p'), .int .i64 (q'), .string ⟨#[]⟩]
    have bb := bb.alloc bb.size (.cells #[.int .i64 (p'), .int .i64 (q'), .string ⟨#[]⟩] 27)
    clear x_a0 x_a1 x_a2 l_a x_b0 x_b1 x_b2 l_b x_r0 x_r1 x_r2 l_r x_x0 x_x1 x_x2 l_x
    generalize w2.alloc (.cells #[.int .i64 (p'), .int .i64 (q'), .string ⟨#[]⟩] 27) = V2 at *
    refine (H3.out _).mono ?_
    rintro e w3 ⟨rfl, b3⟩
    have k_a := k_a.below b3 k_a.lt
    have k_b := k_b.below b3 k_b.lt
    have k_r := k_r.below b3 k_r.lt
    have k_x := k_x.below b3 k_x.lt
    have k_y := k_y.below b3 k_y.lt
    have bb := bb.trans (b3.mono bb.size)
    have x_a0 : w3.cell? ⟨w.heap.size, 0, none⟩ = some (.int .i64 k) := by rw [k_a.cell]; rfl
    have x_a1 : w3.cell? ⟨w.heap.size, 1, none⟩ = some (.int .i64 n) := by rw [k_a.cell]; rfl
    have x_a2 : w3.cell? ⟨w.heap.size, 2, none⟩ = some (.string s) := by rw [k_a.cell]; rfl
    have l_a := k_a.lt
    have x_b0 : w3.cell? ⟨w.heap.size + 1, 0, none⟩ = some (.int .i64 (k')) := by rw [k_b.cell]; rfl
    have x_b1 : w3.cell? ⟨w.heap.size + 1, 1, none⟩ = some (.int .i64 (n')) := by rw [k_b.cell]; rfl
    have x_b2 : w3.cell? ⟨w.heap.size + 1, 2, none⟩ = some (.string (s')) := by rw [k_b.cell]; rfl
    have l_b := k_b.lt
    have x_r0 : w3.cell? ⟨w.heap.size + 1 + 1, 0, none⟩ = some (.int .i64 0) := by rw [k_r.cell]; rfl
    have x_r1 : w3.cell? ⟨w.heap.size + 1 + 1, 1, none⟩ = some (.int .i64 0) := by rw [k_r.cell]; rfl
    have x_r2 : w3.cell? ⟨w.heap.size + 1 + 1, 2, none⟩ = some (.string ⟨#[]⟩) := by rw [k_r.cell]; rfl
    have l_r := k_r.lt
    have x_x0 : w3.cell? ⟨w1.heap.size, 0, none⟩ = some (.int .i64 p) := by rw [k_x.cell]; rfl
    have x_x1 : w3.cell? ⟨w1.heap.size, 1, none⟩ = some (.int .i64 q) := by rw [k_x.cell]; rfl
    have x_x2 : w3.cell? ⟨w1.heap.size, 2, none⟩ = some (.string ⟨#[]⟩) := by rw [k_x.cell]; rfl
    have l_x := k_x.lt
    have x_y0 : w3.cell? ⟨w2.heap.size, 0, none⟩ = some (.int .i64 (p')) := by rw [k_y.cell]; rfl
    have x_y1 : w3.cell? ⟨w2.heap.size, 1, none⟩ = some (.int .i64 (q')) := by rw [k_y.cell]; rfl
    have x_y2 : w3.cell? ⟨w2.heap.size, 2, none⟩ = some (.string ⟨#[]⟩) := by rw [k_y.cell]; rfl
    have l_y := k_y.lt
    go_wp2_with fail
    refine (H4.out _).mono ?_
    rintro e w4 ⟨rfl, b4⟩
    clear x_a0 x_a1 x_a2 l_a x_b0 x_b1 x_b2 l_b x_r0 x_r1 x_r2 l_r x_x0 x_x1 x_x2 l_x x_y0 x_y1 x_y2 l_y
    have k_a := k_a.below b4 k_a.lt
    have k_b := k_b.below b4 k_b.lt
    have k_r := k_r.below b4 k_r.lt
    have k_x := k_x.below b4 k_x.lt
    have k_y := k_y.below b4 k_y.lt
    have bb := bb.trans (b4.mono bb.size)
    have x_a0 : w4.cell? ⟨w.heap.size, 0, none⟩ = some (.int .i64 k) := by rw [k_a.cell]; rfl
    have x_a1 : w4.cell? ⟨w.heap.size, 1, none⟩ = some (.int .i64 n) := by rw [k_a.cell]; rfl
    have x_a2 : w4.cell? ⟨w.heap.size, 2, none⟩ = some (.string s) := by rw [k_a.cell]; rfl
    have l_a := k_a.lt
    have x_b0 : w4.cell? ⟨w.heap.size + 1, 0, none⟩ = some (.int .i64 (k')) := by rw [k_b.cell]; rfl
    have x_b1 : w4.cell? ⟨w.heap.size + 1, 1, none⟩ = some (.int .i64 (n')) := by rw [k_b.cell]; rfl
    have x_b2 : w4.cell? ⟨w.heap.size + 1, 2, none⟩ = some (.string (s')) := by rw [k_b.cell]; rfl
    have l_b := k_b.lt
    have x_r0 : w4.cell? ⟨w.heap.size + 1 + 1, 0, none⟩ = some (.int .i64 0) := by rw [k_r.cell]; rfl
    have x_r1 : w4.cell? ⟨w.heap.size + 1 + 1, 1, none⟩ = some (.int .i64 0) := by rw [k_r.cell]; rfl
    have x_r2 : w4.cell? ⟨w.heap.size + 1 + 1, 2, none⟩ = some (.string ⟨#[]⟩) := by rw [k_r.cell]; rfl
    have l_r := k_r.lt
    have x_x0 : w4.cell? ⟨w1.heap.size, 0, none⟩ = some (.int .i64 p) := by rw [k_x.cell]; rfl
    have x_x1 : w4.cell? ⟨w1.heap.size, 1, none⟩ = some (.int .i64 q) := by rw [k_x.cell]; rfl
    have x_x2 : w4.cell? ⟨w1.heap.size, 2, none⟩ = some (.string ⟨#[]⟩) := by rw [k_x.cell]; rfl
    have l_x := k_x.lt
    have x_y0 : w4.cell? ⟨w2.heap.size, 0, none⟩ = some (.int .i64 (p')) := by rw [k_y.cell]; rfl
    have x_y1 : w4.cell? ⟨w2.heap.size, 1, none⟩ = some (.int .i64 (q')) := by rw [k_y.cell]; rfl
    have x_y2 : w4.cell? ⟨w2.heap.size, 2, none⟩ = some (.string ⟨#[]⟩) := by rw [k_y.cell]; rfl
    have l_y := k_y.lt
    go_wp2_with fail
    refine (HT.out _ _).mono ?_
    rintro e w5 ⟨rfl, b5⟩
    clear x_a0 x_a1 x_a2 l_a x_b0 x_b1 x_b2 l_b x_r0 x_r1 x_r2 l_r x_x0 x_x1 x_x2 l_x x_y0 x_y1 x_y2 l_y
    have k_a := k_a.below b5 k_a.lt
    have k_b := k_b.below b5 k_b.lt
    have k_r := k_r.below b5 k_r.lt
    have k_x := k_x.below b5 k_x.lt
    have k_y := k_y.below b5 k_y.lt
    have bb := bb.trans (b5.mono bb.size)
    have x_a0 : w5.cell? ⟨w.heap.size, 0, none⟩ = some (.int .i64 k) := by rw [k_a.cell]; rfl
    have x_a1 : w5.cell? ⟨w.heap.size, 1, none⟩ = some (.int .i64 n) := by rw [k_a.cell]; rfl
    have x_a2 : w5.cell? ⟨w.heap.size, 2, none⟩ = some (.string s) := by rw [k_a.cell]; rfl
    have l_a := k_a.lt
    have x_b0 : w5.cell? ⟨w.heap.size + 1, 0, none⟩ = some (.int .i64 (k')) := by rw [k_b.cell]; rfl
    have x_b1 : w5.cell? ⟨w.heap.size + 1, 1, none⟩ = some (.int .i64 (n')) := by rw [k_b.cell]; rfl
    have x_b2 : w5.cell? ⟨w.heap.size + 1, 2, none⟩ = some (.string (s')) := by rw [k_b.cell]; rfl
    have l_b := k_b.lt
    have x_r0 : w5.cell? ⟨w.heap.size + 1 + 1, 0, none⟩ = some (.int .i64 0) := by rw [k_r.cell]; rfl
    have x_r1 : w5.cell? ⟨w.heap.size + 1 + 1, 1, none⟩ = some (.int .i64 0) := by rw [k_r.cell]; rfl
    have x_r2 : w5.cell? ⟨w.heap.size + 1 + 1, 2, none⟩ = some (.string ⟨#[]⟩) := by rw [k_r.cell]; rfl
    have l_r := k_r.lt
    have x_x0 : w5.cell? ⟨w1.heap.size, 0, none⟩ = some (.int .i64 p) := by rw [k_x.cell]; rfl
    have x_x1 : w5.cell? ⟨w1.heap.size, 1, none⟩ = some (.int .i64 q) := by rw [k_x.cell]; rfl
    have x_x2 : w5.cell? ⟨w1.heap.size, 2, none⟩ = some (.string ⟨#[]⟩) := by rw [k_x.cell]; rfl
    have l_x := k_x.lt
    have x_y0 : w5.cell? ⟨w2.heap.size, 0, none⟩ = some (.int .i64 (p')) := by rw [k_y.cell]; rfl
    have x_y1 : w5.cell? ⟨w2.heap.size, 1, none⟩ = some (.int .i64 (q')) := by rw [k_y.cell]; rfl
    have x_y2 : w5.cell? ⟨w2.heap.size, 2, none⟩ = some (.string ⟨#[]⟩) := by rw [k_y.cell]; rfl
    have l_y := k_y.lt
    have z_r0 := k_r.frozen 0
    have z_r1 := k_r.frozen 1
    have z_r2 := k_r.frozen 2
    go_wp2
    exact bodyPost_ret (v := .tuple #[VS 2 _ ⟨#[]⟩, .int .i64 0]) (by simp [results, Tryd.results36, go_sem, x_r0, x_r1, x_r2, l_r]) rfl ⟨rfl, (((bb).setCell (p := ⟨w.heap.size + 1 + 1, 0, none⟩) (by first | exact Nat.le_refl _ | (simp; done) | (simp; omega) | omega) _).setCell (p := ⟨w.heap.size + 1 + 1, 1, none⟩) (by first | exact Nat.le_refl _ | (simp; done) | (simp; omega) | omega) _).setCell (p := ⟨w.heap.size + 1 + 1, 2, none⟩) (by first | exact Nat.le_refl _ | (simp; done) | (simp; omega) | omega) _⟩
set_option maxHeartbeats 4000000 in
set_option maxRecDepth 100000 in
theorem cmp_ge_y_e1 (w : World) (p q e1 : Int) (he : ¬ e1 = 0) (hk : (k == 7) = true) (hk' : (k' == 7) = false) (C1 : ∀ W, Calls Tryd.prog 29 #[VS k n s] W (Ret (.tuple #[VN p q, .int .i64 e1]) W)) : Calls Tryd.prog 36 #[.string ⟨#[62, 61]⟩, VS k n s, VS k' n' s'] w (Ret (.tuple #[VS 0 0 ⟨#[]⟩, .int .i64 e1]) w) := by
  have H1 := Lib.hid C1
  clear C1
  have t1 : (e1 != 0) = true := by simpa using he
  have t2 : ¬ e1 = 0 := he
  go_enter Tryd.func36, Tryd.ntmps36
  go_wp2_with fail
  have k_a := ((Blk.new w 27 #[.int .i64 k, .int .i64 n, .string s]).alloc (.cells #[.int .i64 (k'), .int .i64 (n'), .string (s')] 27)).alloc (.cells #[.int .i64 0, .int .i64 0, .string ⟨#[]⟩] 27)
  have k_b := (Blk.new (w.alloc (.cells #[.int .i64 k, .int .i64 n, .string s] 27)) 27 #[.int .i64 (k'), .int .i64 (n'), .string (s')]).alloc (.cells #[.int .i64 0, .int .i64 0, .string ⟨#[]⟩] 27)
  rw [World.size_alloc] at k_b
  have k_r := Blk.new ((w.alloc (.cells #[.int .i64 k, .int .i64 n, .string s] 27)).alloc (.cells #[.int .i64 (k'), .int .i64 (n'), .string (s')] 27)) 27 #[.int .i64 0, .int .i64 0, .string ⟨#[]⟩]
  rw [World.size_alloc, World.size_alloc] at k_r
  have bb : Below w.heap.size w _ := ((((Below.refl _ _).alloc (Nat.le_refl _) (.cells #[.int .i64 k, .int .i64 n, .string s] 27)).alloc (by simp) (.cells #[.int .i64 (k'), .int .i64 (n'), .string (s')] 27)).alloc (by simp; omega) (.cells #[.int .i64 0, .int .i64 0, .string ⟨#[]⟩] 27))
  generalize (((w.alloc (.cells #[.int .i64 k, .int .i64 n, .string s] 27)).alloc (.cells #[.int .i64 (k'), .int .i64 (n'), .string (s')] 27)).alloc (.cells #[.int .i64 0, .int .i64 0, .string ⟨#[]⟩] 27)) = W0 at *
  refine (H1.out _).mono ?_
  rintro e w1 ⟨rfl, b1⟩
  have k_a := k_a.below b1 k_a.lt
  have k_b := k_b.below b1 k_b.lt
  have k_r := k_r.below b1 k_r.lt
  have bb := bb.trans (b1.mono bb.size)
  have x_a0 : w1.cell? ⟨w.heap.size, 0, none⟩ = some (.int .i64 k) := by rw [k_a.cell]; rfl
  have x_a1 : w1.cell? ⟨w.heap.size, 1, none⟩ = some (.int .i64 n) := by rw [k_a.cell]; rfl
  have x_a2 : w1.cell? ⟨w.heap.size, 2, none⟩ = some (.string s) := by rw [k_a.cell]; rfl
  have l_a := k_a.lt
  have x_b0 : w1.cell? ⟨w.heap.size + 1, 0, none⟩ = some (.int .i64 (k')) := by rw [k_b.cell]; rfl
  have x_b1 : w1.cell? ⟨w.heap.size + 1, 1, none⟩ = some (.int .i64 (n')) := by rw [k_b.cell]; rfl
  have x_b2 : w1.cell? ⟨w.heap.size + 1, 2, none⟩ = some (.string (s')) := by rw [k_b.cell]; rfl
  have l_b := k_b.lt
  have x_r0 : w1.cell? ⟨w.heap.size + 1 + 1, 0, none⟩ = some (.int .i64 0) := by rw [k_r.cell]; rfl
  have x_r1 : w1.cell? ⟨w.heap.size + 1 + 1, 1, none⟩ = some (.int .i64 0) := by rw [k_r.cell]; rfl
  have x_r2 : w1.cell? ⟨w.heap.size + 1 + 1, 2, none⟩ = some (.string ⟨#[]⟩) := by rw [k_r.cell]; rfl
  have l_r := k_r.lt
  have z_r0 := k_r.frozen 0
  have z_r1 := k_r.frozen 1
  have z_r2 := k_r.frozen 2
  go_wp2
  exact bodyPost_ret (v := .tuple #[VS 0 0 ⟨#[]⟩, .int .i64 e1]) (by simp [results, Tryd.results36, go_sem, x_r0, x_r1, x_r2, l_r]) rfl ⟨rfl, ((((bb).setCell (p := ⟨w.heap.size + 1 + 1, 0, none⟩) (by first | exact Nat.le_refl _ | (simp; done) | (simp; omega) | omega) _).setCell (p := ⟨w.heap.size + 1 + 1, 1, none⟩) (by first | exact Nat.le_refl _ | (simp; done) | (simp; omega) | omega) _).setCell (p := ⟨w.heap.size + 1 + 1, 2, none⟩) (by first | exact Nat.le_refl _ | (simp; done) | (simp; omega) | omega) _).alloc (by first | exact bb.size | (simp; exact bb.size) | (have := bb.size; simp; omega)) _⟩
set_option maxHeartbeats 4000000 in
set_option maxRecDepth 100000 in
theorem cmp_ge_y_e2 (w : World) (p q p' q' e1 : Int) (he : ¬ e1 = 0) (hk : (k == 7) = true) (hk' : (k' == 7) = false) (C1 : ∀ W, Calls Tryd.prog 29 #[VS k n s] W (Ret (.tuple #[VN p q, .int .i64 0]) W)) (C2 : ∀ W, Calls Tryd.prog 29 #[VS k' n' s'] W (Ret (.tuple #[VN p' q', .int .i64 e1]) W)) : Calls Tryd.prog 36 #[.string ⟨#[62, 61]⟩, VS k n s, VS k' n' s'] w (Ret (.tuple #[VS 0 0 ⟨#[]⟩, .int .i64 e1]) w) := by
  have H1 := Lib.hid C1
  have H2 := Lib.hid C2
  clear C1 C2
  have t1 : (e1 != 0) = true := by simpa using he
  have t2 : ¬ e1 = 0 := he
  go_enter Tryd.func36, Tryd.ntmps36
  go_wp2_with fail
  have k_a := ((Blk.new w 27 #[.int .i64 k, .int .i64 n, .string s]).alloc (.cells #[.int .i64 (k'), .int .i64 (n'), .string (s')] 27)).alloc (.cells #[.int .i64 0, .int .i64 0, .string ⟨#[]⟩] 27)
  have k_b := (Blk.new (w.alloc (.cells #[.int .i64 k, .int .i64 n, .string s] 27)) 27 #[.int .i64 (k'), .int .i64 (n'), .string (s')]).alloc (.cells #[.int .i64 0, .int .i64 0, .string ⟨#[]⟩] 27)
  rw [World.size_alloc] at k_b
  have k_r := Blk.new ((w.alloc (.cells #[.int .i64 k, .int .i64 n, .string s] 27)).alloc (.cells #[.int .i64 (k'), .int .i64 (n'), .string (s')] 27)) 27 #[.int .i64 0, .int .i64 0, .string ⟨#[]⟩]
  rw [World.size_alloc, World.size_alloc] at k_r
  have bb : Below w.heap.size w _ := ((((Below.refl _ _).alloc (Nat.le_refl _) (.cells #[.int .i64 k, .int .i64 n, .string s] 27)).alloc (by simp) (.cells #[.int .i64 (k'), .int .i64 (n'), .string (s')] 27)).alloc (by simp; omega) (.cells #[.int .i64 0, .int .i64 0, .string ⟨#[]⟩] 27))
  generalize (((w.alloc (.cells #[.int .i64 k, .int .i64 n, .string s] 27)).alloc (.cells #[.int .i64 (k'), .int .i64 (n'), .string (s')] 27)).alloc (.cells #[.int .i64 0, .int .i64 0, .string ⟨#[]⟩] 27)) = W0 at *
  refine (H1.out _).mono ?_
  rintro e w1 ⟨rfl, b1⟩
  have k_a := k_a.below b1 k_a.lt
  have k_b := k_b.below b1 k_b.lt
  have k_r := k_r.below b1 k_r.lt
  have bb := bb.trans (b1.mono bb.size)
  have x_a0 : w1.cell? ⟨w.heap.size, 0, none⟩ = some (.int .i64 k) := by rw [k_a.cell]; rfl
  have x_a1 : w1.cell? ⟨w.heap.size, 1, none⟩ = some (.int .i64 n) := by rw [k_a.cell]; rfl
  have x_a2 : w1.cell? ⟨w.heap.size, 2, none⟩ = some (.string s) := by rw [k_a.cell]; rfl
  have l_a := k_a.lt
  have x_b0 : w1.cell? ⟨w.heap.size + 1, 0, none⟩ = some (.int .i64 (k')) := by rw [k_b.cell]; rfl
  have x_b1 : w1.cell? ⟨w.heap.size + 1, 1, none⟩ = some (.int .i64 (n')) := by rw [k_b.cell]; rfl
  have x_b2 : w1.cell? ⟨w.heap.size + 1, 2, none⟩ = some (.string (s')) := by rw [k_b.cell]; rfl
  have l_b := k_b.lt
  have x_r0 : w1.cell? ⟨w.heap.size + 1 + 1, 0, none⟩ = some (.int .i64 0) := by rw [k_r.cell]; rfl
  have x_r1 : w1.cell? ⟨w.heap.size + 1 + 1, 1, none⟩ = some (.int .i64 0) := by rw [k_r.cell]; rfl
  have x_r2 : w1.cell? ⟨w.heap.size + 1 + 1, 2, none⟩ = some (.string ⟨#[]⟩) := by rw [k_r.cell]; rfl
  have l_r := k_r.lt
  go_wp2_with fail
  have k_a := k_a.alloc (.cells #[.int .i64 p, .int .i64 q, .string ⟨#[]⟩] 27)
  have k_b := k_b.alloc (.cells #[.int .i64 p, .int .i64 q, .string ⟨#[]⟩] 27)
  have k_r := k_r.alloc (.cells #[.int .i64 p, .int .i64 q, .string ⟨#[]⟩] 27)
  have k_x := Blk.new w1 27 #[.int .i64 p, .int .i64 q, .string ⟨#[]⟩]
  have bb := bb.alloc bb.size (.cells #[.int .i64 p, .int .i64 q, .string ⟨#[]⟩] 27)
  clear x_a0 x_a1 x_a2 l_a x_b0 x_b1 x_b2 l_b x_r0 x_r1 x_r2 l_r
  generalize w1.alloc (.cells #[.int .i64 p, .int .i64 q, .string ⟨#[]⟩] 27) = V1 at *
  refine (H2.out _).mono ?_
  rintro e w2 ⟨rfl, b2⟩
  have k_a := k_a.below b2 k_a.lt
  have k_b := k_b.below b2 k_b.lt
  have k_r := k_r.below b2 k_r.lt
  have k_x := k_x.below b2 k_x.lt
  have bb := bb.trans (b2.mono bb.size)
  have x_a0 : w2.cell? ⟨w.heap.size, 0, none⟩ = some (.int .i64 k) := by rw [k_a.cell]; rfl
  have x_a1 : w2.cell? ⟨w.heap.size, 1, none⟩ = some (.int .i64 n) := by rw [k_a.cell]; rfl
  have x_a2 : w2.cell? ⟨w.heap.size, 2, none⟩ = some (.string s) := by rw [k_a.cell]; rfl
  have l_a := k_a.lt
  have x_b0 : w2.cell? ⟨w.heap.size + 1, 0, none⟩ = some (.int .i64 (k')) := by rw [k_b.cell]; rfl
  have x_b1 : w2.cell? ⟨w.heap.size + 1, 1, none⟩ = some (.int .i64 (n')) := by rw [k_b.cell]; rfl
  have x_b2 : w2.cell? ⟨w.heap.size + 1, 2, none⟩ = some (.string (s')) := by rw [k_b.cell]; rfl
  have l_b := k_b.lt
  have x_r0 : w2.cell? ⟨w.heap.size + 1 + 1, 0, none⟩ = some (.int .i64 0) := by rw [k_r.cell]; rfl
  have x_r1 : w2.cell? ⟨w.heap.size + 1 + 1, 1, none⟩ = some (.int .i64 0) := by rw [k_r.cell]; rfl
  have x_r2 : w2.cell? ⟨w.heap.size + 1 + 1, 2, none⟩ = some (.string ⟨#[]⟩) := by rw [k_r.cell]; rfl
  have l_r := k_r.lt
  have x_x0 : w2.cell? ⟨w1.heap.size, 0, none⟩ = some (.int .i64 p) := by rw [k_x.cell]; rfl
  have x_x1 : w2.cell? ⟨w1.heap.size, 1, none⟩ = some (.int .i64 q) := by rw [k_x.cell]; rfl
  have x_x2 : w2.cell? ⟨w1.heap.size, 2, none⟩ = some (.string ⟨#[]⟩) := by rw [k_x.cell]; rfl
  have l_x := k_x.lt
  have z_r0 := k_r.frozen 0
  have z_r1 := k_r.frozen 1
  have z_r2 := k_r.frozen 2
  go_wp2
  exact bodyPost_ret (v := .tuple #[VS 0 0 ⟨#[]⟩, .int .i64 e1]) (by simp [results, Tryd.results36, go_sem, x_r0, x_r1, x_r2, l_r]) rfl ⟨rfl, ((((bb).setCell (p := ⟨w.heap.size + 1 + 1, 0, none⟩) (by first | exact Nat.le_refl _ | (simp; done) | (simp; omega) | omega) _).setCell (p := ⟨w.heap.size + 1 + 1, 1, none⟩) (by first | exact Nat.le_refl _ | (simp; done) | (simp; omega) | omega) _).setCell (p := ⟨w.heap.size + 1 + 1, 2, none⟩) (by first | exact Nat.le_refl _ | (simp; done) | (simp; omega) | omega) _).alloc (by first | exact bb.size | (simp; exact bb.size) | (have := bb.size; simp; omega)) _⟩
set_option maxHeartbeats 4000000 in
set_option maxRecDepth 100000 in
theorem cmp_ge_y (w : World) (p q p' q' : Int) (l m ok ok2 : Bool) (hk : (k == 7) = true) (hk' : (k' == 7) = false) (C1 : ∀ W, Calls Tryd.prog 29 #[VS k n s] W (Ret (.tuple #[VN p q, .int .i64 0]) W)) (C2 : ∀ W, Calls Tryd.prog 29 #[VS k' n' s'] W (Ret (.tuple #[VN p' q', .int .i64 0]) W)) (C3 : ∀ W, Calls Tryd.prog 53 #[VN p q, VN p' q'] W (Ret (.tuple #[.bool l, .bool ok]) W)) (C4 : ∀ W, Calls Tryd.prog 53 #[VN p' q', VN p q] W (Ret (.tuple #[.bool m, .bool ok2]) W)) : Calls Tryd.prog 36 #[.string ⟨#[62, 61]⟩, VS k n s, VS k' n' s'] w (Ret (.tuple #[VS 2 (tN (ok && !l)) ⟨#[]⟩, .int .i64 0]) w) := by
  have H1 := Lib.hid C1
  have H2 := Lib.hid C2
  have H3 := Lib.hid C3
  have H4 := Lib.hid C4
  clear C1 C2 C3 C4
  cases ok <;> cases l
  all_goals
    have HT := Lib.hid (fun b W => truth_any b W)
    go_enter Tryd.func36, Tryd.ntmps36
    go_wp2_with fail
    have k_a := ((Blk.new w 27 #[.int .i64 k, .int .i64 n, .string s]).alloc (.cells #[.int .i64 (k'), .int .i64 (n'), .string (s')] 27)).alloc (.cells #[.int .i64 0, .int .i64 0, .string ⟨#[]⟩] 27)
    have k_b := (Blk.new (w.alloc (.cells #[.int .i64 k, .int .i64 n, .string s] 27)) 27 #[.int .i64 (k'), .int .i64 (n'), .string (s')]).alloc (.cells #[.int .i64 0, .int .i64 0, .string ⟨#[]⟩] 27)
    rw [World.size_alloc] at k_b
    have k_r := Blk.new ((w.alloc (.cells #[.int .i64 k, .int .i64 n, .string s] 27)).alloc (.cells #[.int .i64 (k'), .int .i64 (n'), .string (s')] 27)) 27 #[.int .i64 0, .int .i64 0, .string ⟨#[]⟩]
    rw [World.size_alloc, World.size_alloc] at k_r
    have bb : Below w.heap.size w _ := ((((Below.refl _ _).alloc (Nat.le_refl _) (.cells #[.int .i64 k, .int .i64 n, .string s] 27)).alloc (by simp) (.cells #[.int .i64 (k'), .int .i64 (n'), .string (s')] 27)).alloc (by simp; omega) (.cells #[.int .i64 0, .int .i64 0, .string ⟨#[]⟩] 27))
    generalize (((w.alloc (.cells #[.int .i64 k, .int .i64 n, .string s] 27)).alloc (.cells #[.int .i64 (k'), .int .i64 (n'), .string (s')] 27)).alloc (.cells #[.int .i64 0, .int .i64 0, .string ⟨#[]⟩] 27)) = W0 at *
    refine (H1.out _).mono ?_
    rintro e w1 ⟨rfl, b1⟩
    have k_a := k_a.below b1 k_a.lt
    have k_b := k_b.below b1 k_b.lt
    have k_r := k_r.below b1 k_r.lt
    have bb := bb.trans (b1.mono bb.size)
    have x_a0 : w1.cell? ⟨w.heap.size, 0, none⟩ = some (.int .i64 k) := by rw [k_a.cell]; rfl
    have x_a1 : w1.cell? ⟨w.heap.size, 1, none⟩ = some (.int .i64 n) := by rw [k_a.cell]; rfl
    have x_a2 : w1.cell? ⟨w.heap.size, 2, none⟩ = some (.string s) := by rw [k_a.cell]; rfl
    have l_a := k_a.lt
    have x_b0 : w1.cell? ⟨w.heap.size + 1, 0, none⟩ = some (.int .i64 (k')) := by rw [k_b.cell]; rfl
    have x_b1 : w1.cell? ⟨w.heap.size + 1, 1, none⟩ = some (.int .i64 (n')) := by rw [k_b.cell]; rfl
    have x_b2 : w1.cell? ⟨w.heap.size + 1, 2, none⟩ = some (.string (s')) := by rw [k_b.cell]; rfl
    have l_b := k_b.lt
    have x_r0 : w1.cell? ⟨w.heap.size + 1 + 1, 0, none⟩ = some (.int .i64 0) := by rw [k_r.cell]; rfl
    have x_r1 : w1.cell? ⟨w.heap.size + 1 + 1, 1, none⟩ = some (.int .i64 0) := by rw [k_r.cell]; rfl
    have x_r2 : w1.cell? ⟨w.heap.size + 1 + 1, 2, none⟩ = some (.string ⟨#[]⟩) := by rw [k_r.cell]; rfl
    have l_r := k_r.lt
    go_wp2_with fail
    have k_a := k_a.alloc (.cells #[.int .i64 p, .int .i64 q, .string ⟨#[]⟩] 27)
    have k_b := k_b.alloc (.cells #[.int .i64 p, .int .i64 q, .string ⟨#[]⟩] 27)
    have k_r := k_r.alloc (.cells #[.int .i64 p, .int .i64 q, .string ⟨#[]⟩] 27)
    have k_x := Blk.new w1 27 #[.int .i64 p, .int .i64 q, .string ⟨#[]⟩]
    have bb := bb.alloc bb.size (.cells #[.int .i64 p, .int .i64 q, .string ⟨#[]⟩] 27)
    clear x_a0 x_a1 x_a2 l_a x_b0 x_b1 x_b2 l_b x_r0 x_r1 x_r2 l_r
    generalize w1.alloc (.cells #[.int .i64 p, .int .i64 q, .string ⟨#[]⟩] 27) = V1 at *
    refine (H2.out _).mono ?_
    rintro e w2 ⟨rfl, b2⟩
    have k_a := k_a.below b2 k_a.lt
    have k_b := k_b.below b2 k_b.lt
    have k_r := k_r.below b2 k_r.lt
    have k_x := k_x.below b2 k_x.lt
    have bb := bb.trans (b2.mono bb.size)
    have x_a0 : w2.cell? ⟨w.heap.size, 0, none⟩ = some (.int .i64 k) := by rw [k_a.cell]; rfl
    have x_a1 : w2.cell? ⟨w.heap.size, 1, none⟩ = some (.int .i64 n) := by rw [k_a.cell]; rfl
    have x_a2 : w2.cell? ⟨w.heap.size, 2, none⟩ = some (.string s) := by rw [k_a.cell]; rfl
    have l_a := k_a.lt
    have x_b0 : w2.cell? ⟨w.heap.size + 1, 0, none⟩ = some (.int .i64 (k')) := by rw [k_b.cell]; rfl
    have x_b1 : w2.cell? ⟨w.heap.size + 1, 1, none⟩ = some (.int .i64 (n')) := by rw [k_b.cell]; rfl
    have x_b2 : w2.cell? ⟨w.heap.size + 1, 2, none⟩ = some (.string (s')) := by rw [k_b.cell]; rfl
    have l_b := k_b.lt
    have x_r0 : w2.cell? ⟨w.heap.size + 1 + 1, 0, none⟩ = some (.int .i64 0) := by rw [k_r.cell]; rfl
    have x_r1 : w2.cell? ⟨w.heap.size + 1 + 1, 1, none⟩ = some (.int .i64 0) := by rw [k_r.cell]; rfl
    have x_r2 : w2.cell? ⟨w.heap.size + 1 + 1, 2, none⟩ = some (.string ⟨#[]⟩) := by rw [k_r.cell]; rfl
    have l_r := k_r.lt
    have x_x0 : w2.cell? ⟨w1.heap.size, 0, none⟩ = some (.int .i64 p) := by rw [k_x.cell]; rfl
    have x_x1 : w2.cell? ⟨w1.heap.size, 1, none⟩ = some (.int .i64 q) := by rw [k_x.cell]; rfl
    have x_x2 : w2.cell? ⟨w1.heap.size, 2, none⟩ = some (.string ⟨#[]⟩) := by rw [k_x.cell]; rfl
    have l_x := k_x.lt
    go_wp2_with fail
    have k_a := k_a.alloc (.cells #[.int .i64 (p'), .int .i64 (q'), .string ⟨#[]⟩] 27)
    have k_b := k_b.alloc (.cells #[.int .i64 (p'), .int .i64 (q'), .string ⟨#[]⟩] 27)
    have k_r := k_r.alloc (.cells #[.int .i64 (p'), .int .i64 (q'), .string ⟨#[]⟩] 27)
    have k_x := k_x.alloc (.cells #[.int .i64 (p'), .int .i64 (q'), .string ⟨#[]⟩] 27)
    have k_y := Blk.new w2 27 #[.int .i64 (p'), .int .i64 (q'), .string ⟨#[]⟩]
    have bb := bb.alloc bb.size (.cells #[.int .i64 (p'), .int .i64 (q'), .string ⟨#[]⟩] 27)
    clear x_a0 x_a1 x_a2 l_a x_b0 x_b1 x_b2 l_b x_r0 x_r1 x_r2 l_r x_x0 x_x1 x_x2 l_x
    generalize w2.alloc (.cells #[.int .i64 (p'), .int .i64 (q'), .string ⟨#[]⟩] 27) = V2 at *
    refine (H3.out _).mono ?_
    rintro e w3 ⟨rfl, b3⟩
    have k_a := k_a.below b3 k_a.lt
    have k_b := k_b.below b3 k_b.lt
    have k_r := k_r.below b3 k_r.lt
    have k_x := k_x.below b3 k_x.lt
    have k_y := k_y.below b3 k_y.lt
    have bb := bb.trans (b3.mono bb.size)
    have x_a0 : w3.cell? ⟨w.heap.size, 0, none⟩ = some (.int .i64 k) := by rw [k_a.cell]; rfl
    have x_a1 : w3.cell? ⟨w.heap.size, 1, none⟩ = some (.int .i64 n) := by rw [k_a.cell]; rfl
    have x_a2 : w3.cell? ⟨w.heap.size, 2, none⟩ = some (.string s) := by rw [k_a.cell]; rfl
    have l_a := k_a.lt
    have x_b0 : w3.cell? ⟨w.heap.size + 1, 0, none⟩ = some (.int .i64 (k')) := by rw [k_b.cell]; rfl
    have x_b1 : w3.cell? ⟨w.heap.size + 1, 1, none⟩ = some (.int .i64 (n')) := by rw [k_b.cell]; rfl
    have x_b2 : w3.cell? ⟨w.heap.size + 1, 2, none⟩ = some (.string (s')) := by rw [k_b.cell]; rfl
    have l_b := k_b.lt
    have x_r0 : w3.cell? ⟨w.heap.size + 1 + 1, 0, none⟩ = some (.int .i64 0) := by rw [k_r.cell]; rfl
    have x_r1 : w3.cell? ⟨w.heap.size + 1 + 1, 1, none⟩ = some (.int .i64 0) := by rw [k_r.cell]; rfl
    have x_r2 : w3.cell? ⟨w.heap.size + 1 + 1, 2, none⟩ = some (.string ⟨#[]⟩) := by rw [k_r.cell]; rfl
    have l_r := k_r.lt
    have x_x0 : w3.cell? ⟨w1.heap.size, 0, none⟩ = some (.int .i64 p) := by rw [k_x.cell]; rfl
    have x_x1 : w3.cell? ⟨w1.heap.size, 1, none⟩ = some (.int .i64 q) := by rw [k_x.cell]; rfl
    have x_x2 : w3.cell? ⟨w1.heap.size, 2, none⟩ = some (.string ⟨#[]⟩) := by rw [k_x.cell]; rfl
    have l_x := k_x.lt
    have x_y0 : w3.cell? ⟨w2.heap.size, 0, none⟩ = some (.int .i64 (p')) := by rw [k_y.cell]; rfl
    have x_y1 : w3.cell? ⟨w2.heap.size, 1, none⟩ = some (.int .i64 (q')) := by rw [k_y.cell]; rfl
    have x_y2 : w3.cell? ⟨w2.heap.size, 2, none⟩ = some (.string ⟨#[]⟩) := by rw [k_y.cell]; rfl
    have l_y := k_y.lt
    go_wp2_with fail
    refine (H4.out _).mono ?_
    rintro e w4 ⟨rfl, b4⟩
    clear x_a0 x_a1 x_a2 l_a x_b0 x_b1 x_b2 l_b x_r0 x_r1 x_r2 l_r x_x0 x_x1 x_x2 l_x x_y0 x_y1 x_y2 l_y
    have k_a := k_a.below b4 k_a.lt
    have k_b := k_b.below b4 k_b.lt
    have k_r := k_r.below b4 k_r.lt
    have k_x := k_x.below b4 k_x.lt
    have k_y := k_y.below b4 k_y.lt
    have bb := bb.trans (b4.mono bb.size)
    have x_a0 : w4.cell? ⟨w.heap.size, 0, none⟩ = some (.int .i64 k) := by rw [k_a.cell]; rfl
    have x_a1 : w4.cell? ⟨w.heap.size, 1, none⟩ = some (.int .i64 n) := by rw [k_a.cell]; rfl
    have x_a2 : w4.cell? ⟨w.heap.size, 2, none⟩ = some (.string s) := by rw [k_a.cell]; rfl
    have l_a := k_a.lt
    have x_b0 : w4.cell? ⟨w.heap.size + 1, 0, none⟩ = some (.int .i64 (k')) := by rw [k_b.cell]; rfl
    have x_b1 : w4.cell? ⟨w.heap.size + 1, 1, none⟩ = some (.int .i64 (n')) := by rw [k_b.cell]; rfl
    have x_b2 : w4.cell? ⟨w.heap.size + 1, 2, none⟩ = some (.string (s')) := by rw [k_b.cell]; rfl
    have l_b := k_b.lt
    have x_r0 : w4.cell? ⟨w.heap.size + 1 + 1, 0, none⟩ = some (.int .i64 0) := by rw [k_r.cell]; rfl
    have x_r1 : w4.cell? ⟨w.heap.size + 1 + 1, 1, none⟩ = some (.int .i64 0) := by rw [k_r.cell]; rfl
    have x_r2 : w4.cell? ⟨w.heap.size + 1 + 1, 2, none⟩ = some (.string ⟨#[]⟩) := by rw [k_r.cell]; rfl
    have l_r := k_r.lt
    have x_x0 : w4.cell? ⟨w1.heap.size, 0, none⟩ = some (.int .i64 p) := by rw [k_x.cell]; rfl
    have x_x1 : w4.cell? ⟨w1.heap.size, 1, none⟩ = some (.int .i64 q) := by rw [k_x.cell]; rfl
    have x_x2 : w4.cell? ⟨w1.heap.size, 2, none⟩ = some (.string ⟨#[]⟩) := by rw [k_x.cell]; rfl
    have l_x := k_x.lt
    have x_y0 : w4.cell? ⟨w2.heap.size, 0, none⟩ = some (.int .i64 (p')) := by rw [k_y.cell]; rfl
    have x_y1 : w4.cell? ⟨w2.heap.size, 1, none⟩ = some (.int .i64 (q')) := by rw [k_y.cell]; rfl
    have x_y2 : w4.cell? ⟨w2.heap.size, 2, none⟩ = some (.string ⟨#[]⟩) := by rw [k_y.cell]; rfl
    have l_y := k_y.lt
    go_wp2_with fail
    refine (HT.out _ _).mono ?_
    rintro e w5 ⟨rfl, b5⟩
    clear x_a0 x_a1 x_a2 l_a x_b0 x_b1 x_b2 l_b x_r0 x_r1 x_r2 l_r x_x0 x_x1 x_x2 l_x x_y0 x_y1 x_y2 l_y
    have k_a := k_a.below b5 k_a.lt
    have k_b := k_b.below b5 k_b.lt
    have k_r := k_r.below b5 k_r.lt
    have k_x := k_x.below b5 k_x.lt
    have k_y := k_y.below b5 k_y.lt
    have bb := bb.trans (b5.mono bb.size)
    have x_a0 : w5.cell? ⟨w.heap.size, 0, none⟩ = some (.int .i64 k) := by rw [k_a.cell]; rfl
    have x_a1 : w5.cell? ⟨w.heap.size, 1, none⟩ = some (.int .i64 n) := by rw [k_a.cell]; rfl
    have x_a2 : w5.cell? ⟨w.heap.size, 2, none⟩ = some (.string s) := by rw [k_a.cell]; rfl
    have l_a := k_a.lt
    have x_b0 : w5.cell? ⟨w.heap.size + 1, 0, none⟩ = some (.int .i64 (k')) := by rw [k_b.cell]; rfl
    have x_b1 : w5.cell? ⟨w.heap.size + 1, 1, none⟩ = some (.int .i64 (n')) := by rw [k_b.cell]; rfl
    have x_b2 : w5.cell? ⟨w.heap.size + 1, 2, none⟩ = some (.string (s')) := by rw [k_b.cell]; rfl
    have l_b := k_b.lt
    have x_r0 : w5.cell? ⟨w.heap.size + 1 + 1, 0, none⟩ = some (.int .i64 0) := by rw [k_r.cell]; rfl
    have x_r1 : w5.cell? ⟨w.heap.size + 1 + 1, 1, none⟩ = some (.int .i64 0) := by rw [k_r.cell]; rfl
    have x_r2 : w5.cell? ⟨w.heap.size + 1 + 1, 2, none⟩ = some (.string ⟨#[]⟩) := by rw [k_r.cell]; rfl
    have l_r := k_r.lt
    have x_x0 : w5.cell? ⟨w1.heap.size, 0, none⟩ = some (.int .i64 p) := by rw [k_x.cell]; rfl
    have x_x1 : w5.cell? ⟨w1.heap.size, 1, none⟩ = some (.int .i64 q) := by rw [k_x.cell]; rfl
    have x_x2 : w5.cell? ⟨w1.heap.size, 2, none⟩ = some (.string ⟨#[]⟩) := by rw [k_x.cell]; rfl
    have l_x := k_x.lt
    have x_y0 : w5.cell? ⟨w2.heap.size, 0, none⟩ = some (.int .i64 (p')) := by rw [k_y.cell]; rfl
    have x_y1 : w5.cell? ⟨w2.heap.size, 1, none⟩ = some (.int .i64 (q')) := by rw [k_y.cell]; rfl
    have x_y2 : w5.cell? ⟨w2.heap.size, 2, none⟩ = some (.string ⟨#[]⟩) := by rw [k_y.cell]; rfl
    have l_y := k_y.lt
    have z_r0 := k_r.frozen 0
    have z_r1 := k_r.frozen 1
    have z_r2 := k_r.frozen 2
    go_wp2
    exact bodyPost_ret (v := .tuple #[VS 2 _ ⟨#[]⟩, .int .i64 0]) (by simp [results, Tryd.results36, go_sem, x_r0, x_r1, x_r2, l_r]) rfl ⟨rfl, (((bb).setCell (p := ⟨w.heap.size + 1 + 1, 0, none⟩) (by first | exact Nat.le_refl _ | (simp; done) | (simp; omega) | omega) _).setCell (p := ⟨w.heap.size + 1 + 1, 1, none⟩) (by first | exact Nat.le_refl _ | (simp; done) | (simp; omega) | omega) _).setCell (p := ⟨w.heap.size + 1 + 1, 2, none⟩) (by first | exact Nat.le_refl _ | (simp; done) | (simp; omega) | omega) _⟩
end Go.Proofs.YtjkboelcpihphaaDoor
