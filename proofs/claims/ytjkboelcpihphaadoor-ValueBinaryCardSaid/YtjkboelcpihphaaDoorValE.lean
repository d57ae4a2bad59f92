/- Contracts of value.reckon and Binary, operator by operator, given those of what they call. -/
import Derived.Test.YtjkboelcpihphaaDoorValC
set_option linter.unusedVariables false
set_option linter.unusedSimpArgs false
namespace Go.Proofs.YtjkboelcpihphaaDoor
open Go.RowKit
variable (k n : Int) (s : ByteArray) (k' n' : Int) (s' : ByteArray)

set_option maxHeartbeats 4000000 in
set_option maxRecDepth 100000 in
theorem reckon_add_true (w : World) (p q p' q' x y : Int) (C1 : ∀ W, Calls Tryd.prog 54 #[VN p q, VN p' q'] W (Ret (.tuple #[VN x y, .bool true]) W)) : Calls Tryd.prog 37 #[.string ⟨#[43]⟩, VN p q, VN p' q'] w (Ret (.tuple #[VS x y ⟨#[]⟩, .int .i64 0]) w) := by
  have H1 := Lib.hid C1
  clear C1
  go_enter Tryd.func37, Tryd.ntmps37
  go_wp2_with fail
  have k_a := (((Blk.new w 27 #[.int .i64 p, .int .i64 q, .string ⟨#[]⟩]).alloc (.cells #[.int .i64 (p'), .int .i64 (q'), .string ⟨#[]⟩] 27)).alloc (.cells #[.int .i64 0, .int .i64 0, .string ⟨#[]⟩] 27)).alloc (.cells #[.int .i64 0, .int .i64 0, .string ⟨#[]⟩] 27)
  have k_b := ((Blk.new (w.alloc (.cells #[.int .i64 p, .int .i64 q, .string ⟨#[]⟩] 27)) 27 #[.int .i64 (p'), .int .i64 (q'), .string ⟨#[]⟩]).alloc (.cells #[.int .i64 0, .int .i64 0, .string ⟨#[]⟩] 27)).alloc (.cells #[.int .i64 0, .int .i64 0, .string ⟨#[]⟩] 27)
  rw [World.size_alloc] at k_b
  have k_r := (Blk.new ((w.alloc (.cells #[.int .i64 p, .int .i64 q, .string ⟨#[]⟩] 27)).alloc (.cells #[.int .i64 (p'), .int .i64 (q'), .string ⟨#[]⟩] 27)) 27 #[.int .i64 0, .int .i64 0, .string ⟨#[]⟩]).alloc (.cells #[.int .i64 0, .int .i64 0, .string ⟨#[]⟩] 27)
  rw [World.size_alloc, World.size_alloc] at k_r
  have k_v := Blk.new (((w.alloc (.cells #[.int .i64 p, .int .i64 q, .string ⟨#[]⟩] 27)).alloc (.cells #[.int .i64 (p'), .int .i64 (q'), .string ⟨#[]⟩] 27)).alloc (.cells #[.int .i64 0, .int .i64 0, .string ⟨#[]⟩] 27)) 27 #[.int .i64 0, .int .i64 0, .string ⟨#[]⟩]
  rw [World.size_alloc, World.size_alloc, World.size_alloc] at k_v
  have bb : Below w.heap.size w _ := (((((Below.refl _ _).alloc (Nat.le_refl _) (.cells #[.int .i64 p, .int .i64 q, .string ⟨#[]⟩] 27)).alloc (by simp) (.cells #[.int .i64 (p'), .int .i64 (q'), .string ⟨#[]⟩] 27)).alloc (by simp; omega) (.cells #[.int .i64 0, .int .i64 0, .string ⟨#[]⟩] 27)).alloc (by simp; omega) (.cells #[.int .i64 0, .int .i64 0, .string ⟨#[]⟩] 27))
  generalize ((((w.alloc (.cells #[.int .i64 p, .int .i64 q, .string ⟨#[]⟩] 27)).alloc (.cells #[.int .i64 (p'), .int .i64 (q'), .string ⟨#[]⟩] 27)).alloc (.cells #[.int .i64 0, .int .i64 0, .string ⟨#[]⟩] 27)).alloc (.cells #[.int .i64 0, .int .i64 0, .string ⟨#[]⟩] 27)) = W0 at *
  refine (H1.out _).mono ?_
  rintro e w1 ⟨rfl, b1⟩
  have k_a := k_a.below b1 k_a.lt
  have k_b := k_b.below b1 k_b.lt
  have k_r := k_r.below b1 k_r.lt
  have k_v := k_v.below b1 k_v.lt
  have bb := bb.trans (b1.mono bb.size)
  have x_a0 : w1.cell? ⟨w.heap.size, 0, none⟩ = some (.int .i64 p) := by rw [k_a.cell]; rfl
  have x_a1 : w1.cell? ⟨w.heap.size, 1, none⟩ = some (.int .i64 q) := by rw [k_a.cell]; rfl
  have x_a2 : w1.cell? ⟨w.heap.size, 2, none⟩ = some (.string ⟨#[]⟩) := by rw [k_a.cell]; rfl
  have l_a := k_a.lt
  have x_b0 : w1.cell? ⟨w.heap.size + 1, 0, none⟩ = some (.int .i64 (p')) := by rw [k_b.cell]; rfl
  have x_b1 : w1.cell? ⟨w.heap.size + 1, 1, none⟩ = some (.int .i64 (q')) := by rw [k_b.cell]; rfl
  have x_b2 : w1.cell? ⟨w.heap.size + 1, 2, none⟩ = some (.string ⟨#[]⟩) := by rw [k_b.cell]; rfl
  have l_b := k_b.lt
  have x_r0 : w1.cell? ⟨w.heap.size + 1 + 1, 0, none⟩ = some (.int .i64 0) := by rw [k_r.cell]; rfl
  have x_r1 : w1.cell? ⟨w.heap.size + 1 + 1, 1, none⟩ = some (.int .i64 0) := by rw [k_r.cell]; rfl
  have x_r2 : w1.cell? ⟨w.heap.size + 1 + 1, 2, none⟩ = some (.string ⟨#[]⟩) := by rw [k_r.cell]; rfl
  have l_r := k_r.lt
  have x_v0 : w1.cell? ⟨w.heap.size + 1 + 1 + 1, 0, none⟩ = some (.int .i64 0) := by rw [k_v.cell]; rfl
  have x_v1 : w1.cell? ⟨w.heap.size + 1 + 1 + 1, 1, none⟩ = some (.int .i64 0) := by rw [k_v.cell]; rfl
  have x_v2 : w1.cell? ⟨w.heap.size + 1 + 1 + 1, 2, none⟩ = some (.string ⟨#[]⟩) := by rw [k_v.cell]; rfl
  have l_v := k_v.lt
  have z_v0 := k_v.frozen 0
  have z_v1 := k_v.frozen 1
  have z_v2 := k_v.frozen 2
  have z_r0 := k_r.frozen 0
  have z_r1 := k_r.frozen 1
  have z_r2 := k_r.frozen 2
  go_wp2
  exact bodyPost_ret (v := .tuple #[VS x y ⟨#[]⟩, .int .i64 0]) (by simp [results, Tryd.results37, go_sem, x_r0, x_r1, x_r2, l_r, x_v0, x_v1, x_v2, l_v]) rfl ⟨rfl, ((((((bb.setCell (p := ⟨w.heap.size + 1 + 1 + 1, 0, none⟩) (by simp; omega) _).setCell (p := ⟨w.heap.size + 1 + 1 + 1, 1, none⟩) (by simp; omega) _).setCell (p := ⟨w.heap.size + 1 + 1 + 1, 2, none⟩) (by simp; omega) _)).setCell (p := ⟨w.heap.size + 1 + 1, 0, none⟩) (by first | exact Nat.le_refl _ | (simp; done) | (simp; omega) | omega) _).setCell (p := ⟨w.heap.size + 1 + 1, 1, none⟩) (by first | exact Nat.le_refl _ | (simp; done) | (simp; omega) | omega) _).setCell (p := ⟨w.heap.size + 1 + 1, 2, none⟩) (by first | exact Nat.le_refl _ | (simp; done) | (simp; omega) | omega) _⟩
set_option maxHeartbeats 4000000 in
set_option maxRecDepth 100000 in
theorem reckon_add_false (w : World) (p q p' q' x y : Int) (C1 : ∀ W, Calls Tryd.prog 54 #[VN p q, VN p' q'] W (Ret (.tuple #[VN x y, .bool false]) W)) : Calls Tryd.prog 37 #[.string ⟨#[43]⟩, VN p q, VN p' q'] w (Ret (.tuple #[VS 0 0 ⟨#[]⟩, .int .i64 2]) w) := by
  have H1 := Lib.hid C1
  clear C1
  go_enter Tryd.func37, Tryd.ntmps37
  go_wp2_with fail
  have k_a := (((Blk.new w 27 #[.int .i64 p, .int .i64 q, .string ⟨#[]⟩]).alloc (.cells #[.int .i64 (p'), .int .i64 (q'), .string ⟨#[]⟩] 27)).alloc (.cells #[.int .i64 0, .int .i64 0, .string ⟨#[]⟩] 27)).alloc (.cells #[.int .i64 0, .int .i64 0, .string ⟨#[]⟩] 27)
  have k_b := ((Blk.new (w.alloc (.cells #[.int .i64 p, .int .i64 q, .string ⟨#[]⟩] 27)) 27 #[.int .i64 (p'), .int .i64 (q'), .string ⟨#[]⟩]).alloc (.cells #[.int .i64 0, .int .i64 0, .string ⟨#[]⟩] 27)).alloc (.cells #[.int .i64 0, .int .i64 0, .string ⟨#[]⟩] 27)
  rw [World.size_alloc] at k_b
  have k_r := (Blk.new ((w.alloc (.cells #[.int .i64 p, .int .i64 q, .string ⟨#[]⟩] 27)).alloc (.cells #[.int .i64 (p'), .int .i64 (q'), .string ⟨#[]⟩] 27)) 27 #[.int .i64 0, .int .i64 0, .string ⟨#[]⟩]).alloc (.cells #[.int .i64 0, .int .i64 0, .string ⟨#[]⟩] 27)
  rw [World.size_alloc, World.size_alloc] at k_r
  have k_v := Blk.new (((w.alloc (.cells #[.int .i64 p, .int .i64 q, .string ⟨#[]⟩] 27)).alloc (.cells #[.int .i64 (p'), .int .i64 (q'), .string ⟨#[]⟩] 27)).alloc (.cells #[.int .i64 0, .int .i64 0, .string ⟨#[]⟩] 27)) 27 #[.int .i64 0, .int .i64 0, .string ⟨#[]⟩]
  rw [World.size_alloc, World.size_alloc, World.size_alloc] at k_v
  have bb : Below w.heap.size w _ := (((((Below.refl _ _).alloc (Nat.le_refl _) (.cells #[.int .i64 p, .int .i64 q, .string ⟨#[]⟩] 27)).alloc (by simp) (.cells #[.int .i64 (p'), .int .i64 (q'), .string ⟨#[]⟩] 27)).alloc (by simp; omega) (.cells #[.int .i64 0, .int .i64 0, .string ⟨#[]⟩] 27)).alloc (by simp; omega) (.cells #[.int .i64 0, .int .i64 0, .string ⟨#[]⟩] 27))
  generalize ((((w.alloc (.cells #[.int .i64 p, .int .i64 q, .string ⟨#[]⟩] 27)).alloc (.cells #[.int .i64 (p'), .int .i64 (q'), .string ⟨#[]⟩] 27)).alloc (.cells #[.int .i64 0, .int .i64 0, .string ⟨#[]⟩] 27)).alloc (.cells #[.int .i64 0, .int .i64 0, .string ⟨#[]⟩] 27)) = W0 at *
  refine (H1.out _).mono ?_
  rintro e w1 ⟨rfl, b1⟩
  have k_a := k_a.below b1 k_a.lt
  have k_b := k_b.below b1 k_b.lt
  have k_r := k_r.below b1 k_r.lt
  have k_v := k_v.below b1 k_v.lt
  have bb := bb.trans (b1.mono bb.size)
  have x_a0 : w1.cell? ⟨w.heap.size, 0, none⟩ = some (.int .i64 p) := by rw [k_a.cell]; rfl
  have x_a1 : w1.cell? ⟨w.heap.size, 1, none⟩ = some (.int .i64 q) := by rw [k_a.cell]; rfl
  have x_a2 : w1.cell? ⟨w.heap.size, 2, none⟩ = some (.string ⟨#[]⟩) := by rw [k_a.cell]; rfl
  have l_a := k_a.lt
  have x_b0 : w1.cell? ⟨w.heap.size + 1, 0, none⟩ = some (.int .i64 (p')) := by rw [k_b.cell]; rfl
  have x_b1 : w1.cell? ⟨w.heap.size + 1, 1, none⟩ = some (.int .i64 (q')) := by rw [k_b.cell]; rfl
  have x_b2 : w1.cell? ⟨w.heap.size + 1, 2, none⟩ = some (.string ⟨#[]⟩) := by rw [k_b.cell]; rfl
  have l_b := k_b.lt
  have x_r0 : w1.cell? ⟨w.heap.size + 1 + 1, 0, none⟩ = some (.int .i64 0) := by rw [k_r.cell]; rfl
  have x_r1 : w1.cell? ⟨w.heap.size + 1 + 1, 1, none⟩ = some (.int .i64 0) := by rw [k_r.cell]; rfl
  have x_r2 : w1.cell? ⟨w.heap.size + 1 + 1, 2, none⟩ = some (.string ⟨#[]⟩) := by rw [k_r.cell]; rfl
  have l_r := k_r.lt
  have x_v0 : w1.cell? ⟨w.heap.size + 1 + 1 + 1, 0, none⟩ = some (.int .i64 0) := by rw [k_v.cell]; rfl
  have x_v1 : w1.cell? ⟨w.heap.size + 1 + 1 + 1, 1, none⟩ = some (.int .i64 0) := by rw [k_v.cell]; rfl
  have x_v2 : w1.cell? ⟨w.heap.size + 1 + 1 + 1, 2, none⟩ = some (.string ⟨#[]⟩) := by rw [k_v.cell]; rfl
  have l_v := k_v.lt
  have z_v0 := k_v.frozen 0
  have z_v1 := k_v.frozen 1
  have z_v2 := k_v.frozen 2
  have z_r0 := k_r.frozen 0
  have z_r1 := k_r.frozen 1
  have z_r2 := k_r.frozen 2
  go_wp2
  exact bodyPost_ret (v := .tuple #[VS 0 0 ⟨#[]⟩, .int .i64 2]) (by simp [results, Tryd.results37, go_sem, x_r0, x_r1, x_r2, l_r, x_v0, x_v1, x_v2, l_v]) rfl ⟨rfl, ((((((bb.setCell (p := ⟨w.heap.size + 1 + 1 + 1, 0, none⟩) (by simp; omega) _).setCell (p := ⟨w.heap.size + 1 + 1 + 1, 1, none⟩) (by simp; omega) _).setCell (p := ⟨w.heap.size + 1 + 1 + 1, 2, none⟩) (by simp; omega) _)).setCell (p := ⟨w.heap.size + 1 + 1, 0, none⟩) (by first | exact Nat.le_refl _ | (simp; done) | (simp; omega) | omega) _).setCell (p := ⟨w.heap.size + 1 + 1, 1, none⟩) (by first | exact Nat.le_refl _ | (simp; done) | (simp; omega) | omega) _).setCell (p := ⟨w.heap.size + 1 + 1, 2, none⟩) (by first | exact Nat.le_refl _ | (simp; done) | (simp; omega) | omega) _⟩
set_option maxHeartbeats 4000000 in
set_option maxRecDepth 100000 in
theorem reckon_sub_true (w : World) (p q p' q' x y : Int) (C1 : ∀ W, Calls Tryd.prog 55 #[VN p q, VN p' q'] W (Ret (.tuple #[VN x y, .bool true]) W)) : Calls Tryd.prog 37 #[.string ⟨#[45]⟩, VN p q, VN p' q'] w (Ret (.tuple #[VS x y ⟨#[]⟩, .int .i64 0]) w) := by
  have H1 := Lib.hid C1
  clear C1
  go_enter Tryd.func37, Tryd.ntmps37
  go_wp2_with fail
  have k_a := (((Blk.new w 27 #[.int .i64 p, .int .i64 q, .string ⟨#[]⟩]).alloc (.cells #[.int .i64 (p'), .int .i64 (q'), .string ⟨#[]⟩] 27)).alloc (.cells #[.int .i64 0, .int .i64 0, .string ⟨#[]⟩] 27)).alloc (.cells #[.int .i64 0, .int .i64 0, .string ⟨#[]⟩] 27)
  have k_b := ((Blk.new (w.alloc (.cells #[.int .i64 p, .int .i64 q, .string ⟨#[]⟩] 27)) 27 #[.int .i64 (p'), .int .i64 (q'), .string ⟨#[]⟩]).alloc (.cells #[.int .i64 0, .int .i64 0, .string ⟨#[]⟩] 27)).alloc (.cells #[.int .i64 0, .int .i64 0, .string ⟨#[]⟩] 27)
  rw [World.size_alloc] at k_b
  have k_r := (Blk.new ((w.alloc (.cells #[.int .i64 p, .int .i64 q, .string ⟨#[]⟩] 27)).alloc (.cells #[.int .i64 (p'), .int .i64 (q'), .string ⟨#[]⟩] 27)) 27 #[.int .i64 0, .int .i64 0, .string ⟨#[]⟩]).alloc (.cells #[.int .i64 0, .int .i64 0, .string ⟨#[]⟩] 27)
  rw [World.size_alloc, World.size_alloc] at k_r
  have k_v := Blk.new (((w.alloc (.cells #[.int .i64 p, .int .i64 q, .string ⟨#[]⟩] 27)).alloc (.cells #[.int .i64 (p'), .int .i64 (q'), .string ⟨#[]⟩] 27)).alloc (.cells #[.int .i64 0, .int .i64 0, .string ⟨#[]⟩] 27)) 27 #[.int .i64 0, .int .i64 0, .string ⟨#[]⟩]
  rw [World.size_alloc, World.size_alloc, World.size_alloc] at k_v
  have bb : Below w.heap.size w _ := (((((Below.refl _ _).alloc (Nat.le_refl _) (.cells #[.int .i64 p, .int .i64 q, .string ⟨#[]⟩] 27)).alloc (by simp) (.cells #[.int .i64 (p'), .int .i64 (q'), .string ⟨#[]⟩] 27)).alloc (by simp; omega) (.cells #[.int .i64 0, .int .i64 0, .string ⟨#[]⟩] 27)).alloc (by simp; omega) (.cells #[.int .i64 0, .int .i64 0, .string ⟨#[]⟩] 27))
  generalize ((((w.alloc (.cells #[.int .i64 p, .int .i64 q, .string ⟨#[]⟩] 27)).alloc (.cells #[.int .i64 (p'), .int .i64 (q'), .string ⟨#[]⟩] 27)).alloc (.cells #[.int .i64 0, .int .i64 0, .string ⟨#[]⟩] 27)).alloc (.cells #[.int .i64 0, .int .i64 0, .string ⟨#[]⟩] 27)) = W0 at *
  refine (H1.out _).mono ?_
  rintro e w1 ⟨rfl, b1⟩
  have k_a := k_a.below b1 k_a.lt
  have k_b := k_b.below b1 k_b.lt
  have k_r := k_r.below b1 k_r.lt
  have k_v := k_v.below b1 k_v.lt
  have bb := bb.trans (b1.mono bb.size)
  have x_a0 : w1.cell? ⟨w.heap.size, 0, none⟩ = some (.int .i64 p) := by rw [k_a.cell]; rfl
  have x_a1 : w1.cell? ⟨w.heap.size, 1, none⟩ = some (.int .i64 q) := by rw [k_a.cell]; rfl
  have x_a2 : w1.cell? ⟨w.heap.size, 2, none⟩ = some (.string ⟨#[]⟩) := by rw [k_a.cell]; rfl
  have l_a := k_a.lt
  have x_b0 : w1.cell? ⟨w.heap.size + 1, 0, none⟩ = some (.int .i64 (p')) := by rw [k_b.cell]; rfl
  have x_b1 : w1.cell? ⟨w.heap.size + 1, 1, none⟩ = some (.int .i64 (q')) := by rw [k_b.cell]; rfl
  have x_b2 : w1.cell? ⟨w.heap.size + 1, 2, none⟩ = some (.string ⟨#[]⟩) := by rw [k_b.cell]; rfl
  have l_b := k_b.lt
  have x_r0 : w1.cell? ⟨w.heap.size + 1 + 1, 0, none⟩ = some (.int .i64 0) := by rw [k_r.cell]; rfl
  have x_r1 : w1.cell? ⟨w.heap.size + 1 + 1, 1, none⟩ = some (.int .i64 0) := by rw [k_r.cell]; rfl
  have x_r2 : w1.cell? ⟨w.heap.size + 1 + 1, 2, none⟩ = some (.string ⟨#[]⟩) := by rw [k_r.cell]; rfl
  have l_r := k_r.lt
  have x_v0 : w1.cell? ⟨w.heap.size + 1 + 1 + 1, 0, none⟩ = some (.int .i64 0) := by rw [k_v.cell]; rfl
  have x_v1 : w1.cell? ⟨w.heap.size + 1 + 1 + 1, 1, none⟩ = some (.int .i64 0) := by rw [k_v.cell]; rfl
  have x_v2 : w1.cell? ⟨w.heap.size + 1 + 1 + 1, 2, none⟩ = some (.string ⟨#[]⟩) := by rw [k_v.cell]; rfl
  have l_v := k_v.lt
  have z_v0 := k_v.frozen 0
  have z_v1 := k_v.frozen 1
  have z_v2 := k_v.frozen 2
  have z_r0 := k_r.frozen 0
  have z_r1 := k_r.frozen 1
  have z_r2 := k_r.frozen 2
  go_wp2
  exact bodyPost_ret (v := .tuple #[VS x y ⟨#[]⟩, .int .i64 0]) (by simp [results, Tryd.results37, go_sem, x_r0, x_r1, x_r2, l_r, x_v0, x_v1, x_v2, l_v]) rfl ⟨rfl, ((((((bb.setCell (p := ⟨w.heap.size + 1 + 1 + 1, 0, none⟩) (by simp; omega) _).setCell (p := ⟨w.heap.size + 1 + 1 + 1, 1, none⟩) (by simp; omega) _).setCell (p := ⟨w.heap.size + 1 + 1 + 1, 2, none⟩) (by simp; omega) _)).setCell (p := ⟨w.heap.size + 1 + 1, 0, none⟩) (by first | exact Nat.le_refl _ | (simp; done) | (simp; omega) | omega) _).setCell (p := ⟨w.heap.size + 1 + 1, 1, none⟩) (by first | exact Nat.le_refl _ | (simp; done) | (simp; omega) | omega) _).setCell (p := ⟨w.heap.size + 1 + 1, 2, none⟩) (by first | exact Nat.le_refl _ | (simp; done) | (simp; omega) | omega) _⟩
set_option maxHeartbeats 4000000 in
set_option maxRecDepth 100000 in
theorem reckon_sub_false (w : World) (p q p' q' x y : Int) (C1 : ∀ W, Calls Tryd.prog 55 #[VN p q, VN p' q'] W (Ret (.tuple #[VN x y, .bool false]) W)) : Calls Tryd.prog 37 #[.string ⟨#[45]⟩, VN p q, VN p' q'] w (Ret (.tuple #[VS 0 0 ⟨#[]⟩, .int .i64 2]) w) := by
  have H1 := Lib.hid C1
  clear C1
  go_enter Tryd.func37, Tryd.ntmps37
  go_wp2_with fail
  have k_a := (((Blk.new w 27 #[.int .i64 p, .int .i64 q, .string ⟨#[]⟩]).alloc (.cells #[.int .i64 (p'), .int .i64 (q'), .string ⟨#[]⟩] 27)).alloc (.cells #[.int .i64 0, .int .i64 0, .string ⟨#[]⟩] 27)).alloc (.cells #[.int .i64 0, .int .i64 0, .string ⟨#[]⟩] 27)
  have k_b := ((Blk.new (w.alloc (.cells #[.int .i64 p, .int .i64 q, .string ⟨#[]⟩] 27)) 27 #[.int .i64 (p'), .int .i64 (q'), .string ⟨#[]⟩]).alloc (.cells #[.int .i64 0, .int .i64 0, .string ⟨#[]⟩] 27)).alloc (.cells #[.int .i64 0, .int .i64 0, .string ⟨#[]⟩] 27)
  rw [World.size_alloc] at k_b
  have k_r := (Blk.new ((w.alloc (.cells #[.int .i64 p, .int .i64 q, .string ⟨#[]⟩] 27)).alloc (.cells #[.int .i64 (p'), .int .i64 (q'), .string ⟨#[]⟩] 27)) 27 #[.int .i64 0, .int .i64 0, .string ⟨#[]⟩]).alloc (.cells #[.int .i64 0, .int .i64 0, .string ⟨#[]⟩] 27)
  rw [World.size_alloc, World.size_alloc] at k_r
  have k_v := Blk.new (((w.alloc (.cells #[.int .i64 p, .int .i64 q, .string ⟨#[]⟩] 27)).alloc (.cells #[.int .i64 (p'), .int .i64 (q'), .string ⟨#[]⟩] 27)).alloc (.cells #[.int .i64 0, .int .i64 0, .string ⟨#[]⟩] 27)) 27 #[.int .i64 0, .int .i64 0, .string ⟨#[]⟩]
  rw [World.size_alloc, World.size_alloc, World.size_alloc] at k_v
  have bb : Below w.heap.size w _ := (((((Below.refl _ _).alloc (Nat.le_refl _) (.cells #[.int .i64 p, .int .i64 q, .string ⟨#[]⟩] 27)).alloc (by simp) (.cells #[.int .i64 (p'), .int .i64 (q'), .string ⟨#[]⟩] 27)).alloc (by simp; omega) (.cells #[.int .i64 0, .int .i64 0, .string ⟨#[]⟩] 27)).alloc (by simp; omega) (.cells #[.int .i64 0, .int .i64 0, .string ⟨#[]⟩] 27))
  generalize ((((w.alloc (.cells #[.int .i64 p, .int .i64 q, .string ⟨#[]⟩] 27)).alloc (.cells #[.int .i64 (p'), .int .i64 (q'), .string ⟨#[]⟩] 27)).alloc (.cells #[.int .i64 0, .int .i64 0, .string ⟨#[]⟩] 27)).alloc (.cells #[.int .i64 0, .int .i64 0, .string ⟨#[]⟩] 27)) = W0 at *
  refine (H1.out _).mono ?_
  rintro e w1 ⟨rfl, b1⟩
  have k_a := k_a.below b1 k_a.lt
  have k_b := k_b.below b1 k_b.lt
  have k_r := k_r.below b1 k_r.lt
  have k_v := k_v.below b1 k_v.lt
  have bb := bb.trans (b1.mono bb.size)
  have x_a0 : w1.cell? ⟨w.heap.size, 0, none⟩ = some (.int .i64 p) := by rw [k_a.cell]; rfl
  have x_a1 : w1.cell? ⟨w.heap.size, 1, none⟩ = some (.int .i64 q) := by rw [k_a.cell]; rfl
  have x_a2 : w1.cell? ⟨w.heap.size, 2, none⟩ = some (.string ⟨#[]⟩) := by rw [k_a.cell]; rfl
  have l_a := k_a.lt
  have x_b0 : w1.cell? ⟨w.heap.size + 1, 0, none⟩ = some (.int .i64 (p')) := by rw [k_b.cell]; rfl
  have x_b1 : w1.cell? ⟨w.heap.size + 1, 1, none⟩ = some (.int .i64 (q')) := by rw [k_b.cell]; rfl
  have x_b2 : w1.cell? ⟨w.heap.size + 1, 2, none⟩ = some (.string ⟨#[]⟩) := by rw [k_b.cell]; rfl
  have l_b := k_b.lt
  have x_r0 : w1.cell? ⟨w.heap.size + 1 + 1, 0, none⟩ = some (.int .i64 0) := by rw [k_r.cell]; rfl
  have x_r1 : w1.cell? ⟨w.heap.size + 1 + 1, 1, none⟩ = some (.int .i64 0) := by rw [k_r.cell]; rfl
  have x_r2 : w1.cell? ⟨w.heap.size + 1 + 1, 2, none⟩ = some (.string ⟨#[]⟩) := by rw [k_r.cell]; rfl
  have l_r := k_r.lt
  have x_v0 : w1.cell? ⟨w.heap.size + 1 + 1 + 1, 0, none⟩ = some (.int .i64 0) := by rw [k_v.cell]; rfl
  have x_v1 : w1.cell? ⟨w.heap.size + 1 + 1 + 1, 1, none⟩ = some (.int .i64 0) := by rw [k_v.cell]; rfl
  have x_v2 : w1.cell? ⟨w.heap.size + 1 + 1 + 1, 2, none⟩ = some (.string ⟨#[]⟩) := by rw [k_v.cell]; rfl
  have l_v := k_v.lt
  have z_v0 := k_v.frozen 0
  have z_v1 := k_v.frozen 1
  have z_v2 := k_v.frozen 2
  have z_r0 := k_r.frozen 0
  have z_r1 := k_r.frozen 1
  have z_r2 := k_r.frozen 2
  go_wp2
  exact bodyPost_ret (v := .tuple #[VS 0 0 ⟨#[]⟩, .int .i64 2]) (by simp [results, Tryd.results37, go_sem, x_r0, x_r1, x_r2, l_r, x_v0, x_v1, x_v2, l_v]) rfl ⟨rfl, ((((((bb.setCell (p := ⟨w.heap.size + 1 + 1 + 1, 0, none⟩) (by simp; omega) _).setCell (p := ⟨w.heap.size + 1 + 1 + 1, 1, none⟩) (by simp; omega) _).setCell (p := ⟨w.heap.size + 1 + 1 + 1, 2, none⟩) (by simp; omega) _)).setCell (p := ⟨w.heap.size + 1 + 1, 0, none⟩) (by first | exact Nat.le_refl _ | (simp; done) | (simp; omega) | omega) _).setCell (p := ⟨w.heap.size + 1 + 1, 1, none⟩) (by first | exact Nat.le_refl _ | (simp; done) | (simp; omega) | omega) _).setCell (p := ⟨w.heap.size + 1 + 1, 2, none⟩) (by first | exact Nat.le_refl _ | (simp; done) | (simp; omega) | omega) _⟩
set_option maxHeartbeats 4000000 in
set_option maxRecDepth 100000 in
theorem reckon_mul_true (w : World) (p q p' q' x y : Int) (C1 : ∀ W, Calls Tryd.prog 56 #[VN p q, VN p' q'] W (Ret (.tuple #[VN x y, .bool true]) W)) : Calls Tryd.prog 37 #[.string ⟨#[42]⟩, VN p q, VN p' q'] w (Ret (.tuple #[VS x y ⟨#[]⟩, .int .i64 0]) w) := by
  have H1 := Lib.hid C1
  clear C1
  go_enter Tryd.func37, Tryd.ntmps37
  go_wp2_with fail
  have k_a := (((Blk.new w 27 #[.int .i64 p, .int .i64 q, .string ⟨#[]⟩]).alloc (.cells #[.int .i64 (p'), .int .i64 (q'), .string ⟨#[]⟩] 27)).alloc (.cells #[.int .i64 0, .int .i64 0, .string ⟨#[]⟩] 27)).alloc (.cells #[.int .i64 0, .int .i64 0, .string ⟨#[]⟩] 27)
  have k_b := ((Blk.new (w.alloc (.cells #[.int .i64 p, .int .i64 q, .string ⟨#[]⟩] 27)) 27 #[.int .i64 (p'), .int .i64 (q'), .string ⟨#[]⟩]).alloc (.cells #[.int .i64 0, .int .i64 0, .string ⟨#[]⟩] 27)).alloc (.cells #[.int .i64 0, .int .i64 0, .string ⟨#[]⟩] 27)
  rw [World.size_alloc] at k_b
  have k_r := (Blk.new ((w.alloc (.cells #[.int .i64 p, .int .i64 q, .string ⟨#[]⟩] 27)).alloc (.cells #[.int .i64 (p'), .int .i64 (q'), .string ⟨#[]⟩] 27)) 27 #[.int .i64 0, .int .i64 0, .string ⟨#[]⟩]).alloc (.cells #[.int .i64 0, .int .i64 0, .string ⟨#[]⟩] 27)
  rw [World.size_alloc, World.size_alloc] at k_r
  have k_v := Blk.new (((w.alloc (.cells #[.int .i64 p, .int .i64 q, .string ⟨#[]⟩] 27)).alloc (.cells #[.int .i64 (p'), .int .i64 (q'), .string ⟨#[]⟩] 27)).alloc (.cells #[.int .i64 0, .int .i64 0, .string ⟨#[]⟩] 27)) 27 #[.int .i64 0, .int .i64 0, .string ⟨#[]⟩]
  rw [World.size_alloc, World.size_alloc, World.size_alloc] at k_v
  have bb : Below w.heap.size w _ := (((((Below.refl _ _).alloc (Nat.le_refl _) (.cells #[.int .i64 p, .int .i64 q, .string ⟨#[]⟩] 27)).alloc (by simp) (.cells #[.int .i64 (p'), .int .i64 (q'), .string ⟨#[]⟩] 27)).alloc (by simp; omega) (.cells #[.int .i64 0, .int .i64 0, .string ⟨#[]⟩] 27)).alloc (by simp; omega) (.cells #[.int .i64 0, .int .i64 0, .string ⟨#[]⟩] 27))
  generalize ((((w.alloc (.cells #[.int .i64 p, .int .i64 q, .string ⟨#[]⟩] 27)).alloc (.cells #[.int .i64 (p'), .int .i64 (q'), .string ⟨#[]⟩] 27)).alloc (.cells #[.int .i64 0, .int .i64 0, .string ⟨#[]⟩] 27)).alloc (.cells #[.int .i64 0, .int .i64 0, .string ⟨#[]⟩] 27)) = W0 at *
  refine (H1.out _).mono ?_
  rintro e w1 ⟨rfl, b1⟩
  have k_a := k_a.below b1 k_a.lt
  have k_b := k_b.below b1 k_b.lt
  have k_r := k_r.below b1 k_r.lt
  have k_v := k_v.below b1 k_v.lt
  have bb := bb.trans (b1.mono bb.size)
  have x_a0 : w1.cell? ⟨w.heap.size, 0, none⟩ = some (.int .i64 p) := by rw [k_a.cell]; rfl
  have x_a1 : w1.cell? ⟨w.heap.size, 1, none⟩ = some (.int .i64 q) := by rw [k_a.cell]; rfl
  have x_a2 : w1.cell? ⟨w.heap.size, 2, none⟩ = some (.string ⟨#[]⟩) := by rw [k_a.cell]; rfl
  have l_a := k_a.lt
  have x_b0 : w1.cell? ⟨w.heap.size + 1, 0, none⟩ = some (.int .i64 (p')) := by rw [k_b.cell]; rfl
  have x_b1 : w1.cell? ⟨w.heap.size + 1, 1, none⟩ = some (.int .i64 (q')) := by rw [k_b.cell]; rfl
  have x_b2 : w1.cell? ⟨w.heap.size + 1, 2, none⟩ = some (.string ⟨#[]⟩) := by rw [k_b.cell]; rfl
  have l_b := k_b.lt
  have x_r0 : w1.cell? ⟨w.heap.size + 1 + 1, 0, none⟩ = some (.int .i64 0) := by rw [k_r.cell]; rfl
  have x_r1 : w1.cell? ⟨w.heap.size + 1 + 1, 1, none⟩ = some (.int .i64 0) := by rw [k_r.cell]; rfl
  have x_r2 : w1.cell? ⟨w.heap.size + 1 + 1, 2, none⟩ = some (.string ⟨#[]⟩) := by rw [k_r.cell]; rfl
  have l_r := k_r.lt
  have x_v0 : w1.cell? ⟨w.heap.size + 1 + 1 + 1, 0, none⟩ = some (.int .i64 0) := by rw [k_v.cell]; rfl
  have x_v1 : w1.cell? ⟨w.heap.size + 1 + 1 + 1, 1, none⟩ = some (.int .i64 0) := by rw [k_v.cell]; rfl
  have x_v2 : w1.cell? ⟨w.heap.size + 1 + 1 + 1, 2, none⟩ = some (.string ⟨#[]⟩) := by rw [k_v.cell]; rfl
  have l_v := k_v.lt
  have z_v0 := k_v.frozen 0
  have z_v1 := k_v.frozen 1
  have z_v2 := k_v.frozen 2
  have z_r0 := k_r.frozen 0
  have z_r1 := k_r.frozen 1
  have z_r2 := k_r.frozen 2
  go_wp2
  exact bodyPost_ret (v := .tuple #[VS x y ⟨#[]⟩, .int .i64 0]) (by simp [results, Tryd.results37, go_sem, x_r0, x_r1, x_r2, l_r, x_v0, x_v1, x_v2, l_v]) rfl ⟨rfl, ((((((bb.setCell (p := ⟨w.heap.size + 1 + 1 + 1, 0, none⟩) (by simp; omega) _).setCell (p := ⟨w.heap.size + 1 + 1 + 1, 1, none⟩) (by simp; omega) _).setCell (p := ⟨w.heap.size + 1 + 1 + 1, 2, none⟩) (by simp; omega) _)).setCell (p := ⟨w.heap.size + 1 + 1, 0, none⟩) (by first | exact Nat.le_refl _ | (simp; done) | (simp; omega) | omega) _).setCell (p := ⟨w.heap.size + 1 + 1, 1, none⟩) (by first | exact Nat.le_refl _ | (simp; done) | (simp; omega) | omega) _).setCell (p := ⟨w.heap.size + 1 + 1, 2, none⟩) (by first | exact Nat.le_refl _ | (simp; done) | (simp; omega) | omega) _⟩
set_option maxHeartbeats 4000000 in
set_option maxRecDepth 100000 in
theorem reckon_mul_false (w : World) (p q p' q' x y : Int) (C1 : ∀ W, Calls Tryd.prog 56 #[VN p q, VN p' q'] W (Ret (.tuple #[VN x y, .bool false]) W)) : Calls Tryd.prog 37 #[.string ⟨#[42]⟩, VN p q, VN p' q'] w (Ret (.tuple #[VS 0 0 ⟨#[]⟩, .int .i64 2]) w) := by
  have H1 := Lib.hid C1
  clear C1
  go_enter Tryd.func37, Tryd.ntmps37
  go_wp2_with fail
  have k_a := (((Blk.new w 27 #[.int .i64 p, .int .i64 q, .string ⟨#[]⟩]).alloc (.cells #[.int .i64 (p'), .int .i64 (q'), .string ⟨#[]⟩] 27)).alloc (.cells #[.int .i64 0, .int .i64 0, .string ⟨#[]⟩] 27)).alloc (.cells #[.int .i64 0, .int .i64 0, .string ⟨#[]⟩] 27)
  have k_b := ((Blk.new (w.alloc (.cells #[.int .i64 p, .int .i64 q, .string ⟨#[]⟩] 27)) 27 #[.int .i64 (p'), .int .i64 (q'), .string ⟨#[]⟩]).alloc (.cells #[.int .i64 0, .int .i64 0, .string ⟨#[]⟩] 27)).alloc (.cells #[.int .i64 0, .int .i64 0, .string ⟨#[]⟩] 27)
  rw [World.size_alloc] at k_b
  have k_r := (Blk.new ((w.alloc (.cells #[.int .i64 p, .int .i64 q, .string ⟨#[]⟩] 27)).alloc (.cells #[.int .i64 (p'), .int .i64 (q'), .string ⟨#[]⟩] 27)) 27 #[.int .i64 0, .int .i64 0, .string ⟨#[]⟩]).alloc (.cells #[.int .i64 0, .int .i64 0, .string ⟨#[]⟩] 27)
  rw [World.size_alloc, World.size_alloc] at k_r
  have k_v := Blk.new (((w.alloc (.cells #[.int .i64 p, .int .i64 q, .string ⟨#[]⟩] 27)).alloc (.cells #[.int .i64 (p'), .int .i64 (q'), .string ⟨#[]⟩] 27)).alloc (.cells #[.int .i64 0, .int .i64 0, .string ⟨#[]⟩] 27)) 27 #[.int .i64 0, .int .i64 0, .string ⟨#[]⟩]
  rw [World.size_alloc, World.size_alloc, World.size_alloc] at k_v
  have bb : Below w.heap.size w _ := (((((Below.refl _ _).alloc (Nat.le_refl _) (.cells #[.int .i64 p, .int .i64 q, .string ⟨#[]⟩] 27)).alloc (by simp) (.cells #[.int .i64 (p'), .int .i64 (q'), .string ⟨#[]⟩] 27)).alloc (by simp; omega) (.cells #[.int .i64 0, .int .i64 0, .string ⟨#[]⟩] 27)).alloc (by simp; omega) (.cells #[.int .i64 0, .int .i64 0, .string ⟨#[]⟩] 27))
  generalize ((((w.alloc (.cells #[.int .i64 p, .int .i64 q, .string ⟨#[]⟩] 27)).alloc (.cells #[.int .i64 (p'), .int .i64 (q'), .string ⟨#[]⟩] 27)).alloc (.cells #[.int .i64 0, .int .i64 0, .string ⟨#[]⟩] 27)).alloc (.cells #[.int .i64 0, .int .i64 0, .string ⟨#[]⟩] 27)) = W0 at *
  refine (H1.out _).mono ?_
  rintro e w1 ⟨rfl, b1⟩
  have k_a := k_a.below b1 k_a.lt
  have k_b := k_b.below b1 k_b.lt
  have k_r := k_r.below b1 k_r.lt
  have k_v := k_v.below b1 k_v.lt
  have bb := bb.trans (b1.mono bb.size)
  have x_a0 : w1.cell? ⟨w.heap.size, 0, none⟩ = some (.int .i64 p) := by rw [k_a.cell]; rfl
  have x_a1 : w1.cell? ⟨w.heap.size, 1, none⟩ = some (.int .i64 q) := by rw [k_a.cell]; rfl
  have x_a2 : w1.cell? ⟨w.heap.size, 2, none⟩ = some (.string ⟨#[]⟩) := by rw [k_a.cell]; rfl
  have l_a := k_a.lt
  have x_b0 : w1.cell? ⟨w.heap.size + 1, 0, none⟩ = some (.int .i64 (p')) := by rw [k_b.cell]; rfl
  have x_b1 : w1.cell? ⟨w.heap.size + 1, 1, none⟩ = some (.int .i64 (q')) := by rw [k_b.cell]; rfl
  have x_b2 : w1.cell? ⟨w.heap.size + 1, 2, none⟩ = some (.string ⟨#[]⟩) := by rw [k_b.cell]; rfl
  have l_b := k_b.lt
  have x_r0 : w1.cell? ⟨w.heap.size + 1 + 1, 0, none⟩ = some (.int .i64 0) := by rw [k_r.cell]; rfl
  have x_r1 : w1.cell? ⟨w.heap.size + 1 + 1, 1, none⟩ = some (.int .i64 0) := by rw [k_r.cell]; rfl
  have x_r2 : w1.cell? ⟨w.heap.size + 1 + 1, 2, none⟩ = some (.string ⟨#[]⟩) := by rw [k_r.cell]; rfl
  have l_r := k_r.lt
  have x_v0 : w1.cell? ⟨w.heap.size + 1 + 1 + 1, 0, none⟩ = some (.int .i64 0) := by rw [k_v.cell]; rfl
  have x_v1 : w1.cell? ⟨w.heap.size + 1 + 1 + 1, 1, none⟩ = some (.int .i64 0) := by rw [k_v.cell]; rfl
  have x_v2 : w1.cell? ⟨w.heap.size + 1 + 1 + 1, 2, none⟩ = some (.string ⟨#[]⟩) := by rw [k_v.cell]; rfl
  have l_v := k_v.lt
  have z_v0 := k_v.frozen 0
  have z_v1 := k_v.frozen 1
  have z_v2 := k_v.frozen 2
  have z_r0 := k_r.frozen 0
  have z_r1 := k_r.frozen 1
  have z_r2 := k_r.frozen 2
  go_wp2
  exact bodyPost_ret (v := .tuple #[VS 0 0 ⟨#[]⟩, .int .i64 2]) (by simp [results, Tryd.results37, go_sem, x_r0, x_r1, x_r2, l_r, x_v0, x_v1, x_v2, l_v]) rfl ⟨rfl, ((((((bb.setCell (p := ⟨w.heap.size + 1 + 1 + 1, 0, none⟩) (by simp; omega) _).setCell (p := ⟨w.heap.size + 1 + 1 + 1, 1, none⟩) (by simp; omega) _).setCell (p := ⟨w.heap.size + 1 + 1 + 1, 2, none⟩) (by simp; omega) _)).setCell (p := ⟨w.heap.size + 1 + 1, 0, none⟩) (by first | exact Nat.le_refl _ | (simp; done) | (simp; omega) | omega) _).setCell (p := ⟨w.heap.size + 1 + 1, 1, none⟩) (by first | exact Nat.le_refl _ | (simp; done) | (simp; omega) | omega) _).setCell (p := ⟨w.heap.size + 1 + 1, 2, none⟩) (by first | exact Nat.le_refl _ | (simp; done) | (simp; omega) | omega) _⟩
set_option maxHeartbeats 4000000 in
set_option maxRecDepth 100000 in
theorem reckon_div_true (w : World) (p q p' q' x y : Int) (C1 : ∀ W, Calls Tryd.prog 57 #[VN p q, VN p' q'] W (Ret (.tuple #[VN x y, .bool true]) W)) : Calls Tryd.prog 37 #[.string ⟨#[47]⟩, VN p q, VN p' q'] w (Ret (.tuple #[VS x y ⟨#[]⟩, .int .i64 0]) w) := by
  have H1 := Lib.hid C1
  clear C1
  go_enter Tryd.func37, Tryd.ntmps37
  go_wp2_with fail
  have k_a := (((Blk.new w 27 #[.int .i64 p, .int .i64 q, .string ⟨#[]⟩]).alloc (.cells #[.int .i64 (p'), .int .i64 (q'), .string ⟨#[]⟩] 27)).alloc (.cells #[.int .i64 0, .int .i64 0, .string ⟨#[]⟩] 27)).alloc (.cells #[.int .i64 0, .int .i64 0, .string ⟨#[]⟩] 27)
  have k_b := ((Blk.new (w.alloc (.cells #[.int .i64 p, .int .i64 q, .string ⟨#[]⟩] 27)) 27 #[.int .i64 (p'), .int .i64 (q'), .string ⟨#[]⟩]).alloc (.cells #[.int .i64 0, .int .i64 0, .string ⟨#[]⟩] 27)).alloc (.cells #[.int .i64 0, .int .i64 0, .string ⟨#[]⟩] 27)
  rw [World.size_alloc] at k_b
  have k_r := (Blk.new ((w.alloc (.cells #[.int .i64 p, .int .i64 q, .string ⟨#[]⟩] 27)).alloc (.cells #[.int .i64 (p'), .int .i64 (q'), .string ⟨#[]⟩] 27)) 27 #[.int .i64 0, .int .i64 0, .string ⟨#[]⟩]).alloc (.cells #[.int .i64 0, .int .i64 0, .string ⟨#[]⟩] 27)
  rw [World.size_alloc, World.size_alloc] at k_r
  have k_v := Blk.new (((w.alloc (.cells #[.int .i64 p, .int .i64 q, .string ⟨#[]⟩] 27)).alloc (.cells #[.int .i64 (p'), .int .i64 (q'), .string ⟨#[]⟩] 27)).alloc (.cells #[.int .i64 0, .int .i64 0, .string ⟨#[]⟩] 27)) 27 #[.int .i64 0, .int .i64 0, .string ⟨#[]⟩]
  rw [World.size_alloc, World.size_alloc, World.size_alloc] at k_v
  have bb : Below w.heap.size w _ := (((((Below.refl _ _).alloc (Nat.le_refl _) (.cells #[.int .i64 p, .int .i64 q, .string ⟨#[]⟩] 27)).alloc (by simp) (.cells #[.int .i64 (p'), .int .i64 (q'), .string ⟨#[]⟩] 27)).alloc (by simp; omega) (.cells #[.int .i64 0, .int .i64 0, .string ⟨#[]⟩] 27)).alloc (by simp; omega) (.cells #[.int .i64 0, .int .i64 0, .string ⟨#[]⟩] 27))
  generalize ((((w.alloc (.cells #[.int .i64 p, .int .i64 q, .string ⟨#[]⟩] 27)).alloc (.cells #[.int .i64 (p'), .int .i64 (q'), .string ⟨#[]⟩] 27)).alloc (.cells #[.int .i64 0, .int .i64 0, .string ⟨#[]⟩] 27)).alloc (.cells #[.int .i64 0, .int .i64 0, .string ⟨#[]⟩] 27)) = W0 at *
  refine (H1.out _).mono ?_
  rintro e w1 ⟨rfl, b1⟩
  have k_a := k_a.below b1 k_a.lt
  have k_b := k_b.below b1 k_b.lt
  have k_r := k_r.below b1 k_r.lt
  have k_v := k_v.below b1 k_v.lt
  have bb := bb.trans (b1.mono bb.size)
  have x_a0 : w1.cell? ⟨w.heap.size, 0, none⟩ = some (.int .i64 p) := by rw [k_a.cell]; rfl
  have x_a1 : w1.cell? ⟨w.heap.size, 1, none⟩ = some (.int .i64 q) := by rw [k_a.cell]; rfl
  have x_a2 : w1.cell? ⟨w.heap.size, 2, none⟩ = some (.string ⟨#[]⟩) := by rw [k_a.cell]; rfl
  have l_a := k_a.lt
  have x_b0 : w1.cell? ⟨w.heap.size + 1, 0, none⟩ = some (.int .i64 (p')) := by rw [k_b.cell]; rfl
  have x_b1 : w1.cell? ⟨w.heap.size + 1, 1, none⟩ = some (.int .i64 (q')) := by rw [k_b.cell]; rfl
  have x_b2 : w1.cell? ⟨w.heap.size + 1, 2, none⟩ = some (.string ⟨#[]⟩) := by rw [k_b.cell]; rfl
  have l_b := k_b.lt
  have x_r0 : w1.cell? ⟨w.heap.size + 1 + 1, 0, none⟩ = some (.int .i64 0) := by rw [k_r.cell]; rfl
  have x_r1 : w1.cell? ⟨w.heap.size + 1 + 1, 1, none⟩ = some (.int .i64 0) := by rw [k_r.cell]; rfl
  have x_r2 : w1.cell? ⟨w.heap.size + 1 + 1, 2, none⟩ = some (.string ⟨#[]⟩) := by rw [k_r.cell]; rfl
  have l_r := k_r.lt
  have x_v0 : w1.cell? ⟨w.heap.size + 1 + 1 + 1, 0, none⟩ = some (.int .i64 0) := by rw [k_v.cell]; rfl
  have x_v1 : w1.cell? ⟨w.heap.size + 1 + 1 + 1, 1, none⟩ = some (.int .i64 0) := by rw [k_v.cell]; rfl
  have x_v2 : w1.cell? ⟨w.heap.size + 1 + 1 + 1, 2, none⟩ = some (.string ⟨#[]⟩) := by rw [k_v.cell]; rfl
  have l_v := k_v.lt
  have z_v0 := k_v.frozen 0
  have z_v1 := k_v.frozen 1
  have z_v2 := k_v.frozen 2
  have z_r0 := k_r.frozen 0
  have z_r1 := k_r.frozen 1
  have z_r2 := k_r.frozen 2
  go_wp2
  exact bodyPost_ret (v := .tuple #[VS x y ⟨#[]⟩, .int .i64 0]) (by simp [results, Tryd.results37, go_sem, x_r0, x_r1, x_r2, l_r, x_v0, x_v1, x_v2, l_v]) rfl ⟨rfl, ((((((bb.setCell (p := ⟨w.heap.size + 1 + 1 + 1, 0, none⟩) (by simp; omega) _).setCell (p := ⟨w.heap.size + 1 + 1 + 1, 1, none⟩) (by simp; omega) _).setCell (p := ⟨w.heap.size + 1 + 1 + 1, 2, none⟩) (by simp; omega) _)).setCell (p := ⟨w.heap.size + 1 + 1, 0, none⟩) (by first | exact Nat.le_refl _ | (simp; done) | (simp; omega) | omega) _).setCell (p := ⟨w.heap.size + 1 + 1, 1, none⟩) (by first | exact Nat.le_refl _ | (simp; done) | (simp; omega) | omega) _).setCell (p := ⟨w.heap.size + 1 + 1, 2, none⟩) (by first | exact Nat.le_refl _ | (simp; done) | (simp; omega) | omega) _⟩
set_option maxHeartbeats 4000000 in
set_option maxRecDepth 100000 in
theorem reckon_div_false (w : World) (p q p' q' x y : Int) (C1 : ∀ W, Calls Tryd.prog 57 #[VN p q, VN p' q'] W (Ret (.tuple #[VN x y, .bool false]) W)) : Calls Tryd.prog 37 #[.string ⟨#[47]⟩, VN p q, VN p' q'] w (Ret (.tuple #[VS 0 0 ⟨#[]⟩, .int .i64 2]) w) := by
  have H1 := Lib.hid C1
  clear C1
  go_enter Tryd.func37, Tryd.ntmps37
  go_wp2_with fail
  have k_a := (((Blk.new w 27 #[.int .i64 p, .int .i64 q, .string ⟨#[]⟩]).alloc (.cells #[.int .i64 (p'), .int .i64 (q'), .string ⟨#[]⟩] 27)).alloc (.cells #[.int .i64 0, .int .i64 0, .string ⟨#[]⟩] 27)).alloc (.cells #[.int .i64 0, .int .i64 0, .string ⟨#[]⟩] 27)
  have k_b := ((Blk.new (w.alloc (.cells #[.int .i64 p, .int .i64 q, .string ⟨#[]⟩] 27)) 27 #[.int .i64 (p'), .int .i64 (q'), .string ⟨#[]⟩]).alloc (.cells #[.int .i64 0, .int .i64 0, .string ⟨#[]⟩] 27)).alloc (.cells #[.int .i64 0, .int .i64 0, .string ⟨#[]⟩] 27)
  rw [World.size_alloc] at k_b
  have k_r := (Blk.new ((w.alloc (.cells #[.int .i64 p, .int .i64 q, .string ⟨#[]⟩] 27)).alloc (.cells #[.int .i64 (p'), .int .i64 (q'), .string ⟨#[]⟩] 27)) 27 #[.int .i64 0, .int .i64 0, .string ⟨#[]⟩]).alloc (.cells #[.int .i64 0, .int .i64 0, .string ⟨#[]⟩] 27)
  rw [World.size_alloc, World.size_alloc] at k_r
  have k_v := Blk.new (((w.alloc (.cells #[.int .i64 p, .int .i64 q, .string ⟨#[]⟩] 27)).alloc (.cells #[.int .i64 (p'), .int .i64 (q'), .string ⟨#[]⟩] 27)).alloc (.cells #[.int .i64 0, .int .i64 0, .string ⟨#[]⟩] 27)) 27 #[.int .i64 0, .int .i64 0, .string ⟨#[]⟩]
  rw [World.size_alloc, World.size_alloc, World.size_alloc] at k_v
  have bb : Below w.heap.size w _ := (((((Below.refl _ _).alloc (Nat.le_refl _) (.cells #[.int .i64 p, .int .i64 q, .string ⟨#[]⟩] 27)).alloc (by simp) (.cells #[.int .i64 (p'), .int .i64 (q'), .string ⟨#[]⟩] 27)).alloc (by simp; omega) (.cells #[.int .i64 0, .int .i64 0, .string ⟨#[]⟩] 27)).alloc (by simp; omega) (.cells #[.int .i64 0, .int .i64 0, .string ⟨#[]⟩] 27))
  generalize ((((w.alloc (.cells #[.int .i64 p, .int .i64 q, .string ⟨#[]⟩] 27)).alloc (.cells #[.int .i64 (p'), .int .i64 (q'), .string ⟨#[]⟩] 27)).alloc (.cells #[.int .i64 0, .int .i64 0, .string ⟨#[]⟩] 27)).alloc (.cells #[.int .i64 0, .int .i64 0, .string ⟨#[]⟩] 27)) = W0 at *
  refine (H1.out _).mono ?_
  rintro e w1 ⟨rfl, b1⟩
  have k_a := k_a.below b1 k_a.lt
  have k_b := k_b.below b1 k_b.lt
  have k_r := k_r.below b1 k_r.lt
  have k_v := k_v.below b1 k_v.lt
  have bb := bb.trans (b1.mono bb.size)
  have x_a0 : w1.cell? ⟨w.heap.size, 0, none⟩ = some (.int .i64 p) := by rw [k_a.cell]; rfl
  have x_a1 : w1.cell? ⟨w.heap.size, 1, none⟩ = some (.int .i64 q) := by rw [k_a.cell]; rfl
  have x_a2 : w1.cell? ⟨w.heap.size, 2, none⟩ = some (.string ⟨#[]⟩) := by rw [k_a.cell]; rfl
  have l_a := k_a.lt
  have x_b0 : w1.cell? ⟨w.heap.size + 1, 0, none⟩ = some (.int .i64 (p')) := by rw [k_b.cell]; rfl
  have x_b1 : w1.cell? ⟨w.heap.size + 1, 1, none⟩ = some (.int .i64 (q')) := by rw [k_b.cell]; rfl
  have x_b2 : w1.cell? ⟨w.heap.size + 1, 2, none⟩ = some (.string ⟨#[]⟩) := by rw [k_b.cell]; rfl
  have l_b := k_b.lt
  have x_r0 : w1.cell? ⟨w.heap.size + 1 + 1, 0, none⟩ = some (.int .i64 0) := by rw [k_r.cell]; rfl
  have x_r1 : w1.cell? ⟨w.heap.size + 1 + 1, 1, none⟩ = some (.int .i64 0) := by rw [k_r.cell]; rfl
  have x_r2 : w1.cell? ⟨w.heap.size + 1 + 1, 2, none⟩ = some (.string ⟨#[]⟩) := by rw [k_r.cell]; rfl
  have l_r := k_r.lt
  have x_v0 : w1.cell? ⟨w.heap.size + 1 + 1 + 1, 0, none⟩ = some (.int .i64 0) := by rw [k_v.cell]; rfl
  have x_v1 : w1.cell? ⟨w.heap.size + 1 + 1 + 1, 1, none⟩ = some (.int .i64 0) := by rw [k_v.cell]; rfl
  have x_v2 : w1.cell? ⟨w.heap.size + 1 + 1 + 1, 2, none⟩ = some (.string ⟨#[]⟩) := by rw [k_v.cell]; rfl
  have l_v := k_v.lt
  have z_v0 := k_v.frozen 0
  have z_v1 := k_v.frozen 1
  have z_v2 := k_v.frozen 2
  have z_r0 := k_r.frozen 0
  have z_r1 := k_r.frozen 1
  have z_r2 := k_r.frozen 2
  go_wp2
  exact bodyPost_ret (v := .tuple #[VS 0 0 ⟨#[]⟩, .int .i64 2]) (by simp [results, Tryd.results37, go_sem, x_r0, x_r1, x_r2, l_r, x_v0, x_v1, x_v2, l_v]) rfl ⟨rfl, ((((((bb.setCell (p := ⟨w.heap.size + 1 + 1 + 1, 0, none⟩) (by simp; omega) _).setCell (p := ⟨w.heap.size + 1 + 1 + 1, 1, none⟩) (by simp; omega) _).setCell (p := ⟨w.heap.size + 1 + 1 + 1, 2, none⟩) (by simp; omega) _)).setCell (p := ⟨w.heap.size + 1 + 1, 0, none⟩) (by first | exact Nat.le_refl _ | (simp; done) | (simp; omega) | omega) _).setCell (p := ⟨w.heap.size + 1 + 1, 1, none⟩) (by first | exact Nat.le_refl _ | (simp; done) | (simp; omega) | omega) _).setCell (p := ⟨w.heap.size + 1 + 1, 2, none⟩) (by first | exact Nat.le_refl _ | (simp; done) | (simp; omega) | omega) _⟩
set_option maxHeartbeats 4000000 in
set_option maxRecDepth 100000 in
theorem reckon_rem (w : World) (p q p' q' x y : Int) (C1 : ∀ W, Calls Tryd.prog 58 #[VN p q, VN p' q'] W (Ret (VN x y) W)) : Calls Tryd.prog 37 #[.string ⟨#[37]⟩, VN p q, VN p' q'] w (Ret (.tuple #[VS x y ⟨#[]⟩, .int .i64 0]) w) := by
  have H1 := Lib.hid C1
  clear C1
  go_enter Tryd.func37, Tryd.ntmps37
  go_wp2_with fail
  have k_a := (((Blk.new w 27 #[.int .i64 p, .int .i64 q, .string ⟨#[]⟩]).alloc (.cells #[.int .i64 (p'), .int .i64 (q'), .string ⟨#[]⟩] 27)).alloc (.cells #[.int .i64 0, .int .i64 0, .string ⟨#[]⟩] 27)).alloc (.cells #[.int .i64 0, .int .i64 0, .string ⟨#[]⟩] 27)
  have k_b := ((Blk.new (w.alloc (.cells #[.int .i64 p, .int .i64 q, .string ⟨#[]⟩] 27)) 27 #[.int .i64 (p'), .int .i64 (q'), .string ⟨#[]⟩]).alloc (.cells #[.int .i64 0, .int .i64 0, .string ⟨#[]⟩] 27)).alloc (.cells #[.int .i64 0, .int .i64 0, .string ⟨#[]⟩] 27)
  rw [World.size_alloc] at k_b
  have k_r := (Blk.new ((w.alloc (.cells #[.int .i64 p, .int .i64 q, .string ⟨#[]⟩] 27)).alloc (.cells #[.int .i64 (p'), .int .i64 (q'), .string ⟨#[]⟩] 27)) 27 #[.int .i64 0, .int .i64 0, .string ⟨#[]⟩]).alloc (.cells #[.int .i64 0, .int .i64 0, .string ⟨#[]⟩] 27)
  rw [World.size_alloc, World.size_alloc] at k_r
  have k_v := Blk.new (((w.alloc (.cells #[.int .i64 p, .int .i64 q, .string ⟨#[]⟩] 27)).alloc (.cells #[.int .i64 (p'), .int .i64 (q'), .string ⟨#[]⟩] 27)).alloc (.cells #[.int .i64 0, .int .i64 0, .string ⟨#[]⟩] 27)) 27 #[.int .i64 0, .int .i64 0, .string ⟨#[]⟩]
  rw [World.size_alloc, World.size_alloc, World.size_alloc] at k_v
  have bb : Below w.heap.size w _ := (((((Below.refl _ _).alloc (Nat.le_refl _) (.cells #[.int .i64 p, .int .i64 q, .string ⟨#[]⟩] 27)).alloc (by simp) (.cells #[.int .i64 (p'), .int .i64 (q'), .string ⟨#[]⟩] 27)).alloc (by simp; omega) (.cells #[.int .i64 0, .int .i64 0, .string ⟨#[]⟩] 27)).alloc (by simp; omega) (.cells #[.int .i64 0, .int .i64 0, .string ⟨#[]⟩] 27))
  generalize ((((w.alloc (.cells #[.int .i64 p, .int .i64 q, .string ⟨#[]⟩] 27)).alloc (.cells #[.int .i64 (p'), .int .i64 (q'), .string ⟨#[]⟩] 27)).alloc (.cells #[.int .i64 0, .int .i64 0, .string ⟨#[]⟩] 27)).alloc (.cells #[.int .i64 0, .int .i64 0, .string ⟨#[]⟩] 27)) = W0 at *
  refine (H1.out _).mono ?_
  rintro e w1 ⟨rfl, b1⟩
  have k_a := k_a.below b1 k_a.lt
  have k_b := k_b.below b1 k_b.lt
  have k_r := k_r.below b1 k_r.lt
  have k_v := k_v.below b1 k_v.lt
  have bb := bb.trans (b1.mono bb.size)
  have x_a0 : w1.cell? ⟨w.heap.size, 0, none⟩ = some (.int .i64 p) := by rw [k_a.cell]; rfl
  have x_a1 : w1.cell? ⟨w.heap.size, 1, none⟩ = some (.int .i64 q) := by rw [k_a.cell]; rfl
  have x_a2 : w1.cell? ⟨w.heap.size, 2, none⟩ = some (.string ⟨#[]⟩) := by rw [k_a.cell]; rfl
  have l_a := k_a.lt
  have x_b0 : w1.cell? ⟨w.heap.size + 1, 0, none⟩ = some (.int .i64 (p')) := by rw [k_b.cell]; rfl
  have x_b1 : w1.cell? ⟨w.heap.size + 1, 1, none⟩ = some (.int .i64 (q')) := by rw [k_b.cell]; rfl
  have x_b2 : w1.cell? ⟨w.heap.size + 1, 2, none⟩ = some (.string ⟨#[]⟩) := by rw [k_b.cell]; rfl
  have l_b := k_b.lt
  have x_r0 : w1.cell? ⟨w.heap.size + 1 + 1, 0, none⟩ = some (.int .i64 0) := by rw [k_r.cell]; rfl
  have x_r1 : w1.cell? ⟨w.heap.size + 1 + 1, 1, none⟩ = some (.int .i64 0) := by rw [k_r.cell]; rfl
  have x_r2 : w1.cell? ⟨w.heap.size + 1 + 1, 2, none⟩ = some (.string ⟨#[]⟩) := by rw [k_r.cell]; rfl
  have l_r := k_r.lt
  have x_v0 : w1.cell? ⟨w.heap.size + 1 + 1 + 1, 0, none⟩ = some (.int .i64 0) := by rw [k_v.cell]; rfl
  have x_v1 : w1.cell? ⟨w.heap.size + 1 + 1 + 1, 1, none⟩ = some (.int .i64 0) := by rw [k_v.cell]; rfl
  have x_v2 : w1.cell? ⟨w.heap.size + 1 + 1 + 1, 2, none⟩ = some (.string ⟨#[]⟩) := by rw [k_v.cell]; rfl
  have l_v := k_v.lt
  have z_v0 := k_v.frozen 0
  have z_v1 := k_v.frozen 1
  have z_v2 := k_v.frozen 2
  have z_r0 := k_r.frozen 0
  have z_r1 := k_r.frozen 1
  have z_r2 := k_r.frozen 2
  go_wp2
  exact bodyPost_ret (v := .tuple #[VS x y ⟨#[]⟩, .int .i64 0]) (by simp [results, Tryd.results37, go_sem, x_r0, x_r1, x_r2, l_r, x_v0, x_v1, x_v2, l_v]) rfl ⟨rfl, ((((((bb.setCell (p := ⟨w.heap.size + 1 + 1 + 1, 0, none⟩) (by simp; omega) _).setCell (p := ⟨w.heap.size + 1 + 1 + 1, 1, none⟩) (by simp; omega) _).setCell (p := ⟨w.heap.size + 1 + 1 + 1, 2, none⟩) (by simp; omega) _)).setCell (p := ⟨w.heap.size + 1 + 1, 0, none⟩) (by first | exact Nat.le_refl _ | (simp; done) | (simp; omega) | omega) _).setCell (p := ⟨w.heap.size + 1 + 1, 1, none⟩) (by first | exact Nat.le_refl _ | (simp; done) | (simp; omega) | omega) _).setCell (p := ⟨w.heap.size + 1 + 1, 2, none⟩) (by first | exact Nat.le_refl _ | (simp; done) | (simp; omega) | omega) _⟩
set_option maxHeartbeats 4000000 in
set_option maxRecDepth 100000 in
theorem reckon_q (w : World) (p q p' q' : Int) : Calls Tryd.prog 37 #[.string ⟨#[63]⟩, VN p q, VN p' q'] w (Ret (.tuple #[VS 0 0 ⟨#[]⟩, .int .i64 2]) w) := by
  go_enter Tryd.func37, Tryd.ntmps37
  go_wp2
  exact bodyPost_ret (v := .tuple #[VS 0 0 ⟨#[]⟩, .int .i64 2]) (by simp [results, Tryd.results37, go_sem]) rfl ⟨rfl, ((((Below.refl _ _).alloc (Nat.le_refl _) _).alloc (by simp) _).alloc (by simp; omega) _).alloc (by simp; omega) _⟩
set_option maxHeartbeats 4000000 in
set_option maxRecDepth 100000 in
theorem bin_eq (w : World) (r : Bool) (C1 : ∀ W, Calls Tryd.prog 22 #[VS k n s, VS k' n' s'] W (Ret (.bool r) W)) : Calls Tryd.prog 11 #[.string ⟨#[61, 61, 61]⟩, VS k n s, VS k' n' s'] w (Ret (.tuple #[VS 2 (tN (r)) ⟨#[]⟩, .int .i64 0]) w) := by
  have H1 := Lib.hid C1
  clear C1
  have HT := Lib.hid (fun b W => truth_any b W)
  cases r
  all_goals
    go_enter Tryd.func11, Tryd.ntmps11
    go_wp2_with fail
    have k_a := ((Blk.new w 27 #[.int .i64 k, .int .i64 n, .string s]).alloc (.cells #[.int .i64 (k'), .int .i64 (n'), .string (s')] 27)).alloc (.cells #[.int .i64 0, .int .i64 0, .string ⟨#[]⟩] 27)
    have k_b := (Blk.new (w.alloc (.cells #[.int .i64 k, .int .i64 n, .string s] 27)) 27 #[.int .i64 (k'), .int .i64 (n'), .string (s')]).alloc (.cells #[.int .i64 0, .int .i64 0, .string ⟨#[]⟩] 27)
    rw [World.size_alloc] at k_b
    have k_r := Blk.new ((w.alloc (.cells #[.int .i64 k, .int .i64 n, .string s] 27)).alloc (.cells #[.int .i64 (k'), .int .i64 (n'), .string (s')] 27)) 27 #[.int .i64 0, .int .i64 0, .string ⟨#[]⟩]
    rw [World.size_alloc, World.size_alloc] at k_r
    have bb : Below w.heap.size w _ := ((((Below.refl _ _).alloc (Nat.le_refl _) (.cells #[.int .i64 k, .int .i64 n, .string s] 27)).alloc (by simp) (.cells #[.int .i64 (k'), .int .i64 (n'), .string (s')] 27)).alloc (by simp; omega) (.cells #[.int .i64 0, .int .i64 0, .string ⟨#[]⟩] 27))
    generalize (((w.alloc (.cells #[.int .i64 k, .int .i64 n, .string s] 27)).alloc (.cells #[.int .i64 (k'), .int .i64 (n'), .string (s')] 27)).alloc (.cells #[.int .i64 0, .int .i64 0, .string ⟨#[]⟩] 27)) = W0 at *
    refine (H1.out _).mono ?_
    rintro e w1 ⟨rfl, b1⟩
    have k_a := k_a.below b1 k_a.lt
    have k_b := k_b.below b1 k_b.lt
    have k_r := k_r.below b1 k_r.lt
    have bb := bb.trans (b1.mono bb.size)
    have x_a0 : w1.cell? ⟨w.heap.size, 0, none⟩ = some (.int .i64 k) := by rw [k_a.cell]; rfl
    have x_a1 : w1.cell? ⟨w.heap.size, 1, none⟩ = some (.int .i64 n) := by rw [k_a.cell]; rfl
    have x_a2 : w1.cell? ⟨w.heap.size, 2, none⟩ = some (.string s) := by rw [k_a.cell]; rfl
    have l_a := k_a.lt
    have x_b0 : w1.cell? ⟨w.heap.size + 1, 0, none⟩ = some (.int .i64 (k')) := by rw [k_b.cell]; rfl
    have x_b1 : w1.cell? ⟨w.heap.size + 1, 1, none⟩ = some (.int .i64 (n')) := by rw [k_b.cell]; rfl
    have x_b2 : w1.cell? ⟨w.heap.size + 1, 2, none⟩ = some (.string (s')) := by rw [k_b.cell]; rfl
    have l_b := k_b.lt
    have x_r0 : w1.cell? ⟨w.heap.size + 1 + 1, 0, none⟩ = some (.int .i64 0) := by rw [k_r.cell]; rfl
    have x_r1 : w1.cell? ⟨w.heap.size + 1 + 1, 1, none⟩ = some (.int .i64 0) := by rw [k_r.cell]; rfl
    have x_r2 : w1.cell? ⟨w.heap.size + 1 + 1, 2, none⟩ = some (.string ⟨#[]⟩) := by rw [k_r.cell]; rfl
    have l_r := k_r.lt
    go_wp2_with fail
    refine (HT.out _ _).mono ?_
    rintro e w2 ⟨rfl, b2⟩
    clear x_a0 x_a1 x_a2 l_a x_b0 x_b1 x_b2 l_b x_r0 x_r1 x_r2 l_r
    have k_a := k_a.below b2 k_a.lt
    have k_b := k_b.below b2 k_b.lt
    have k_r := k_r.below b2 k_r.lt
    have bb := bb.trans (b2.mono bb.size)
    have x_a0 : w2.cell? ⟨w.heap.size, 0, none⟩ = some (.int .i64 k) := by rw [k_a.cell]; rfl
    have x_a1 : w2.cell? ⟨w.heap.size, 1, none⟩ = some (.int .i64 n) := by rw [k_a.cell]; rfl
    have x_a2 : w2.cell? ⟨w.heap.size, 2, none⟩ = some (.string s) := by rw [k_a.cell]; rfl
    have l_a := k_a.lt
    have x_b0 : w2.cell? ⟨w.heap.size + 1, 0, none⟩ = some (.int .i64 (k')) := by rw [k_b.cell]; rfl
    have x_b1 : w2.cell? ⟨w.heap.size + 1, 1, none⟩ = some (.int .i64 (n')) := by rw [k_b.cell]; rfl
    have x_b2 : w2.cell? ⟨w.heap.size + 1, 2, none⟩ = some (.string (s')) := by rw [k_b.cell]; rfl
    have l_b := k_b.lt
    have x_r0 : w2.cell? ⟨w.heap.size + 1 + 1, 0, none⟩ = some (.int .i64 0) := by rw [k_r.cell]; rfl
    have x_r1 : w2.cell? ⟨w.heap.size + 1 + 1, 1, none⟩ = some (.int .i64 0) := by rw [k_r.cell]; rfl
    have x_r2 : w2.cell? ⟨w.heap.size + 1 + 1, 2, none⟩ = some (.string ⟨#[]⟩) := by rw [k_r.cell]; rfl
    have l_r := k_r.lt
    have z_r0 := k_r.frozen 0
    have z_r1 := k_r.frozen 1
    have z_r2 := k_r.frozen 2
    go_wp2
    exact bodyPost_ret (v := .tuple #[VS 2 _ ⟨#[]⟩, .int .i64 0]) (by simp [results, Tryd.results11, go_sem, x_r0, x_r1, x_r2, l_r]) rfl ⟨rfl, (((bb).setCell (p := ⟨w.heap.size + 1 + 1, 0, none⟩) (by first | exact Nat.le_refl _ | (simp; done) | (simp; omega) | omega) _).setCell (p := ⟨w.heap.size + 1 + 1, 1, none⟩) (by first | exact Nat.le_refl _ | (simp; done) | (simp; omega) | omega) _).setCell (p := ⟨w.heap.size + 1 + 1, 2, none⟩) (by first | exact Nat.le_refl _ | (simp; done) | (simp; omega) | omega) _⟩
set_option maxHeartbeats 4000000 in
set_option maxRecDepth 100000 in
theorem bin_ne (w : World) (r : Bool) (C1 : ∀ W, Calls Tryd.prog 22 #[VS k n s, VS k' n' s'] W (Ret (.bool r) W)) : Calls Tryd.prog 11 #[.string ⟨#[33, 61, 61]⟩, VS k n s, VS k' n' s'] w (Ret (.tuple #[VS 2 (tN (!r)) ⟨#[]⟩, .int .i64 0]) w) := by
  have H1 := Lib.hid C1
  clear C1
  have HT := Lib.hid (fun b W => truth_any b W)
  cases r
  all_goals
    go_enter Tryd.func11, Tryd.ntmps11
    go_wp2_with fail
    have k_a := ((Blk.new w 27 #[.int .i64 k, .int .i64 n, .string s]).alloc (.cells #[.int .i64 (k'), .int .i64 (n'), .string (s')] 27)).alloc (.cells #[.int .i64 0, .int .i64 0, .string ⟨#[]⟩] 27)
    have k_b := (Blk.new (w.alloc (.cells #[.int .i64 k, .int .i64 n, .string s] 27)) 27 #[.int .i64 (k'), .int .i64 (n'), .string (s')]).alloc (.cells #[.int .i64 0, .int .i64 0, .string ⟨#[]⟩] 27)
    rw [World.size_alloc] at k_b
    have k_r := Blk.new ((w.alloc (.cells #[.int .i64 k, .int .i64 n, .string s] 27)).alloc (.cells #[.int .i64 (k'), .int .i64 (n'), .string (s')] 27)) 27 #[.int .i64 0, .int .i64 0, .string ⟨#[]⟩]
    rw [World.size_alloc, World.size_alloc] at k_r
    have bb : Below w.heap.size w _ := ((((Below.refl _ _).alloc (Nat.le_refl _) (.cells #[.int .i64 k, .int .i64 n, .string s] 27)).alloc (by simp) (.cells #[.int .i64 (k'), .int .i64 (n'), .string (s')] 27)).alloc (by simp; omega) (.cells #[.int .i64 0, .int .i64 0, .string ⟨#[]⟩] 27))
    generalize (((w.alloc (.cells #[.int .i64 k, .int .i64 n, .string s] 27)).alloc (.cells #[.int .i64 (k'), .int .i64 (n'), .string (s')] 27)).alloc (.cells #[.int .i64 0, .int .i64 0, .string ⟨#[]⟩] 27)) = W0 at *
    refine (H1.out _).mono ?_
    rintro e w1 ⟨rfl, b1⟩
    have k_a := k_a.below b1 k_a.lt
    have k_b := k_b.below b1 k_b.lt
    have k_r := k_r.below b1 k_r.lt
    have bb := bb.trans (b1.mono bb.size)
    have x_a0 : w1.cell? ⟨w.heap.size, 0, none⟩ = some (.int .i64 k) := by rw [k_a.cell]; rfl
    have x_a1 : w1.cell? ⟨w.heap.size, 1, none⟩ = some (.int .i64 n) := by rw [k_a.cell]; rfl
    have x_a2 : w1.cell? ⟨w.heap.size, 2, none⟩ = some (.string s) := by rw [k_a.cell]; rfl
    have l_a := k_a.lt
    have x_b0 : w1.cell? ⟨w.heap.size + 1, 0, none⟩ = some (.int .i64 (k')) := by rw [k_b.cell]; rfl
    have x_b1 : w1.cell? ⟨w.heap.size + 1, 1, none⟩ = some (.int .i64 (n')) := by rw [k_b.cell]; rfl
    have x_b2 : w1.cell? ⟨w.heap.size + 1, 2, none⟩ = some (.string (s')) := by rw [k_b.cell]; rfl
    have l_b := k_b.lt
    have x_r0 : w1.cell? ⟨w.heap.size + 1 + 1, 0, none⟩ = some (.int .i64 0) := by rw [k_r.cell]; rfl
    have x_r1 : w1.cell? ⟨w.heap.size + 1 + 1, 1, none⟩ = some (.int .i64 0) := by rw [k_r.cell]; rfl
    have x_r2 : w1.cell? ⟨w.heap.size + 1 + 1, 2, none⟩ = some (.string ⟨#[]⟩) := by rw [k_r.cell]; rfl
    have l_r := k_r.lt
    go_wp2_with fail
    refine (HT.out _ _).mono ?_
    rintro e w2 ⟨rfl, b2⟩
    clear x_a0 x_a1 x_a2 l_a x_b0 x_b1 x_b2 l_b x_r0 x_r1 x_r2 l_r
    have k_a := k_a.below b2 k_a.lt
    have k_b := k_b.below b2 k_b.lt
    have k_r := k_r.below b2 k_r.lt
    have bb := bb.trans (b2.mono bb.size)
    have x_a0 : w2.cell? ⟨w.heap.size, 0, none⟩ = some (.int .i64 k) := by rw [k_a.cell]; rfl
    have x_a1 : w2.cell? ⟨w.heap.size, 1, none⟩ = some (.int .i64 n) := by rw [k_a.cell]; rfl
    have x_a2 : w2.cell? ⟨w.heap.size, 2, none⟩ = some (.string s) := by rw [k_a.cell]; rfl
    have l_a := k_a.lt
    have x_b0 : w2.cell? ⟨w.heap.size + 1, 0, none⟩ = some (.int .i64 (k')) := by rw [k_b.cell]; rfl
    have x_b1 : w2.cell? ⟨w.heap.size + 1, 1, none⟩ = some (.int .i64 (n')) := by rw [k_b.cell]; rfl
    have x_b2 : w2.cell? ⟨w.heap.size + 1, 2, none⟩ = some (.string (s')) := by rw [k_b.cell]; rfl
    have l_b := k_b.lt
    have x_r0 : w2.cell? ⟨w.heap.size + 1 + 1, 0, none⟩ = some (.int .i64 0) := by rw [k_r.cell]; rfl
    have x_r1 : w2.cell? ⟨w.heap.size + 1 + 1, 1, none⟩ = some (.int .i64 0) := by rw [k_r.cell]; rfl
    have x_r2 : w2.cell? ⟨w.heap.size + 1 + 1, 2, none⟩ = some (.string ⟨#[]⟩) := by rw [k_r.cell]; rfl
    have l_r := k_r.lt
    have z_r0 := k_r.frozen 0
    have z_r1 := k_r.frozen 1
    have z_r2 := k_r.frozen 2
    go_wp2
    exact bodyPost_ret (v := .tuple #[VS 2 _ ⟨#[]⟩, .int .i64 0]) (by simp [results, Tryd.results11, go_sem, x_r0, x_r1, x_r2, l_r]) rfl ⟨rfl, (((bb).setCell (p := ⟨w.heap.size + 1 + 1, 0, none⟩) (by first | exact Nat.le_refl _ | (simp; done) | (simp; omega) | omega) _).setCell (p := ⟨w.heap.size + 1 + 1, 1, none⟩) (by first | exact Nat.le_refl _ | (simp; done) | (simp; omega) | omega) _).setCell (p := ⟨w.heap.size + 1 + 1, 2, none⟩) (by first | exact Nat.le_refl _ | (simp; done) | (simp; omega) | omega) _⟩
set_option maxHeartbeats 4000000 in
set_option maxRecDepth 100000 in
theorem bin_join_x (w : World) (K N E : Int) (Z : ByteArray) (hk : (k == 7) = true) (C1 : ∀ W, Below w.heap.size w W → Calls Tryd.prog 35 #[VS k n s, VS k' n' s'] W (Ret (.tuple #[VS K N Z, .int .i64 E]) W)) : Calls Tryd.prog 11 #[.string ⟨#[43]⟩, VS k n s, VS k' n' s'] w (Ret (.tuple #[VS K N Z, .int .i64 E]) w) := by
  have H1 := Lib.hid C1
  clear C1
  go_enter Tryd.func11, Tryd.ntmps11
  go_wp2_with fail
  have k_a := ((Blk.new w 27 #[.int .i64 k, .int .i64 n, .string s]).alloc (.cells #[.int .i64 (k'), .int .i64 (n'), .string (s')] 27)).alloc (.cells #[.int .i64 0, .int .i64 0, .string ⟨#[]⟩] 27)
  have k_b := (Blk.new (w.alloc (.cells #[.int .i64 k, .int .i64 n, .string s] 27)) 27 #[.int .i64 (k'), .int .i64 (n'), .string (s')]).alloc (.cells #[.int .i64 0, .int .i64 0, .string ⟨#[]⟩] 27)
  rw [World.size_alloc] at k_b
  have k_r := Blk.new ((w.alloc (.cells #[.int .i64 k, .int .i64 n, .string s] 27)).alloc (.cells #[.int .i64 (k'), .int .i64 (n'), .string (s')] 27)) 27 #[.int .i64 0, .int .i64 0, .string ⟨#[]⟩]
  rw [World.size_alloc, World.size_alloc] at k_r
  have bb : Below w.heap.size w _ := ((((Below.refl _ _).alloc (Nat.le_refl _) (.cells #[.int .i64 k, .int .i64 n, .string s] 27)).alloc (by simp) (.cells #[.int .i64 (k'), .int .i64 (n'), .string (s')] 27)).alloc (by simp; omega) (.cells #[.int .i64 0, .int .i64 0, .string ⟨#[]⟩] 27))
  generalize (((w.alloc (.cells #[.int .i64 k, .int .i64 n, .string s] 27)).alloc (.cells #[.int .i64 (k'), .int .i64 (n'), .string (s')] 27)).alloc (.cells #[.int .i64 0, .int .i64 0, .string ⟨#[]⟩] 27)) = W0 at *
  refine (H1.out _ bb).mono ?_
  rintro e w1 ⟨rfl, b1⟩
  have k_a := k_a.below b1 k_a.lt
  have k_b := k_b.below b1 k_b.lt
  have k_r := k_r.below b1 k_r.lt
  have bb := bb.trans (b1.mono bb.size)
  have x_a0 : w1.cell? ⟨w.heap.size, 0, none⟩ = some (.int .i64 k) := by rw [k_a.cell]; rfl
  have x_a1 : w1.cell? ⟨w.heap.size, 1, none⟩ = some (.int .i64 n) := by rw [k_a.cell]; rfl
  have x_a2 : w1.cell? ⟨w.heap.size, 2, none⟩ = some (.string s) := by rw [k_a.cell]; rfl
  have l_a := k_a.lt
  have x_b0 : w1.cell? ⟨w.heap.size + 1, 0, none⟩ = some (.int .i64 (k')) := by rw [k_b.cell]; rfl
  have x_b1 : w1.cell? ⟨w.heap.size + 1, 1, none⟩ = some (.int .i64 (n')) := by rw [k_b.cell]; rfl
  have x_b2 : w1.cell? ⟨w.heap.size + 1, 2, none⟩ = some (.string (s')) := by rw [k_b.cell]; rfl
  have l_b := k_b.lt
  have x_r0 : w1.cell? ⟨w.heap.size + 1 + 1, 0, none⟩ = some (.int .i64 0) := by rw [k_r.cell]; rfl
  have x_r1 : w1.cell? ⟨w.heap.size + 1 + 1, 1, none⟩ = some (.int .i64 0) := by rw [k_r.cell]; rfl
  have x_r2 : w1.cell? ⟨w.heap.size + 1 + 1, 2, none⟩ = some (.string ⟨#[]⟩) := by rw [k_r.cell]; rfl
  have l_r := k_r.lt
  have z_r0 := k_r.frozen 0
  have z_r1 := k_r.frozen 1
  have z_r2 := k_r.frozen 2
  go_wp2
  exact bodyPost_ret (v := .tuple #[VS K N Z, .int .i64 E]) (by simp [results, Tryd.results11, go_sem, x_r0, x_r1, x_r2, l_r]) rfl ⟨rfl, (((bb).setCell (p := ⟨w.heap.size + 1 + 1, 0, none⟩) (by first | exact Nat.le_refl _ | (simp; done) | (simp; omega) | omega) _).setCell (p := ⟨w.heap.size + 1 + 1, 1, none⟩) (by first | exact Nat.le_refl _ | (simp; done) | (simp; omega) | omega) _).setCell (p := ⟨w.heap.size + 1 + 1, 2, none⟩) (by first | exact Nat.le_refl _ | (simp; done) | (simp; omega) | omega) _⟩
set_option maxHeartbeats 4000000 in
set_option maxRecDepth 100000 in
theorem bin_join_y (w : World) (K N E : Int) (Z : ByteArray) (hk : (k == 7) = false) (hk' : (k' == 7) = true) (C1 : ∀ W, Below w.heap.size w W → Calls Tryd.prog 35 #[VS k n s, VS k' n' s'] W (Ret (.tuple #[VS K N Z, .int .i64 E]) W)) : Calls Tryd.prog 11 #[.string ⟨#[43]⟩, VS k n s, VS k' n' s'] w (Ret (.tuple #[VS K N Z, .int .i64 E]) w) := by
  have H1 := Lib.hid C1
  clear C1
  go_enter Tryd.func11, Tryd.ntmps11
  go_wp2_with fail
  have k_a := ((Blk.new w 27 #[.int .i64 k, .int .i64 n, .string s]).alloc (.cells #[.int .i64 (k'), .int .i64 (n'), .string (s')] 27)).alloc (.cells #[.int .i64 0, .int .i64 0, .string ⟨#[]⟩] 27)
  have k_b := (Blk.new (w.alloc (.cells #[.int .i64 k, .int .i64 n, .string s] 27)) 27 #[.int .i64 (k'), .int .i64 (n'), .string (s')]).alloc (.cells #[.int .i64 0, .int .i64 0, .string ⟨#[]⟩] 27)
  rw [World.size_alloc] at k_b
  have k_r := Blk.new ((w.alloc (.cells #[.int .i64 k, .int .i64 n, .string s] 27)).alloc (.cells #[.int .i64 (k'), .int .i64 (n'), .string (s')] 27)) 27 #[.int .i64 0, .int .i64 0, .string ⟨#[]⟩]
  rw [World.size_alloc, World.size_alloc] at k_r
  have bb : Below w.heap.size w _ := ((((Below.refl _ _).alloc (Nat.le_refl _) (.cells #[.int .i64 k, .int .i64 n, .string s] 27)).alloc (by simp) (.cells #[.int .i64 (k'), .int .i64 (n'), .string (s')] 27)).alloc (by simp; omega) (.cells #[.int .i64 0, .int .i64 0, .string ⟨#[]⟩] 27))
  generalize (((w.alloc (.cells #[.int .i64 k, .int .i64 n, .string s] 27)).alloc (.cells #[.int .i64 (k'), .int .i64 (n'), .string (s')] 27)).alloc (.cells #[.int .i64 0, .int .i64 0, .string ⟨#[]⟩] 27)) = W0 at *
  refine (H1.out _ bb).mono ?_
  rintro e w1 ⟨rfl, b1⟩
  have k_a := k_a.below b1 k_a.lt
  have k_b := k_b.below b1 k_b.lt
  have k_r := k_r.below b1 k_r.lt
  have bb := bb.trans (b1.mono bb.size)
  have x_a0 : w1.cell? ⟨w.heap.size, 0, none⟩ = some (.int .i64 k) := by rw [k_a.cell]; rfl
  have x_a1 : w1.cell? ⟨w.heap.size, 1, none⟩ = some (.int .i64 n) := by rw [k_a.cell]; rfl
  have x_a2 : w1.cell? ⟨w.heap.size, 2, none⟩ = some (.string s) := by rw [k_a.cell]; rfl
  have l_a := k_a.lt
  have x_b0 : w1.cell? ⟨w.heap.size + 1, 0, none⟩ = some (.int .i64 (k')) := by rw [k_b.cell]; rfl
  have x_b1 : w1.cell? ⟨w.heap.size + 1, 1, none⟩ = some (.int .i64 (n')) := by rw [k_b.cell]; rfl
  have x_b2 : w1.cell? ⟨w.heap.size + 1, 2, none⟩ = some (.string (s')) := by rw [k_b.cell]; rfl
  have l_b := k_b.lt
  have x_r0 : w1.cell? ⟨w.heap.size + 1 + 1, 0, none⟩ = some (.int .i64 0) := by rw [k_r.cell]; rfl
  have x_r1 : w1.cell? ⟨w.heap.size + 1 + 1, 1, none⟩ = some (.int .i64 0) := by rw [k_r.cell]; rfl
  have x_r2 : w1.cell? ⟨w.heap.size + 1 + 1, 2, none⟩ = some (.string ⟨#[]⟩) := by rw [k_r.cell]; rfl
  have l_r := k_r.lt
  have z_r0 := k_r.frozen 0
  have z_r1 := k_r.frozen 1
  have z_r2 := k_r.frozen 2
  go_wp2
  exact bodyPost_ret (v := .tuple #[VS K N Z, .int .i64 E]) (by simp [results, Tryd.results11, go_sem, x_r0, x_r1, x_r2, l_r]) rfl ⟨rfl, (((bb).setCell (p := ⟨w.heap.size + 1 + 1, 0, none⟩) (by first | exact Nat.le_refl _ | (simp; done) | (simp; omega) | omega) _).setCell (p := ⟨w.heap.size + 1 + 1, 1, none⟩) (by first | exact Nat.le_refl _ | (simp; done) | (simp; omega) | omega) _).setCell (p := ⟨w.heap.size + 1 + 1, 2, none⟩) (by first | exact Nat.le_refl _ | (simp; done) | (simp; omega) | omega) _⟩
set_option maxHeartbeats 4000000 in
set_option maxRecDepth 100000 in
theorem bin_lt (w : World) (K N E : Int) (Z : ByteArray) (C1 : ∀ W, Calls Tryd.prog 36 #[.string ⟨#[60]⟩, VS k n s, VS k' n' s'] W (Ret (.tuple #[VS K N Z, .int .i64 E]) W)) : Calls Tryd.prog 11 #[.string ⟨#[60]⟩, VS k n s, VS k' n' s'] w (Ret (.tuple #[VS K N Z, .int .i64 E]) w) := by
  have H1 := Lib.hid C1
  clear C1
  go_enter Tryd.func11, Tryd.ntmps11
  go_wp2_with fail
  have k_a := ((Blk.new w 27 #[.int .i64 k, .int .i64 n, .string s]).alloc (.cells #[.int .i64 (k'), .int .i64 (n'), .string (s')] 27)).alloc (.cells #[.int .i64 0, .int .i64 0, .string ⟨#[]⟩] 27)
  have k_b := (Blk.new (w.alloc (.cells #[.int .i64 k, .int .i64 n, .string s] 27)) 27 #[.int .i64 (k'), .int .i64 (n'), .string (s')]).alloc (.cells #[.int .i64 0, .int .i64 0, .string ⟨#[]⟩] 27)
  rw [World.size_alloc] at k_b
  have k_r := Blk.new ((w.alloc (.cells #[.int .i64 k, .int .i64 n, .string s] 27)).alloc (.cells #[.int .i64 (k'), .int .i64 (n'), .string (s')] 27)) 27 #[.int .i64 0, .int .i64 0, .string ⟨#[]⟩]
  rw [World.size_alloc, World.size_alloc] at k_r
  have bb : Below w.heap.size w _ := ((((Below.refl _ _).alloc (Nat.le_refl _) (.cells #[.int .i64 k, .int .i64 n, .string s] 27)).alloc (by simp) (.cells #[.int .i64 (k'), .int .i64 (n'), .string (s')] 27)).alloc (by simp; omega) (.cells #[.int .i64 0, .int .i64 0, .string ⟨#[]⟩] 27))
  generalize (((w.alloc (.cells #[.int .i64 k, .int .i64 n, .string s] 27)).alloc (.cells #[.int .i64 (k'), .int .i64 (n'), .string (s')] 27)).alloc (.cells #[.int .i64 0, .int .i64 0, .string ⟨#[]⟩] 27)) = W0 at *
  refine (H1.out _).mono ?_
  rintro e w1 ⟨rfl, b1⟩
  have k_a := k_a.below b1 k_a.lt
  have k_b := k_b.below b1 k_b.lt
  have k_r := k_r.below b1 k_r.lt
  have bb := bb.trans (b1.mono bb.size)
  have x_a0 : w1.cell? ⟨w.heap.size, 0, none⟩ = some (.int .i64 k) := by rw [k_a.cell]; rfl
  have x_a1 : w1.cell? ⟨w.heap.size, 1, none⟩ = some (.int .i64 n) := by rw [k_a.cell]; rfl
  have x_a2 : w1.cell? ⟨w.heap.size, 2, none⟩ = some (.string s) := by rw [k_a.cell]; rfl
  have l_a := k_a.lt
  have x_b0 : w1.cell? ⟨w.heap.size + 1, 0, none⟩ = some (.int .i64 (k')) := by rw [k_b.cell]; rfl
  have x_b1 : w1.cell? ⟨w.heap.size + 1, 1, none⟩ = some (.int .i64 (n')) := by rw [k_b.cell]; rfl
  have x_b2 : w1.cell? ⟨w.heap.size + 1, 2, none⟩ = some (.string (s')) := by rw [k_b.cell]; rfl
  have l_b := k_b.lt
  have x_r0 : w1.cell? ⟨w.heap.size + 1 + 1, 0, none⟩ = some (.int .i64 0) := by rw [k_r.cell]; rfl
  have x_r1 : w1.cell? ⟨w.heap.size + 1 + 1, 1, none⟩ = some (.int .i64 0) := by rw [k_r.cell]; rfl
  have x_r2 : w1.cell? ⟨w.heap.size + 1 + 1, 2, none⟩ = some (.string ⟨#[]⟩) := by rw [k_r.cell]; rfl
  have l_r := k_r.lt
  have z_r0 := k_r.frozen 0
  have z_r1 := k_r.frozen 1
  have z_r2 := k_r.frozen 2
  go_wp2
  exact bodyPost_ret (v := .tuple #[VS K N Z, .int .i64 E]) (by simp [results, Tryd.results11, go_sem, x_r0, x_r1, x_r2, l_r]) rfl ⟨rfl, (((bb).setCell (p := ⟨w.heap.size + 1 + 1, 0, none⟩) (by first | exact Nat.le_refl _ | (simp; done) | (simp; omega) | omega) _).setCell (p := ⟨w.heap.size + 1 + 1, 1, none⟩) (by first | exact Nat.le_refl _ | (simp; done) | (simp; omega) | omega) _).setCell (p := ⟨w.heap.size + 1 + 1, 2, none⟩) (by first | exact Nat.le_refl _ | (simp; done) | (simp; omega) | omega) _⟩
set_option maxHeartbeats 4000000 in
set_option maxRecDepth 100000 in
theorem bin_gt (w : World) (K N E : Int) (Z : ByteArray) (C1 : ∀ W, Calls Tryd.prog 36 #[.string ⟨#[62]⟩, VS k n s, VS k' n' s'] W (Ret (.tuple #[VS K N Z, .int .i64 E]) W)) : Calls Tryd.prog 11 #[.string ⟨#[62]⟩, VS k n s, VS k' n' s'] w (Ret (.tuple #[VS K N Z, .int .i64 E]) w) := by
  have H1 := Lib.hid C1
  clear C1
  go_enter Tryd.func11, Tryd.ntmps11
  go_wp2_with fail
  have k_a := ((Blk.new w 27 #[.int .i64 k, .int .i64 n, .string s]).alloc (.cells #[.int .i64 (k'), .int .i64 (n'), .string (s')] 27)).alloc (.cells #[.int .i64 0, .int .i64 0, .string ⟨#[]⟩] 27)
  have k_b := (Blk.new (w.alloc (.cells #[.int .i64 k, .int .i64 n, .string s] 27)) 27 #[.int .i64 (k'), .int .i64 (n'), .string (s')]).alloc (.cells #[.int .i64 0, .int .i64 0, .string ⟨#[]⟩] 27)
  rw [World.size_alloc] at k_b
  have k_r := Blk.new ((w.alloc (.cells #[.int .i64 k, .int .i64 n, .string s] 27)).alloc (.cells #[.int .i64 (k'), .int .i64 (n'), .string (s')] 27)) 27 #[.int .i64 0, .int .i64 0, .string ⟨#[]⟩]
  rw [World.size_alloc, World.size_alloc] at k_r
  have bb : Below w.heap.size w _ := ((((Below.refl _ _).alloc (Nat.le_refl _) (.cells #[.int .i64 k, .int .i64 n, .string s] 27)).alloc (by simp) (.cells #[.int .i64 (k'), .int .i64 (n'), .string (s')] 27)).alloc (by simp; omega) (.cells #[.int .i64 0, .int .i64 0, .string ⟨#[]⟩] 27))
  generalize (((w.alloc (.cells #[.int .i64 k, .int .i64 n, .string s] 27)).alloc (.cells #[.int .i64 (k'), .int .i64 (n'), .string (s')] 27)).alloc (.cells #[.int .i64 0, .int .i64 0, .string ⟨#[]⟩] 27)) = W0 at *
  refine (H1.out _).mono ?_
  rintro e w1 ⟨rfl, b1⟩
  have k_a := k_a.below b1 k_a.lt
  have k_b := k_b.below b1 k_b.lt
  have k_r := k_r.below b1 k_r.lt
  have bb := bb.trans (b1.mono bb.size)
  have x_a0 : w1.cell? ⟨w.heap.size, 0, none⟩ = some (.int .i64 k) := by rw [k_a.cell]; rfl
  have x_a1 : w1.cell? ⟨w.heap.size, 1, none⟩ = some (.int .i64 n) := by rw [k_a.cell]; rfl
  have x_a2 : w1.cell? ⟨w.heap.size, 2, none⟩ = some (.string s) := by rw [k_a.cell]; rfl
  have l_a := k_a.lt
  have x_b0 : w1.cell? ⟨w.heap.size + 1, 0, none⟩ = some (.int .i64 (k')) := by rw [k_b.cell]; rfl
  have x_b1 : w1.cell? ⟨w.heap.size + 1, 1, none⟩ = some (.int .i64 (n')) := by rw [k_b.cell]; rfl
  have x_b2 : w1.cell? ⟨w.heap.size + 1, 2, none⟩ = some (.string (s')) := by rw [k_b.cell]; rfl
  have l_b := k_b.lt
  have x_r0 : w1.cell? ⟨w.heap.size + 1 + 1, 0, none⟩ = some (.int .i64 0) := by rw [k_r.cell]; rfl
  have x_r1 : w1.cell? ⟨w.heap.size + 1 + 1, 1, none⟩ = some (.int .i64 0) := by rw [k_r.cell]; rfl
  have x_r2 : w1.cell? ⟨w.heap.size + 1 + 1, 2, none⟩ = some (.string ⟨#[]⟩) := by rw [k_r.cell]; rfl
  have l_r := k_r.lt
  have z_r0 := k_r.frozen 0
  have z_r1 := k_r.frozen 1
  have z_r2 := k_r.frozen 2
  go_wp2
  exact bodyPost_ret (v := .tuple #[VS K N Z, .int .i64 E]) (by simp [results, Tryd.results11, go_sem, x_r0, x_r1, x_r2, l_r]) rfl ⟨rfl, (((bb).setCell (p := ⟨w.heap.size + 1 + 1, 0, none⟩) (by first | exact Nat.le_refl _ | (simp; done) | (simp; omega) | omega) _).setCell (p := ⟨w.heap.size + 1 + 1, 1, none⟩) (by first | exact Nat.le_refl _ | (simp; done) | (simp; omega) | omega) _).setCell (p := ⟨w.heap.size + 1 + 1, 2, none⟩) (by first | exact Nat.le_refl _ | (simp; done) | (simp; omega) | omega) _⟩
set_option maxHeartbeats 4000000 in
set_option maxRecDepth 100000 in
theorem bin_le (w : World) (K N E : Int) (Z : ByteArray) (C1 : ∀ W, Calls Tryd.prog 36 #[.string ⟨#[60, 61]⟩, VS k n s, VS k' n' s'] W (Ret (.tuple #[VS K N Z, .int .i64 E]) W)) : Calls Tryd.prog 11 #[.string ⟨#[60, 61]⟩, VS k n s, VS k' n' s'] w (Ret (.tuple #[VS K N Z, .int .i64 E]) w) := by
  have H1 := Lib.hid C1
  clear C1
  go_enter Tryd.func11, Tryd.ntmps11
  go_wp2_with fail
  have k_a := ((Blk.new w 27 #[.int .i64 k, .int .i64 n, .string s]).alloc (.cells #[.int .i64 (k'), .int .i64 (n'), .string (s')] 27)).alloc (.cells #[.int .i64 0, .int .i64 0, .string ⟨#[]⟩] 27)
  have k_b := (Blk.new (w.alloc (.cells #[.int .i64 k, .int .i64 n, .string s] 27)) 27 #[.int .i64 (k'), .int .i64 (n'), .string (s')]).alloc (.cells #[.int .i64 0, .int .i64 0, .string ⟨#[]⟩] 27)
  rw [World.size_alloc] at k_b
  have k_r := Blk.new ((w.alloc (.cells #[.int .i64 k, .int .i64 n, .string s] 27)).alloc (.cells #[.int .i64 (k'), .int .i64 (n'), .string (s')] 27)) 27 #[.int .i64 0, .int .i64 0, .string ⟨#[]⟩]
  rw [World.size_alloc, World.size_alloc] at k_r
  have bb : Below w.heap.size w _ := ((((Below.refl _ _).alloc (Nat.le_refl _) (.cells #[.int .i64 k, .int .i64 n, .string s] 27)).alloc (by simp) (.cells #[.int .i64 (k'), .int .i64 (n'), .string (s')] 27)).alloc (by simp; omega) (.cells #[.int .i64 0, .int .i64 0, .string ⟨#[]⟩] 27))
  generalize (((w.alloc (.cells #[.int .i64 k, .int .i64 n, .string s] 27)).alloc (.cells #[.int .i64 (k'), .int .i64 (n'), .string (s')] 27)).alloc (.cells #[.int .i64 0, .int .i64 0, .string ⟨#[]⟩] 27)) = W0 at *
  refine (H1.out _).mono ?_
  rintro e w1 ⟨rfl, b1⟩
  have k_a := k_a.below b1 k_a.lt
  have k_b := k_b.below b1 k_b.lt
  have k_r := k_r.below b1 k_r.lt
  have bb := bb.trans (b1.mono bb.size)
  have x_a0 : w1.cell? ⟨w.heap.size, 0, none⟩ = some (.int .i64 k) := by rw [k_a.cell]; rfl
  have x_a1 : w1.cell? ⟨w.heap.size, 1, none⟩ = some (.int .i64 n) := by rw [k_a.cell]; rfl
  have x_a2 : w1.cell? ⟨w.heap.size, 2, none⟩ = some (.string s) := by rw [k_a.cell]; rfl
  have l_a := k_a.lt
  have x_b0 : w1.cell? ⟨w.heap.size + 1, 0, none⟩ = some (.int .i64 (k')) := by rw [k_b.cell]; rfl
  have x_b1 : w1.cell? ⟨w.heap.size + 1, 1, none⟩ = some (.int .i64 (n')) := by rw [k_b.cell]; rfl
  have x_b2 : w1.cell? ⟨w.heap.size + 1, 2, none⟩ = some (.string (s')) := by rw [k_b.cell]; rfl
  have l_b := k_b.lt
  have x_r0 : w1.cell? ⟨w.heap.size + 1 + 1, 0, none⟩ = some (.int .i64 0) := by rw [k_r.cell]; rfl
  have x_r1 : w1.cell? ⟨w.heap.size + 1 + 1, 1, none⟩ = some (.int .i64 0) := by rw [k_r.cell]; rfl
  have x_r2 : w1.cell? ⟨w.heap.size + 1 + 1, 2, none⟩ = some (.string ⟨#[]⟩) := by rw [k_r.cell]; rfl
  have l_r := k_r.lt
  have z_r0 := k_r.frozen 0
  have z_r1 := k_r.frozen 1
  have z_r2 := k_r.frozen 2
  go_wp2
  exact bodyPost_ret (v := .tuple #[VS K N Z, .int .i64 E]) (by simp [results, Tryd.results11, go_sem, x_r0, x_r1, x_r2, l_r]) rfl ⟨rfl, (((bb).setCell (p := ⟨w.heap.size + 1 + 1, 0, none⟩) (by first | exact Nat.le_refl _ | (simp; done) | (simp; omega) | omega) _).setCell (p := ⟨w.heap.size + 1 + 1, 1, none⟩) (by first | exact Nat.le_refl _ | (simp; done) | (simp; omega) | omega) _).setCell (p := ⟨w.heap.size + 1 + 1, 2, none⟩) (by first | exact Nat.le_refl _ | (simp; done) | (simp; omega) | omega) _⟩
set_option maxHeartbeats 4000000 in
set_option maxRecDepth 100000 in
theorem bin_ge (w : World) (K N E : Int) (Z : ByteArray) (C1 : ∀ W, Calls Tryd.prog 36 #[.string ⟨#[62, 61]⟩, VS k n s, VS k' n' s'] W (Ret (.tuple #[VS K N Z, .int .i64 E]) W)) : Calls Tryd.prog 11 #[.string ⟨#[62, 61]⟩, VS k n s, VS k' n' s'] w (Ret (.tuple #[VS K N Z, .int .i64 E]) w) := by
  have H1 := Lib.hid C1
  clear C1
  go_enter Tryd.func11, Tryd.ntmps11
  go_wp2_with fail
  have k_a := ((Blk.new w 27 #[.int .i64 k, .int .i64 n, .string s]).alloc (.cells #[.int .i64 (k'), .int .i64 (n'), .string (s')] 27)).alloc (.cells #[.int .i64 0, .int .i64 0, .string ⟨#[]⟩] 27)
  have k_b := (Blk.new (w.alloc (.cells #[.int .i64 k, .int .i64 n, .string s] 27)) 27 #[.int .i64 (k'), .int .i64 (n'), .string (s')]).alloc (.cells #[.int .i64 0, .int .i64 0, .string ⟨#[]⟩] 27)
  rw [World.size_alloc] at k_b
  have k_r := Blk.new ((w.alloc (.cells #[.int .i64 k, .int .i64 n, .string s] 27)).alloc (.cells #[.int .i64 (k'), .int .i64 (n'), .string (s')] 27)) 27 #[.int .i64 0, .int .i64 0, .string ⟨#[]⟩]
  rw [World.size_alloc, World.size_alloc] at k_r
  have bb : Below w.heap.size w _ := ((((Below.refl _ _).alloc (Nat.le_refl _) (.cells #[.int .i64 k, .int .i64 n, .string s] 27)).alloc (by simp) (.cells #[.int .i64 (k'), .int .i64 (n'), .string (s')] 27)).alloc (by simp; omega) (.cells #[.int .i64 0, .int .i64 0, .string ⟨#[]⟩] 27))
  generalize (((w.alloc (.cells #[.int .i64 k, .int .i64 n, .string s] 27)).alloc (.cells #[.int .i64 (k'), .int .i64 (n'), .string (s')] 27)).alloc (.cells #[.int .i64 0, .int .i64 0, .string ⟨#[]⟩] 27)) = W0 at *
  refine (H1.out _).mono ?_
  rintro e w1 ⟨rfl, b1⟩
  have k_a := k_a.below b1 k_a.lt
  have k_b := k_b.below b1 k_b.lt
  have k_r := k_r.below b1 k_r.lt
  have bb := bb.trans (b1.mono bb.size)
  have x_a0 : w1.cell? ⟨w.heap.size, 0, none⟩ = some (.int .i64 k) := by rw [k_a.cell]; rfl
  have x_a1 : w1.cell? ⟨w.heap.size, 1, none⟩ = some (.int .i64 n) := by rw [k_a.cell]; rfl
  have x_a2 : w1.cell? ⟨w.heap.size, 2, none⟩ = some (.string s) := by rw [k_a.cell]; rfl
  have l_a := k_a.lt
  have x_b0 : w1.cell? ⟨w.heap.size + 1, 0, none⟩ = some (.int .i64 (k')) := by rw [k_b.cell]; rfl
  have x_b1 : w1.cell? ⟨w.heap.size + 1, 1, none⟩ = some (.int .i64 (n')) := by rw [k_b.cell]; rfl
  have x_b2 : w1.cell? ⟨w.heap.size + 1, 2, none⟩ = some (.string (s')) := by rw [k_b.cell]; rfl
  have l_b := k_b.lt
  have x_r0 : w1.cell? ⟨w.heap.size + 1 + 1, 0, none⟩ = some (.int .i64 0) := by rw [k_r.cell]; rfl
  have x_r1 : w1.cell? ⟨w.heap.size + 1 + 1, 1, none⟩ = some (.int .i64 0) := by rw [k_r.cell]; rfl
  have x_r2 : w1.cell? ⟨w.heap.size + 1 + 1, 2, none⟩ = some (.string ⟨#[]⟩) := by rw [k_r.cell]; rfl
  have l_r := k_r.lt
  have z_r0 := k_r.frozen 0
  have z_r1 := k_r.frozen 1
  have z_r2 := k_r.frozen 2
  go_wp2
  exact bodyPost_ret (v := .tuple #[VS K N Z, .int .i64 E]) (by simp [results, Tryd.results11, go_sem, x_r0, x_r1, x_r2, l_r]) rfl ⟨rfl, (((bb).setCell (p := ⟨w.heap.size + 1 + 1, 0, none⟩) (by first | exact Nat.le_refl _ | (simp; done) | (simp; omega) | omega) _).setCell (p := ⟨w.heap.size + 1 + 1, 1, none⟩) (by first | exact Nat.le_refl _ | (simp; done) | (simp; omega) | omega) _).setCell (p := ⟨w.heap.size + 1 + 1, 2, none⟩) (by first | exact Nat.le_refl _ | (simp; done) | (simp; omega) | omega) _⟩
set_option maxHeartbeats 4000000 in
set_option maxRecDepth 100000 in
theorem bin_add_e1 (w : World) (p q e1 : Int) (he : ¬ e1 = 0) (hk : (k == 7) = false) (hk' : (k' == 7) = false) (C1 : ∀ W, Calls Tryd.prog 29 #[VS k n s] W (Ret (.tuple #[VN p q, .int .i64 e1]) W)) : Calls Tryd.prog 11 #[.string ⟨#[43]⟩, VS k n s, VS k' n' s'] w (Ret (.tuple #[VS 0 0 ⟨#[]⟩, .int .i64 e1]) w) := by
  have H1 := Lib.hid C1
  clear C1
  have t1 : (e1 != 0) = true := by simpa using he
  have t2 : ¬ e1 = 0 := he
  go_enter Tryd.func11, Tryd.ntmps11
  go_wp2_with fail
  have k_a := ((Blk.new w 27 #[.int .i64 k, .int .i64 n, .string s]).alloc (.cells #[.int .i64 (k'), .int .i64 (n'), .string (s')] 27)).alloc (.cells #[.int .i64 0, .int .i64 0, .string ⟨#[]⟩] 27)
  have k_b := (Blk.new (w.alloc (.cells #[.int .i64 k, .int .i64 n, .string s] 27)) 27 #[.int .i64 (k'), .int .i64 (n'), .string (s')]).alloc (.cells #[.int .i64 0, .int .i64 0, .string ⟨#[]⟩] 27)
  rw [World.size_alloc] at k_b
  have k_r := Blk.new ((w.alloc (.cells #[.int .i64 k, .int .i64 n, .string s] 27)).alloc (.cells #[.int .i64 (k'), .int .i64 (n'), .string (s')] 27)) 27 #[.int .i64 0, .int .i64 0, .string ⟨#[]⟩]
  rw [World.size_alloc, World.size_alloc] at k_r
  have bb : Below w.heap.size w _ := ((((Below.refl _ _).alloc (Nat.le_refl _) (.cells #[.int .i64 k, .int .i64 n, .string s] 27)).alloc (by simp) (.cells #[.int .i64 (k'), .int .i64 (n'), .string (s')] 27)).alloc (by simp; omega) (.cells #[.int .i64 0, .int .i64 0, .string ⟨#[]⟩] 27))
  generalize (((w.alloc (.cells #[.int .i64 k, .int .i64 n, .string s] 27)).alloc (.cells #[.int .i64 (k'), .int .i64 (n'), .string (s')] 27)).alloc (.cells #[.int .i64 0, .int .i64 0, .string ⟨#[]⟩] 27)) = W0 at *
  refine (H1.out _).mono ?_
  rintro e w1 ⟨rfl, b1⟩
  have k_a := k_a.below b1 k_a.lt
  have k_b := k_b.below b1 k_b.lt
  have k_r := k_r.below b1 k_r.lt
  have bb := bb.trans (b1.mono bb.size)
  have x_a0 : w1.cell? ⟨w.heap.size, 0, none⟩ = some (.int .i64 k) := by rw [k_a.cell]; rfl
  have x_a1 : w1.cell? ⟨w.heap.size, 1, none⟩ = some (.int .i64 n) := by rw [k_a.cell]; rfl
  have x_a2 : w1.cell? ⟨w.heap.size, 2, none⟩ = some (.string s) := by rw [k_a.cell]; rfl
  have l_a := k_a.lt
  have x_b0 : w1.cell? ⟨w.heap.size + 1, 0, none⟩ = some (.int .i64 (k')) := by rw [k_b.cell]; rfl
  have x_b1 : w1.cell? ⟨w.heap.size + 1, 1, none⟩ = some (.int .i64 (n')) := by rw [k_b.cell]; rfl
  have x_b2 : w1.cell? ⟨w.heap.size + 1, 2, none⟩ = some (.string (s')) := by rw [k_b.cell]; rfl
  have l_b := k_b.lt
  have x_r0 : w1.cell? ⟨w.heap.size + 1 + 1, 0, none⟩ = some (.int .i64 0) := by rw [k_r.cell]; rfl
  have x_r1 : w1.cell? ⟨w.heap.size + 1 + 1, 1, none⟩ = some (.int .i64 0) := by rw [k_r.cell]; rfl
  have x_r2 : w1.cell? ⟨w.heap.size + 1 + 1, 2, none⟩ = some (.string ⟨#[]⟩) := by rw [k_r.cell]; rfl
  have l_r := k_r.lt
  have z_r0 := k_r.frozen 0
  have z_r1 := k_r.frozen 1
  have z_r2 := k_r.frozen 2
  go_wp2
  exact bodyPost_ret (v := .tuple #[VS 0 0 ⟨#[]⟩, .int .i64 e1]) (by simp [results, Tryd.results11, go_sem, x_r0, x_r1, x_r2, l_r]) rfl ⟨rfl, ((((bb).setCell (p := ⟨w.heap.size + 1 + 1, 0, none⟩) (by first | exact Nat.le_refl _ | (simp; done) | (simp; omega) | omega) _).setCell (p := ⟨w.heap.size + 1 + 1, 1, none⟩) (by first | exact Nat.le_refl _ | (simp; done) | (simp; omega) | omega) _).setCell (p := ⟨w.heap.size + 1 + 1, 2, none⟩) (by first | exact Nat.le_refl _ | (simp; done) | (simp; omega) | omega) _).alloc (by first | exact bb.size | (simp; exact bb.size) | (have := bb.size; simp; omega)) _⟩
set_option maxHeartbeats 4000000 in
set_option maxRecDepth 100000 in
theorem bin_add_e2 (w : World) (p q p' q' e1 : Int) (he : ¬ e1 = 0) (hk : (k == 7) = false) (hk' : (k' == 7) = false) (C1 : ∀ W, Calls Tryd.prog 29 #[VS k n s] W (Ret (.tuple #[VN p q, .int .i64 0]) W)) (C2 : ∀ W, Calls Tryd.prog 29 #[VS k' n' s'] W (Ret (.tuple #[VN p' q', .int .i64 e1]) W)) : Calls Tryd.prog 11 #[.string ⟨#[43]⟩, VS k n s, VS k' n' s'] w (Ret (.tuple #[VS 0 0 ⟨#[]⟩, .int .i64 e1]) w) := by
  have H1 := Lib.hid C1
  have H2 := Lib.hid C2
  clear C1 C2
  have t1 : (e1 != 0) = true := by simpa using he
  have t2 : ¬ e1 = 0 := he
  go_enter Tryd.func11, Tryd.ntmps11
  go_wp2_with fail
  have k_a := ((Blk.new w 27 #[.int .i64 k, .int .i64 n, .string s]).alloc (.cells #[.int .i64 (k'), .int .i64 (n'), .string (s')] 27)).alloc (.cells #[.int .i64 0, .int .i64 0, .string ⟨#[]⟩] 27)
  have k_b := (Blk.new (w.alloc (.cells #[.int .i64 k, .int .i64 n, .string s] 27)) 27 #[.int .i64 (k'), .int .i64 (n'), .string (s')]).alloc (.cells #[.int .i64 0, .int .i64 0, .string ⟨#[]⟩] 27)
  rw [World.size_alloc] at k_b
  have k_r := Blk.new ((w.alloc (.cells #[.int .i64 k, .int .i64 n, .string s] 27)).alloc (.cells #[.int .i64 (k'), .int .i64 (n'), .string (s')] 27)) 27 #[.int .i64 0, .int .i64 0, .string ⟨#[]⟩]
  rw [World.size_alloc, World.size_alloc] at k_r
  have bb : Below w.heap.size w _ := ((((Below.refl _ _).alloc (Nat.le_refl _) (.cells #[.int .i64 k, .int .i64 n, .string s] 27)).alloc (by simp) (.cells #[.int .i64 (k'), .int .i64 (n'), .string (s')] 27)).alloc (by simp; omega) (.cells #[.int .i64 0, .int .i64 0, .string ⟨#[]⟩] 27))
  generalize (((w.alloc (.cells #[.int .i64 k, .int .i64 n, .string s] 27)).alloc (.cells #[.int .i64 (k'), .int .i64 (n'), .string (s')] 27)).alloc (.cells #[.int .i64 0, .int .i64 0, .string ⟨#[]⟩] 27)) = W0 at *
  refine (H1.out _).mono ?_
  rintro e w1 ⟨rfl, b1⟩
  have k_a := k_a.below b1 k_a.lt
  have k_b := k_b.below b1 k_b.lt
  have k_r := k_r.below b1 k_r.lt
  have bb := bb.trans (b1.mono bb.size)
  have x_a0 : w1.cell? ⟨w.heap.size, 0, none⟩ = some (.int .i64 k) := by rw [k_a.cell]; rfl
  have x_a1 : w1.cell? ⟨w.heap.size, 1, none⟩ = some (.int .i64 n) := by rw [k_a.cell]; rfl
  have x_a2 : w1.cell? ⟨w.heap.size, 2, none⟩ = some (.string s) := by rw [k_a.cell]; rfl
  have l_a := k_a.lt
  have x_b0 : w1.cell? ⟨w.heap.size + 1, 0, none⟩ = some (.int .i64 (k')) := by rw [k_b.cell]; rfl
  have x_b1 : w1.cell? ⟨w.heap.size + 1, 1, none⟩ = some (.int .i64 (n')) := by rw [k_b.cell]; rfl
  have x_b2 : w1.cell? ⟨w.heap.size + 1, 2, none⟩ = some (.string (s')) := by rw [k_b.cell]; rfl
  have l_b := k_b.lt
  have x_r0 : w1.cell? ⟨w.heap.size + 1 + 1, 0, none⟩ = some (.int .i64 0) := by rw [k_r.cell]; rfl
  have x_r1 : w1.cell? ⟨w.heap.size + 1 + 1, 1, none⟩ = some (.int .i64 0) := by rw [k_r.cell]; rfl
  have x_r2 : w1.cell? ⟨w.heap.size + 1 + 1, 2, none⟩ = some (.string ⟨#[]⟩) := by rw [k_r.cell]; rfl
  have l_r := k_r.lt
  go_wp2_with fail
  have k_a := k_a.alloc (.cells #[.int .i64 p, .int .i64 q, .string ⟨#[]⟩] 27)
  have k_b := k_b.alloc (.cells #[.int .i64 p, .int .i64 q, .string ⟨#[]⟩] 27)
  have k_r := k_r.alloc (.cells #[.int .i64 p, .int .i64 q, .string ⟨#[]⟩] 27)
  have k_x := Blk.new w1 27 #[.int .i64 p, .int .i64 q, .string ⟨#[]⟩]
  have bb := bb.alloc bb.size (.cells #[.int .i64 p, .int .i64 q, .string ⟨#[]⟩] 27)
  clear x_a0 x_a1 x_a2 l_a x_b0 x_b1 x_b2 l_b x_r0 x_r1 x_r2 l_r
  generalize w1.alloc (.cells #[.int .i64 p, .int .i64 q, .string ⟨#[]⟩] 27) = V1 at *
  refine (H2.out _).mono ?_
  rintro e w2 ⟨rfl, b2⟩
  have k_a := k_a.below b2 k_a.lt
  have k_b := k_b.below b2 k_b.lt
  have k_r := k_r.below b2 k_r.lt
  have k_x := k_x.below b2 k_x.lt
  have bb := bb.trans (b2.mono bb.size)
  have x_a0 : w2.cell? ⟨w.heap.size, 0, none⟩ = some (.int .i64 k) := by rw [k_a.cell]; rfl
  have x_a1 : w2.cell? ⟨w.heap.size, 1, none⟩ = some (.int .i64 n) := by rw [k_a.cell]; rfl
  have x_a2 : w2.cell? ⟨w.heap.size, 2, none⟩ = some (.string s) := by rw [k_a.cell]; rfl
  have l_a := k_a.lt
  have x_b0 : w2.cell? ⟨w.heap.size + 1, 0, none⟩ = some (.int .i64 (k')) := by rw [k_b.cell]; rfl
  have x_b1 : w2.cell? ⟨w.heap.size + 1, 1, none⟩ = some (.int .i64 (n')) := by rw [k_b.cell]; rfl
  have x_b2 : w2.cell? ⟨w.heap.size + 1, 2, none⟩ = some (.string (s')) := by rw [k_b.cell]; rfl
  have l_b := k_b.lt
  have x_r0 : w2.cell? ⟨w.heap.size + 1 + 1, 0, none⟩ = some (.int .i64 0) := by rw [k_r.cell]; rfl
  have x_r1 : w2.cell? ⟨w.heap.size + 1 + 1, 1, none⟩ = some (.int .i64 0) := by rw [k_r.cell]; rfl
  have x_r2 : w2.cell? ⟨w.heap.size + 1 + 1, 2, none⟩ = some (.string ⟨#[]⟩) := by rw [k_r.cell]; rfl
  have l_r := k_r.lt
  have x_x0 : w2.cell? ⟨w1.heap.size, 0, none⟩ = some (.int .i64 p) := by rw [k_x.cell]; rfl
  have x_x1 : w2.cell? ⟨w1.heap.size, 1, none⟩ = some (.int .i64 q) := by rw [k_x.cell]; rfl
  have x_x2 : w2.cell? ⟨w1.heap.size, 2, none⟩ = some (.string ⟨#[]⟩) := by rw [k_x.cell]; rfl
  have l_x := k_x.lt
  have z_r0 := k_r.frozen 0
  have z_r1 := k_r.frozen 1
  have z_r2 := k_r.frozen 2
  go_wp2
  exact bodyPost_ret (v := .tuple #[VS 0 0 ⟨#[]⟩, .int .i64 e1]) (by simp [results, Tryd.results11, go_sem, x_r0, x_r1, x_r2, l_r]) rfl ⟨rfl, ((((bb).setCell (p := ⟨w.heap.size + 1 + 1, 0, none⟩) (by first | exact Nat.le_refl _ | (simp; done) | (simp; omega) | omega) _).setCell (p := ⟨w.heap.size + 1 + 1, 1, none⟩) (by first | exact Nat.le_refl _ | (simp; done) | (simp; omega) | omega) _).setCell (p := ⟨w.heap.size + 1 + 1, 2, none⟩) (by first | exact Nat.le_refl _ | (simp; done) | (simp; omega) | omega) _).alloc (by first | exact bb.size | (simp; exact bb.size) | (have := bb.size; simp; omega)) _⟩
set_option maxHeartbeats 4000000 in
set_option maxRecDepth 100000 in
theorem bin_add (w : World) (p q p' q' K N E : Int) (Z : ByteArray) (hk : (k == 7) = false) (hk' : (k' == 7) = false) (C1 : ∀ W, Calls Tryd.prog 29 #[VS k n s] W (Ret (.tuple #[VN p q, .int .i64 0]) W)) (C2 : ∀ W, Calls Tryd.prog 29 #[VS k' n' s'] W (Ret (.tuple #[VN p' q', .int .i64 0]) W)) (C3 : ∀ W, Calls Tryd.prog 37 #[.string ⟨#[43]⟩, VN p q, VN p' q'] W (Ret (.tuple #[VS K N Z, .int .i64 E]) W)) : Calls Tryd.prog 11 #[.string ⟨#[43]⟩, VS k n s, VS k' n' s'] w (Ret (.tuple #[VS K N Z, .int .i64 E]) w) := by
  have H1 := Lib.hid C1
  have H2 := Lib.hid C2
  have H3 := Lib.hid C3
  clear C1 C2 C3
  go_enter Tryd.func11, Tryd.ntmps11
  go_wp2_with fail
  have k_a := ((Blk.new w 27 #[.int .i64 k, .int .i64 n, .string s]).alloc (.cells #[.int .i64 (k'), .int .i64 (n'), .string (s')] 27)).alloc (.cells #[.int .i64 0, .int .i64 0, .string ⟨#[]⟩] 27)
  have k_b := (Blk.new (w.alloc (.cells #[.int .i64 k, .int .i64 n, .string s] 27)) 27 #[.int .i64 (k'), .int .i64 (n'), .string (s')]).alloc (.cells #[.int .i64 0, .int .i64 0, .string ⟨#[]⟩] 27)
  rw [World.size_alloc] at k_b
  have k_r := Blk.new ((w.alloc (.cells #[.int .i64 k, .int .i64 n, .string s] 27)).alloc (.cells #[.int .i64 (k'), .int .i64 (n'), .string (s')] 27)) 27 #[.int .i64 0, .int .i64 0, .string ⟨#[]⟩]
  rw [World.size_alloc, World.size_alloc] at k_r
  have bb : Below w.heap.size w _ := ((((Below.refl _ _).alloc (Nat.le_refl _) (.cells #[.int .i64 k, .int .i64 n, .string s] 27)).alloc (by simp) (.cells #[.int .i64 (k'), .int .i64 (n'), .string (s')] 27)).alloc (by simp; omega) (.cells #[.int .i64 0, .int .i64 0, .string ⟨#[]⟩] 27))
  generalize (((w.alloc (.cells #[.int .i64 k, .int .i64 n, .string s] 27)).alloc (.cells #[.int .i64 (k'), .int .i64 (n'), .string (s')] 27)).alloc (.cells #[.int .i64 0, .int .i64 0, .string ⟨#[]⟩] 27)) = W0 at *
  refine (H1.out _).mono ?_
  rintro e w1 ⟨rfl, b1⟩
  have k_a := k_a.below b1 k_a.lt
  have k_b := k_b.below b1 k_b.lt
  have k_r := k_r.below b1 k_r.lt
  have bb := bb.trans (b1.mono bb.size)
  have x_a0 : w1.cell? ⟨w.heap.size, 0, none⟩ = some (.int .i64 k) := by rw [k_a.cell]; rfl
  have x_a1 : w1.cell? ⟨w.heap.size, 1, none⟩ = some (.int .i64 n) := by rw [k_a.cell]; rfl
  have x_a2 : w1.cell? ⟨w.heap.size, 2, none⟩ = some (.string s) := by rw [k_a.cell]; rfl
  have l_a := k_a.lt
  have x_b0 : w1.cell? ⟨w.heap.size + 1, 0, none⟩ = some (.int .i64 (k')) := by rw [k_b.cell]; rfl
  have x_b1 : w1.cell? ⟨w.heap.size + 1, 1, none⟩ = some (.int .i64 (n')) := by rw [k_b.cell]; rfl
  have x_b2 : w1.cell? ⟨w.heap.size + 1, 2, none⟩ = some (.string (s')) := by rw [k_b.cell]; rfl
  have l_b := k_b.lt
  have x_r0 : w1.cell? ⟨w.heap.size + 1 + 1, 0, none⟩ = some (.int .i64 0) := by rw [k_r.cell]; rfl
  have x_r1 : w1.cell? ⟨w.heap.size + 1 + 1, 1, none⟩ = some (.int .i64 0) := by rw [k_r.cell]; rfl
  have x_r2 : w1.cell? ⟨w.heap.size + 1 + 1, 2, none⟩ = some (.string ⟨#[]⟩) := by rw [k_r.cell]; rfl
  have l_r := k_r.lt
  go_wp2_with fail
  have k_a := k_a.alloc (.cells #[.int .i64 p, .int .i64 q, .string ⟨#[]⟩] 27)
  have k_b := k_b.alloc (.cells #[.int .i64 p, .int .i64 q, .string ⟨#[]⟩] 27)
  have k_r := k_r.alloc (.cells #[.int .i64 p, .int .i64 q, .string ⟨#[]⟩] 27)
  have k_x := Blk.new w1 27 #[.int .i64 p, .int .i64 q, .string ⟨#[]⟩]
  have bb := bb.alloc bb.size (.cells #[.int .i64 p, .int .i64 q, .string ⟨#[]⟩] 27)
  clear x_a0 x_a1 x_a2 l_a x_b0 x_b1 x_b2 l_b x_r0 x_r1 x_r2 l_r
  generalize w1.alloc (.cells #[.int .i64 p, .int .i64 q, .string ⟨#[]⟩] 27) = V1 at *
  refine (H2.out _).mono ?_
  rintro e w2 ⟨rfl, b2⟩
  have k_a := k_a.below b2 k_a.lt
  have k_b := k_b.below b2 k_b.lt
  have k_r := k_r.below b2 k_r.lt
  have k_x := k_x.below b2 k_x.lt
  have bb := bb.trans (b2.mono bb.size)
  have x_a0 : w2.cell? ⟨w.heap.size, 0, none⟩ = some (.int .i64 k) := by rw [k_a.cell]; rfl
  have x_a1 : w2.cell? ⟨w.heap.size, 1, none⟩ = some (.int .i64 n) := by rw [k_a.cell]; rfl
  have x_a2 : w2.cell? ⟨w.heap.size, 2, none⟩ = some (.string s) := by rw [k_a.cell]; rfl
  have l_a := k_a.lt
  have x_b0 : w2.cell? ⟨w.heap.size + 1, 0, none⟩ = some (.int .i64 (k')) := by rw [k_b.cell]; rfl
  have x_b1 : w2.cell? ⟨w.heap.size + 1, 1, none⟩ = some (.int .i64 (n')) := by rw [k_b.cell]; rfl
  have x_b2 : w2.cell? ⟨w.heap.size + 1, 2, none⟩ = some (.string (s')) := by rw [k_b.cell]; rfl
  have l_b := k_b.lt
  have x_r0 : w2.cell? ⟨w.heap.size + 1 + 1, 0, none⟩ = some (.int .i64 0) := by rw [k_r.cell]; rfl
  have x_r1 : w2.cell? ⟨w.heap.size + 1 + 1, 1, none⟩ = some (.int .i64 0) := by rw [k_r.cell]; rfl
  have x_r2 : w2.cell? ⟨w.heap.size + 1 + 1, 2, none⟩ = some (.string ⟨#[]⟩) := by rw [k_r.cell]; rfl
  have l_r := k_r.lt
  have x_x0 : w2.cell? ⟨w1.heap.size, 0, none⟩ = some (.int .i64 p) := by rw [k_x.cell]; rfl
  have x_x1 : w2.cell? ⟨w1.heap.size, 1, none⟩ = some (.int .i64 q) := by rw [k_x.cell]; rfl
  have x_x2 : w2.cell? ⟨w1.heap.size, 2, none⟩ = some (.string ⟨#[]⟩) := by rw [k_x.cell]; rfl
  have l_x := k_x.lt
  go_wp2_with fail
  have k_a := k_a.alloc (.cells #[.int .i64 (p'), .int .i64 (q'), .string ⟨#[]⟩] 27)
  have k_b := k_b.alloc (.cells #[.int .i64 (p'), .int .i64 (q'), .string ⟨#[]⟩] 27)
  have k_r := k_r.alloc (.cells #[.int .i64 (p'), .int .i64 (q'), .string ⟨#[]⟩] 27)
  have k_x := k_x.alloc (.cells #[.int .i64 (p'), .int .i64 (q'), .string ⟨#[]⟩] 27)
  have k_y := Blk.new w2 27 #[.int .i64 (p'), .int .i64 (q'), .string ⟨#[]⟩]
  have bb := bb.alloc bb.size (.cells #[.int .i64 (p'), .int .i64 (q'), .string ⟨#[]⟩] 27)
  clear x_a0 x_a1 x_a2 l_a x_b0 x_b1 x_b2 l_b x_r0 x_r1 x_r2 l_r x_x0 x_x1 x_x2 l_x
  generalize w2.alloc (.cells #[.int .i64 (p'), .int .i64 (q'), .string ⟨#[]⟩] 27) = V2 at *
  refine (H3.out _).mono ?_
  rintro e w3 ⟨rfl, b3⟩
  have k_a := k_a.below b3 k_a.lt
  have k_b := k_b.below b3 k_b.lt
  have k_r := k_r.below b3 k_r.lt
  have k_x := k_x.below b3 k_x.lt
  have k_y := k_y.below b3 k_y.lt
  have bb := bb.trans (b3.mono bb.size)
  have x_a0 : w3.cell? ⟨w.heap.size, 0, none⟩ = some (.int .i64 k) := by rw [k_a.cell]; rfl
  have x_a1 : w3.cell? ⟨w.heap.size, 1, none⟩ = some (.int .i64 n) := by rw [k_a.cell]; rfl
  have x_a2 : w3.cell? ⟨w.heap.size, 2, none⟩ = some (.string s) := by rw [k_a.cell]; rfl
  have l_a := k_a.lt
  have x_b0 : w3.cell? ⟨w.heap.size + 1, 0, none⟩ = some (.int .i64 (k')) := by rw [k_b.cell]; rfl
  have x_b1 : w3.cell? ⟨w.heap.size + 1, 1, none⟩ = some (.int .i64 (n')) := by rw [k_b.cell]; rfl
  have x_b2 : w3.cell? ⟨w.heap.size + 1, 2, none⟩ = some (.string (s')) := by rw [k_b.cell]; rfl
  have l_b := k_b.lt
  have x_r0 : w3.cell? ⟨w.heap.size + 1 + 1, 0, none⟩ = some (.int .i64 0) := by rw [k_r.cell]; rfl
  have x_r1 : w3.cell? ⟨w.heap.size + 1 + 1, 1, none⟩ = some (.int .i64 0) := by rw [k_r.cell]; rfl
  have x_r2 : w3.cell? ⟨w.heap.size + 1 + 1, 2, none⟩ = some (.string ⟨#[]⟩) := by rw [k_r.cell]; rfl
  have l_r := k_r.lt
  have x_x0 : w3.cell? ⟨w1.heap.size, 0, none⟩ = some (.int .i64 p) := by rw [k_x.cell]; rfl
  have x_x1 : w3.cell? ⟨w1.heap.size, 1, none⟩ = some (.int .i64 q) := by rw [k_x.cell]; rfl
  have x_x2 : w3.cell? ⟨w1.heap.size, 2, none⟩ = some (.string ⟨#[]⟩) := by rw [k_x.cell]; rfl
  have l_x := k_x.lt
  have x_y0 : w3.cell? ⟨w2.heap.size, 0, none⟩ = some (.int .i64 (p')) := by rw [k_y.cell]; rfl
  have x_y1 : w3.cell? ⟨w2.heap.size, 1, none⟩ = some (.int .i64 (q')) := by rw [k_y.cell]; rfl
  have x_y2 : w3.cell? ⟨w2.heap.size, 2, none⟩ = some (.string ⟨#[]⟩) := by rw [k_y.cell]; rfl
  have l_y := k_y.lt
  have z_r0 := k_r.frozen 0
  have z_r1 := k_r.frozen 1
  have z_r2 := k_r.frozen 2
  go_wp2
  exact bodyPost_ret (v := .tuple #[VS K N Z, .int .i64 E]) (by simp [results, Tryd.results11, go_sem, x_r0, x_r1, x_r2, l_r]) rfl ⟨rfl, (((bb).setCell (p := ⟨w.heap.size + 1 + 1, 0, none⟩) (by first | exact Nat.le_refl _ | (simp; done) | (simp; omega) | omega) _).setCell (p := ⟨w.heap.size + 1 + 1, 1, none⟩) (by first | exact Nat.le_refl _ | (simp; done) | (simp; omega) | omega) _).setCell (p := ⟨w.heap.size + 1 + 1, 2, none⟩) (by first | exact Nat.le_refl _ | (simp; done) | (simp; omega) | omega) _⟩
set_option maxHeartbeats 4000000 in
set_option maxRecDepth 100000 in
theorem bin_sub_e1 (w : World) (p q e1 : Int) (he : ¬ e1 = 0)  (C1 : ∀ W, Calls Tryd.prog 29 #[VS k n s] W (Ret (.tuple #[VN p q, .int .i64 e1]) W)) : Calls Tryd.prog 11 #[.string ⟨#[45]⟩, VS k n s, VS k' n' s'] w (Ret (.tuple #[VS 0 0 ⟨#[]⟩, .int .i64 e1]) w) := by
  have H1 := Lib.hid C1
  clear C1
  have t1 : (e1 != 0) = true := by simpa using he
  have t2 : ¬ e1 = 0 := he
  go_enter Tryd.func11, Tryd.ntmps11
  go_wp2_with fail
  have k_a := ((Blk.new w 27 #[.int .i64 k, .int .i64 n, .string s]).alloc (.cells #[.int .i64 (k'), .int .i64 (n'), .string (s')] 27)).alloc (.cells #[.int .i64 0, .int .i64 0, .string ⟨#[]⟩] 27)
  have k_b := (Blk.new (w.alloc (.cells #[.int .i64 k, .int .i64 n, .string s] 27)) 27 #[.int .i64 (k'), .int .i64 (n'), .string (s')]).alloc (.cells #[.int .i64 0, .int .i64 0, .string ⟨#[]⟩] 27)
  rw [World.size_alloc] at k_b
  have k_r := Blk.new ((w.alloc (.cells #[.int .i64 k, .int .i64 n, .string s] 27)).alloc (.cells #[.int .i64 (k'), .int .i64 (n'), .string (s')] 27)) 27 #[.int .i64 0, .int .i64 0, .string ⟨#[]⟩]
  rw [World.size_alloc, World.size_alloc] at k_r
  have bb : Below w.heap.size w _ := ((((Below.refl _ _).alloc (Nat.le_refl _) (.cells #[.int .i64 k, .int .i64 n, .string s] 27)).alloc (by simp) (.cells #[.int .i64 (k'), .int .i64 (n'), .string (s')] 27)).alloc (by simp; omega) (.cells #[.int .i64 0, .int .i64 0, .string ⟨#[]⟩] 27))
  generalize (((w.alloc (.cells #[.int .i64 k, .int .i64 n, .string s] 27)).alloc (.cells #[.int .i64 (k'), .int .i64 (n'), .string (s')] 27)).alloc (.cells #[.int .i64 0, .int .i64 0, .string ⟨#[]⟩] 27)) = W0 at *
  refine (H1.out _).mono ?_
  rintro e w1 ⟨rfl, b1⟩
  have k_a := k_a.below b1 k_a.lt
  have k_b := k_b.below b1 k_b.lt
  have k_r := k_r.below b1 k_r.lt
  have bb := bb.trans (b1.mono bb.size)
  have x_a0 : w1.cell? ⟨w.heap.size, 0, none⟩ = some (.int .i64 k) := by rw [k_a.cell]; rfl
  have x_a1 : w1.cell? ⟨w.heap.size, 1, none⟩ = some (.int .i64 n) := by rw [k_a.cell]; rfl
  have x_a2 : w1.cell? ⟨w.heap.size, 2, none⟩ = some (.string s) := by rw [k_a.cell]; rfl
  have l_a := k_a.lt
  have x_b0 : w1.cell? ⟨w.heap.size + 1, 0, none⟩ = some (.int .i64 (k')) := by rw [k_b.cell]; rfl
  have x_b1 : w1.cell? ⟨w.heap.size + 1, 1, none⟩ = some (.int .i64 (n')) := by rw [k_b.cell]; rfl
  have x_b2 : w1.cell? ⟨w.heap.size + 1, 2, none⟩ = some (.string (s')) := by rw [k_b.cell]; rfl
  have l_b := k_b.lt
  have x_r0 : w1.cell? ⟨w.heap.size + 1 + 1, 0, none⟩ = some (.int .i64 0) := by rw [k_r.cell]; rfl
  have x_r1 : w1.cell? ⟨w.heap.size + 1 + 1, 1, none⟩ = some (.int .i64 0) := by rw [k_r.cell]; rfl
  have x_r2 : w1.cell? ⟨w.heap.size + 1 + 1, 2, none⟩ = some (.string ⟨#[]⟩) := by rw [k_r.cell]; rfl
  have l_r := k_r.lt
  have z_r0 := k_r.frozen 0
  have z_r1 := k_r.frozen 1
  have z_r2 := k_r.frozen 2
  go_wp2
  exact bodyPost_ret (v := .tuple #[VS 0 0 ⟨#[]⟩, .int .i64 e1]) (by simp [results, Tryd.results11, go_sem, x_r0, x_r1, x_r2, l_r]) rfl ⟨rfl, ((((bb).setCell (p := ⟨w.heap.size + 1 + 1, 0, none⟩) (by first | exact Nat.le_refl _ | (simp; done) | (simp; omega) | omega) _).setCell (p := ⟨w.heap.size + 1 + 1, 1, none⟩) (by first | exact Nat.le_refl _ | (simp; done) | (simp; omega) | omega) _).setCell (p := ⟨w.heap.size + 1 + 1, 2, none⟩) (by first | exact Nat.le_refl _ | (simp; done) | (simp; omega) | omega) _).alloc (by first | exact bb.size | (simp; exact bb.size) | (have := bb.size; simp; omega)) _⟩
set_option maxHeartbeats 4000000 in
set_option maxRecDepth 100000 in
theorem bin_sub_e2 (w : World) (p q p' q' e1 : Int) (he : ¬ e1 = 0)  (C1 : ∀ W, Calls Tryd.prog 29 #[VS k n s] W (Ret (.tuple #[VN p q, .int .i64 0]) W)) (C2 : ∀ W, Calls Tryd.prog 29 #[VS k' n' s'] W (Ret (.tuple #[VN p' q', .int .i64 e1]) W)) : Calls Tryd.prog 11 #[.string ⟨#[45]⟩, VS k n s, VS k' n' s'] w (Ret (.tuple #[VS 0 0 ⟨#[]⟩, .int .i64 e1]) w) := by
  have H1 := Lib.hid C1
  have H2 := Lib.hid C2
  clear C1 C2
  have t1 : (e1 != 0) = true := by simpa using he
  have t2 : ¬ e1 = 0 := he
  go_enter Tryd.func11, Tryd.ntmps11
  go_wp2_with fail
  have k_a := ((Blk.new w 27 #[.int .i64 k, .int .i64 n, .string s]).alloc (.cells #[.int .i64 (k'), .int .i64 (n'), .string (s')] 27)).alloc (.cells #[.int .i64 0, .int .i64 0, .string ⟨#[]⟩] 27)
  have k_b := (Blk.new (w.alloc (.cells #[.int .i64 k, .int .i64 n, .string s] 27)) 27 #[.int .i64 (k'), .int .i64 (n'), .string (s')]).alloc (.cells #[.int .i64 0, .int .i64 0, .string ⟨#[]⟩] 27)
  rw [World.size_alloc] at k_b
  have k_r := Blk.new ((w.alloc (.cells #[.int .i64 k, .int .i64 n, .string s] 27)).alloc (.cells #[.int .i64 (k'), .int .i64 (n'), .string (s')] 27)) 27 #[.int .i64 0, .int .i64 0, .string ⟨#[]⟩]
  rw [World.size_alloc, World.size_alloc] at k_r
  have bb : Below w.heap.size w _ := ((((Below.refl _ _).alloc (Nat.le_refl _) (.cells #[.int .i64 k, .int .i64 n, .string s] 27)).alloc (by simp) (.cells #[.int .i64 (k'), .int .i64 (n'), .string (s')] 27)).alloc (by simp; omega) (.cells #[.int .i64 0, .int .i64 0, .string ⟨#[]⟩] 27))
  generalize (((w.alloc (.cells #[.int .i64 k, .int .i64 n, .string s] 27)).alloc (.cells #[.int .i64 (k'), .int .i64 (n'), .string (s')] 27)).alloc (.cells #[.int .i64 0, .int .i64 0, .string ⟨#[]⟩] 27)) = W0 at *
  refine (H1.out _).mono ?_
  rintro e w1 ⟨rfl, b1⟩
  have k_a := k_a.below b1 k_a.lt
  have k_b := k_b.below b1 k_b.lt
  have k_r := k_r.below b1 k_r.lt
  have bb := bb.trans (b1.mono bb.size)
  have x_a0 : w1.cell? ⟨w.heap.size, 0, none⟩ = some (.int .i64 k) := by rw [k_a.cell]; rfl
  have x_a1 : w1.cell? ⟨w.heap.size, 1, none⟩ = some (.int .i64 n) := by rw [k_a.cell]; rfl
  have x_a2 : w1.cell? ⟨w.heap.size, 2, none⟩ = some (.string s) := by rw [k_a.cell]; rfl
  have l_a := k_a.lt
  have x_b0 : w1.cell? ⟨w.heap.size + 1, 0, none⟩ = some (.int .i64 (k')) := by rw [k_b.cell]; rfl
  have x_b1 : w1.cell? ⟨w.heap.size + 1, 1, none⟩ = some (.int .i64 (n')) := by rw [k_b.cell]; rfl
  have x_b2 : w1.cell? ⟨w.heap.size + 1, 2, none⟩ = some (.string (s')) := by rw [k_b.cell]; rfl
  have l_b := k_b.lt
  have x_r0 : w1.cell? ⟨w.heap.size + 1 + 1, 0, none⟩ = some (.int .i64 0) := by rw [k_r.cell]; rfl
  have x_r1 : w1.cell? ⟨w.heap.size + 1 + 1, 1, none⟩ = some (.int .i64 0) := by rw [k_r.cell]; rfl
  have x_r2 : w1.cell? ⟨w.heap.size + 1 + 1, 2, none⟩ = some (.string ⟨#[]⟩) := by rw [k_r.cell]; rfl
  have l_r := k_r.lt
  go_wp2_with fail
  have k_a := k_a.alloc (.cells #[.int .i64 p, .int .i64 q, .string ⟨#[]⟩] 27)
  have k_b := k_b.alloc (.cells #[.int .i64 p, .int .i64 q, .string ⟨#[]⟩] 27)
  have k_r := k_r.alloc (.cells #[.int .i64 p, .int .i64 q, .string ⟨#[]⟩] 27)
  have k_x := Blk.new w1 27 #[.int .i64 p, .int .i64 q, .string ⟨#[]⟩]
  have bb := bb.alloc bb.size (.cells #[.int .i64 p, .int .i64 q, .string ⟨#[]⟩] 27)
  clear x_a0 x_a1 x_a2 l_a x_b0 x_b1 x_b2 l_b x_r0 x_r1 x_r2 l_r
  generalize w1.alloc (.cells #[.int .i64 p, .int .i64 q, .string ⟨#[]⟩] 27) = V1 at *
  refine (H2.out _).mono ?_
  rintro e w2 ⟨rfl, b2⟩
  have k_a := k_a.below b2 k_a.lt
  have k_b := k_b.below b2 k_b.lt
  have k_r := k_r.below b2 k_r.lt
  have k_x := k_x.below b2 k_x.lt
  have bb := bb.trans (b2.mono bb.size)
  have x_a0 : w2.cell? ⟨w.heap.size, 0, none⟩ = some (.int .i64 k) := by rw [k_a.cell]; rfl
  have x_a1 : w2.cell? ⟨w.heap.size, 1, none⟩ = some (.int .i64 n) := by rw [k_a.cell]; rfl
  have x_a2 : w2.cell? ⟨w.heap.size, 2, none⟩ = some (.string s) := by rw [k_a.cell]; rfl
  have l_a := k_a.lt
  have x_b0 : w2.cell? ⟨w.heap.size + 1, 0, none⟩ = some (.int .i64 (k')) := by rw [k_b.cell]; rfl
  have x_b1 : w2.cell? ⟨w.heap.size + 1, 1, none⟩ = some (.int .i64 (n')) := by rw [k_b.cell]; rfl
  have x_b2 : w2.cell? ⟨w.heap.size + 1, 2, none⟩ = some (.string (s')) := by rw [k_b.cell]; rfl
  have l_b := k_b.lt
  have x_r0 : w2.cell? ⟨w.heap.size + 1 + 1, 0, none⟩ = some (.int .i64 0) := by rw [k_r.cell]; rfl
  have x_r1 : w2.cell? ⟨w.heap.size + 1 + 1, 1, none⟩ = some (.int .i64 0) := by rw [k_r.cell]; rfl
  have x_r2 : w2.cell? ⟨w.heap.size + 1 + 1, 2, none⟩ = some (.string ⟨#[]⟩) := by rw [k_r.cell]; rfl
  have l_r := k_r.lt
  have x_x0 : w2.cell? ⟨w1.heap.size, 0, none⟩ = some (.int .i64 p) := by rw [k_x.cell]; rfl
  have x_x1 : w2.cell? ⟨w1.heap.size, 1, none⟩ = some (.int .i64 q) := by rw [k_x.cell]; rfl
  have x_x2 : w2.cell? ⟨w1.heap.size, 2, none⟩ = some (.string ⟨#[]⟩) := by rw [k_x.cell]; rfl
  have l_x := k_x.lt
  have z_r0 := k_r.frozen 0
  have z_r1 := k_r.frozen 1
  have z_r2 := k_r.frozen 2
  go_wp2
  exact bodyPost_ret (v := .tuple #[VS 0 0 ⟨#[]⟩, .int .i64 e1]) (by simp [results, Tryd.results11, go_sem, x_r0, x_r1, x_r2, l_r]) rfl ⟨rfl, ((((bb).setCell (p := ⟨w.heap.size + 1 + 1, 0, none⟩) (by first | exact Nat.le_refl _ | (simp; done) | (simp; omega) | omega) _).setCell (p := ⟨w.heap.size + 1 + 1, 1, none⟩) (by first | exact Nat.le_refl _ | (simp; done) | (simp; omega) | omega) _).setCell (p := ⟨w.heap.size + 1 + 1, 2, none⟩) (by first | exact Nat.le_refl _ | (simp; done) | (simp; omega) | omega) _).alloc (by first | exact bb.size | (simp; exact bb.size) | (have := bb.size; simp; omega)) _⟩
set_option maxHeartbeats 4000000 in
set_option maxRecDepth 100000 in
theorem bin_sub (w : World) (p q p' q' K N E : Int) (Z : ByteArray)  (C1 : ∀ W, Calls Tryd.prog 29 #[VS k n s] W (Ret (.tuple #[VN p q, .int .i64 0]) W)) (C2 : ∀ W, Calls Tryd.prog 29 #[VS k' n' s'] W (Ret (.tuple #[VN p' q', .int .i64 0]) W)) (C3 : ∀ W, Calls Tryd.prog 37 #[.string ⟨#[45]⟩, VN p q, VN p' q'] W (Ret (.tuple #[VS K N Z, .int .i64 E]) W)) : Calls Tryd.prog 11 #[.string ⟨#[45]⟩, VS k n s, VS k' n' s'] w (Ret (.tuple #[VS K N Z, .int .i64 E]) w) := by
  have H1 := Lib.hid C1
  have H2 := Lib.hid C2
  have H3 := Lib.hid C3
  clear C1 C2 C3
  go_enter Tryd.func11, Tryd.ntmps11
  go_wp2_with fail
  have k_a := ((Blk.new w 27 #[.int .i64 k, .int .i64 n, .string s]).alloc (.cells #[.int .i64 (k'), .int .i64 (n'), .string (s')] 27)).alloc (.cells #[.int .i64 0, .int .i64 0, .string ⟨#[]⟩] 27)
  have k_b := (Blk.new (w.alloc (.cells #[.int .i64 k, .int .i64 n, .string s] 27)) 27 #[.int .i64 (k'), .int .i64 (n'), .string (s')]).alloc (.cells #[.int .i64 0, .int .i64 0, .string ⟨#[]⟩] 27)
  rw [World.size_alloc] at k_b
  have k_r := Blk.new ((w.alloc (.cells #[.int .i64 k, .int .i64 n, .string s] 27)).alloc (.cells #[.int .i64 (k'), .int .i64 (n'), .string (s')] 27)) 27 #[.int .i64 0, .int .i64 0, .string ⟨#[]⟩]
  rw [World.size_alloc, World.size_alloc] at k_r
  have bb : Below w.heap.size w _ := ((((Below.refl _ _).alloc (Nat.le_refl _) (.cells #[.int .i64 k, .int .i64 n, .string s] 27)).alloc (by simp) (.cells #[.int .i64 (k'), .int .i64 (n'), .string (s')] 27)).alloc (by simp; omega) (.cells #[.int .i64 0, .int .i64 0, .string ⟨#[]⟩] 27))
  generalize (((w.alloc (.cells #[.int .i64 k, .int .i64 n, .string s] 27)).alloc (.cells #[.int .i64 (k'), .int .i64 (n'), .string (s')] 27)).alloc (.cells #[.int .i64 0, .int .i64 0, .string ⟨#[]⟩] 27)) = W0 at *
  refine (H1.out _).mono ?_
  rintro e w1 ⟨rfl, b1⟩
  have k_a := k_a.below b1 k_a.lt
  have k_b := k_b.below b1 k_b.lt
  have k_r := k_r.below b1 k_r.lt
  have bb := bb.trans (b1.mono bb.size)
  have x_a0 : w1.cell? ⟨w.heap.size, 0, none⟩ = some (.int .i64 k) := by rw [k_a.cell]; rfl
  have x_a1 : w1.cell? ⟨w.heap.size, 1, none⟩ = some (.int .i64 n) := by rw [k_a.cell]; rfl
  have x_a2 : w1.cell? ⟨w.heap.size, 2, none⟩ = some (.string s) := by rw [k_a.cell]; rfl
  have l_a := k_a.lt
  have x_b0 : w1.cell? ⟨w.heap.size + 1, 0, none⟩ = some (.int .i64 (k')) := by rw [k_b.cell]; rfl
  have x_b1 : w1.cell? ⟨w.heap.size + 1, 1, none⟩ = some (.int .i64 (n')) := by rw [k_b.cell]; rfl
  have x_b2 : w1.cell? ⟨w.heap.size + 1, 2, none⟩ = some (.string (s')) := by rw [k_b.cell]; rfl
  have l_b := k_b.lt
  have x_r0 : w1.cell? ⟨w.heap.size + 1 + 1, 0, none⟩ = some (.int .i64 0) := by rw [k_r.cell]; rfl
  have x_r1 : w1.cell? ⟨w.heap.size + 1 + 1, 1, none⟩ = some (.int .i64 0) := by rw [k_r.cell]; rfl
  have x_r2 : w1.cell? ⟨w.heap.size + 1 + 1, 2, none⟩ = some (.string ⟨#[]⟩) := by rw [k_r.cell]; rfl
  have l_r := k_r.lt
  go_wp2_with fail
  have k_a := k_a.alloc (.cells #[.int .i64 p, .int .i64 q, .string ⟨#[]⟩] 27)
  have k_b := k_b.alloc (.cells #[.int .i64 p, .int .i64 q, .string ⟨#[]⟩] 27)
  have k_r := k_r.alloc (.cells #[.int .i64 p, .int .i64 q, .string ⟨#[]⟩] 27)
  have k_x := Blk.new w1 27 #[.int .i64 p, .int .i64 q, .string ⟨#[]⟩]
  have bb := bb.alloc bb.size (.cells #[.int .i64 p, .int .i64 q, .string ⟨#[]⟩] 27)
  clear x_a0 x_a1 x_a2 l_a x_b0 x_b1 x_b2 l_b x_r0 x_r1 x_r2 l_r
  generalize w1.alloc (.cells #[.int .i64 p, .int .i64 q, .string ⟨#[]⟩] 27) = V1 at *
  refine (H2.out _).mono ?_
  rintro e w2 ⟨rfl, b2⟩
  have k_a := k_a.below b2 k_a.lt
  have k_b := k_b.below b2 k_b.lt
  have k_r := k_r.below b2 k_r.lt
  have k_x := k_x.below b2 k_x.lt
  have bb := bb.trans (b2.mono bb.size)
  have x_a0 : w2.cell? ⟨w.heap.size, 0, none⟩ = some (.int .i64 k) := by rw [k_a.cell]; rfl
  have x_a1 : w2.cell? ⟨w.heap.size, 1, none⟩ = some (.int .i64 n) := by rw [k_a.cell]; rfl
  have x_a2 : w2.cell? ⟨w.heap.size, 2, none⟩ = some (.string s) := by rw [k_a.cell]; rfl
  have l_a := k_a.lt
  have x_b0 : w2.cell? ⟨w.heap.size + 1, 0, none⟩ = some (.int .i64 (k')) := by rw [k_b.cell]; rfl
  have x_b1 : w2.cell? ⟨w.heap.size + 1, 1, none⟩ = some (.int .i64 (n')) := by rw [k_b.cell]; rfl
  have x_b2 : w2.cell? ⟨w.heap.size + 1, 2, none⟩ = some (.string (s')) := by rw [k_b.cell]; rfl
  have l_b := k_b.lt
  have x_r0 : w2.cell? ⟨w.heap.size + 1 + 1, 0, none⟩ = some (.int .i64 0) := by rw [k_r.cell]; rfl
  have x_r1 : w2.cell? ⟨w.heap.size + 1 + 1, 1, none⟩ = some (.int .i64 0) := by rw [k_r.cell]; rfl
  have x_r2 : w2.cell? ⟨w.heap.size + 1 + 1, 2, none⟩ = some (.string ⟨#[]⟩) := by rw [k_r.cell]; rfl
  have l_r := k_r.lt
  have x_x0 : w2.cell? ⟨w1.heap.size, 0, none⟩ = some (.int .i64 p) := by rw [k_x.cell]; rfl
  have x_x1 : w2.cell? ⟨w1.heap.size, 1, none⟩ = some (.int .i64 q) := by rw [k_x.cell]; rfl
  have x_x2 : w2.cell? ⟨w1.heap.size, 2, none⟩ = some (.string ⟨#[]⟩) := by rw [k_x.cell]; rfl
  have l_x := k_x.lt
  go_wp2_with fail
  have k_a := k_a.alloc (.cells #[.int .i64 (p'), .int .i64 (q'), .string ⟨#[]⟩] 27)
  have k_b := k_b.alloc (.cells #[.int .i64 (p'), .int .i64 (q'), .string ⟨#[]⟩] 27)
  have k_r := k_r.alloc (.cells #[.int .i64 (p'), .int .i64 (q'), .string ⟨#[]⟩] 27)
  have k_x := k_x.alloc (.cells #[.int .i64 (p'), .int .i64 (q'), .string ⟨#[]⟩] 27)
  have k_y := Blk.new w2 27 #[.int .i64 (p'), .int .i64 (q'), .string ⟨#[]⟩]
  have bb := bb.alloc bb.size (.cells #[.int .i64 (p'), .int .i64 (q'), .string ⟨#[]⟩] 27)
  clear x_a0 x_a1 x_a2 l_a x_b0 x_b1 x_b2 l_b x_r0 x_r1 x_r2 l_r x_x0 x_x1 x_x2 l_x
  generalize w2.alloc (.cells #[.int .i64 (p'), .int .i64 (q'), .string ⟨#[]⟩] 27) = V2 at *
  refine (H3.out _).mono ?_
  rintro e w3 ⟨rfl, b3⟩
  have k_a := k_a.below b3 k_a.lt
  have k_b := k_b.below b3 k_b.lt
  have k_r := k_r.below b3 k_r.lt
  have k_x := k_x.below b3 k_x.lt
  have k_y := k_y.below b3 k_y.lt
  have bb := bb.trans (b3.mono bb.size)
  have x_a0 : w3.cell? ⟨w.heap.size, 0, none⟩ = some (.int .i64 k) := by rw [k_a.cell]; rfl
  have x_a1 : w3.cell? ⟨w.heap.size, 1, none⟩ = some (.int .i64 n) := by rw [k_a.cell]; rfl
  have x_a2 : w3.cell? ⟨w.heap.size, 2, none⟩ = some (.string s) := by rw [k_a.cell]; rfl
  have l_a := k_a.lt
  have x_b0 : w3.cell? ⟨w.heap.size + 1, 0, none⟩ = some (.int .i64 (k')) := by rw [k_b.cell]; rfl
  have x_b1 : w3.cell? ⟨w.heap.size + 1, 1, none⟩ = some (.int .i64 (n')) := by rw [k_b.cell]; rfl
  have x_b2 : w3.cell? ⟨w.heap.size + 1, 2, none⟩ = some (.string (s')) := by rw [k_b.cell]; rfl
  have l_b := k_b.lt
  have x_r0 : w3.cell? ⟨w.heap.size + 1 + 1, 0, none⟩ = some (.int .i64 0) := by rw [k_r.cell]; rfl
  have x_r1 : w3.cell? ⟨w.heap.size + 1 + 1, 1, none⟩ = some (.int .i64 0) := by rw [k_r.cell]; rfl
  have x_r2 : w3.cell? ⟨w.heap.size + 1 + 1, 2, none⟩ = some (.string ⟨#[]⟩) := by rw [k_r.cell]; rfl
  have l_r := k_r.lt
  have x_x0 : w3.cell? ⟨w1.heap.size, 0, none⟩ = some (.int .i64 p) := by rw [k_x.cell]; rfl
  have x_x1 : w3.cell? ⟨w1.heap.size, 1, none⟩ = some (.int .i64 q) := by rw [k_x.cell]; rfl
  have x_x2 : w3.cell? ⟨w1.heap.size, 2, none⟩ = some (.string ⟨#[]⟩) := by rw [k_x.cell]; rfl
  have l_x := k_x.lt
  have x_y0 : w3.cell? ⟨w2.heap.size, 0, none⟩ = some (.int .i64 (p')) := by rw [k_y.cell]; rfl
  have x_y1 : w3.cell? ⟨w2.heap.size, 1, none⟩ = some (.int .i64 (q')) := by rw [k_y.cell]; rfl
  have x_y2 : w3.cell? ⟨w2.heap.size, 2, none⟩ = some (.string ⟨#[]⟩) := by rw [k_y.cell]; rfl
  have l_y := k_y.lt
  have z_r0 := k_r.frozen 0
  have z_r1 := k_r.frozen 1
  have z_r2 := k_r.frozen 2
  go_wp2
  exact bodyPost_ret (v := .tuple #[VS K N Z, .int .i64 E]) (by simp [results, Tryd.results11, go_sem, x_r0, x_r1, x_r2, l_r]) rfl ⟨rfl, (((bb).setCell (p := ⟨w.heap.size + 1 + 1, 0, none⟩) (by first | exact Nat.le_refl _ | (simp; done) | (simp; omega) | omega) _).setCell (p := ⟨w.heap.size + 1 + 1, 1, none⟩) (by first | exact Nat.le_refl _ | (simp; done) | (simp; omega) | omega) _).setCell (p := ⟨w.heap.size + 1 + 1, 2, none⟩) (by first | exact Nat.le_refl _ | (simp; done) | (simp; omega) | omega) _⟩
set_option maxHeartbeats 4000000 in
set_option maxRecDepth 100000 in
theorem bin_mul_e1 (w : World) (p q e1 : Int) (he : ¬ e1 = 0)  (C1 : ∀ W, Calls Tryd.prog 29 #[VS k n s] W (Ret (.tuple #[VN p q, .int .i64 e1]) W)) : Calls Tryd.prog 11 #[.string ⟨#[42]⟩, VS k n s, VS k' n' s'] w (Ret (.tuple #[VS 0 0 ⟨#[]⟩, .int .i64 e1]) w) := by
  have H1 := Lib.hid C1
  clear C1
  have t1 : (e1 != 0) = true := by simpa using he
  have t2 : ¬ e1 = 0 := he
  go_enter Tryd.func11, Tryd.ntmps11
  go_wp2_with fail
  have k_a := ((Blk.new w 27 #[.int .i64 k, .int .i64 n, .string s]).alloc (.cells #[.int .i64 (k'), .int .i64 (n'), .string (s')] 27)).alloc (.cells #[.int .i64 0, .int .i64 0, .string ⟨#[]⟩] 27)
  have k_b := (Blk.new (w.alloc (.cells #[.int .i64 k, .int .i64 n, .string s] 27)) 27 #[.int .i64 (k'), .int .i64 (n'), .string (s')]).alloc (.cells #[.int .i64 0, .int .i64 0, .string ⟨#[]⟩] 27)
  rw [World.size_alloc] at k_b
  have k_r := Blk.new ((w.alloc (.cells #[.int .i64 k, .int .i64 n, .string s] 27)).alloc (.cells #[.int .i64 (k'), .int .i64 (n'), .string (s')] 27)) 27 #[.int .i64 0, .int .i64 0, .string ⟨#[]⟩]
  rw [World.size_alloc, World.size_alloc] at k_r
  have bb : Below w.heap.size w _ := ((((Below.refl _ _).alloc (Nat.le_refl _) (.cells #[.int .i64 k, .int .i64 n, .string s] 27)).alloc (by simp) (.cells #[.int .i64 (k'), .int .i64 (n'), .string (s')] 27)).alloc (by simp; omega) (.cells #[.int .i64 0, .int .i64 0, .string ⟨#[]⟩] 27))
  generalize (((w.alloc (.cells #[.int .i64 k, .int .i64 n, .string s] 27)).alloc (.cells #[.int .i64 (k'), .int .i64 (n'), .string (s')] 27)).alloc (.cells #[.int .i64 0, .int .i64 0, .string ⟨#[]⟩] 27)) = W0 at *
  refine (H1.out _).mono ?_
  rintro e w1 ⟨rfl, b1⟩
  have k_a := k_a.below b1 k_a.lt
  have k_b := k_b.below b1 k_b.lt
  have k_r := k_r.below b1 k_r.lt
  have bb := bb.trans (b1.mono bb.size)
  have x_a0 : w1.cell? ⟨w.heap.size, 0, none⟩ = some (.int .i64 k) := by rw [k_a.cell]; rfl
  have x_a1 : w1.cell? ⟨w.heap.size, 1, none⟩ = some (.int .i64 n) := by rw [k_a.cell]; rfl
  have x_a2 : w1.cell? ⟨w.heap.size, 2, none⟩ = some (.string s) := by rw [k_a.cell]; rfl
  have l_a := k_a.lt
  have x_b0 : w1.cell? ⟨w.heap.size + 1, 0, none⟩ = some (.int .i64 (k')) := by rw [k_b.cell]; rfl
  have x_b1 : w1.cell? ⟨w.heap.size + 1, 1, none⟩ = some (.int .i64 (n')) := by rw [k_b.cell]; rfl
  have x_b2 : w1.cell? ⟨w.heap.size + 1, 2, none⟩ = some (.string (s')) := by rw [k_b.cell]; rfl
  have l_b := k_b.lt
  have x_r0 : w1.cell? ⟨w.heap.size + 1 + 1, 0, none⟩ = some (.int .i64 0) := by rw [k_r.cell]; rfl
  have x_r1 : w1.cell? ⟨w.heap.size + 1 + 1, 1, none⟩ = some (.int .i64 0) := by rw [k_r.cell]; rfl
  have x_r2 : w1.cell? ⟨w.heap.size + 1 + 1, 2, none⟩ = some (.string ⟨#[]⟩) := by rw [k_r.cell]; rfl
  have l_r := k_r.lt
  have z_r0 := k_r.frozen 0
  have z_r1 := k_r.frozen 1
  have z_r2 := k_r.frozen 2
  go_wp2
  exact bodyPost_ret (v := .tuple #[VS 0 0 ⟨#[]⟩, .int .i64 e1]) (by simp [results, Tryd.results11, go_sem, x_r0, x_r1, x_r2, l_r]) rfl ⟨rfl, ((((bb).setCell (p := ⟨w.heap.size + 1 + 1, 0, none⟩) (by first | exact Nat.le_refl _ | (simp; done) | (simp; omega) | omega) _).setCell (p := ⟨w.heap.size + 1 + 1, 1, none⟩) (by first | exact Nat.le_refl _ | (simp; done) | (simp; omega) | omega) _).setCell (p := ⟨w.heap.size + 1 + 1, 2, none⟩) (by first | exact Nat.le_refl _ | (simp; done) | (simp; omega) | omega) _).alloc (by first | exact bb.size | (simp; exact bb.size) | (have := bb.size; simp; omega)) _⟩
set_option maxHeartbeats 4000000 in
set_option maxRecDepth 100000 in
theorem bin_mul_e2 (w : World) (p q p' q' e1 : Int) (he : ¬ e1 = 0)  (C1 : ∀ W, Calls Tryd.prog 29 #[VS k n s] W (Ret (.tuple #[VN p q, .int .i64 0]) W)) (C2 : ∀ W, Calls Tryd.prog 29 #[VS k' n' s'] W (Ret (.tuple #[VN p' q', .int .i64 e1]) W)) : Calls Tryd.prog 11 #[.string ⟨#[42]⟩, VS k n s, VS k' n' s'] w (Ret (.tuple #[VS 0 0 ⟨#[]⟩, .int .i64 e1]) w) := by
  have H1 := Lib.hid C1
  have H2 := Lib.hid C2
  clear C1 C2
  have t1 : (e1 != 0) = true := by simpa using he
  have t2 : ¬ e1 = 0 := he
  go_enter Tryd.func11, Tryd.ntmps11
  go_wp2_with fail
  have k_a := ((Blk.new w 27 #[.int .i64 k, .int .i64 n, .string s]).alloc (.cells #[.int .i64 (k'), .int .i64 (n'), .string (s')] 27)).alloc (.cells #[.int .i64 0, .int .i64 0, .string ⟨#[]⟩] 27)
  have k_b := (Blk.new (w.alloc (.cells #[.int .i64 k, .int .i64 n, .string s] 27)) 27 #[.int .i64 (k'), .int .i64 (n'), .string (s')]).alloc (.cells #[.int .i64 0, .int .i64 0, .string ⟨#[]⟩] 27)
  rw [World.size_alloc] at k_b
  have k_r := Blk.new ((w.alloc (.cells #[.int .i64 k, .int .i64 n, .string s] 27)).alloc (.cells #[.int .i64 (k'), .int .i64 (n'), .string (s')] 27)) 27 #[.int .i64 0, .int .i64 0, .string ⟨#[]⟩]
  rw [World.size_alloc, World.size_alloc] at k_r
  have bb : Below w.heap.size w _ := ((((Below.refl _ _).alloc (Nat.le_refl _) (.cells #[.int .i64 k, .int .i64 n, .string s] 27)).alloc (by simp) (.cells #[.int .i64 (k'), .int .i64 (n'), .string (s')] 27)).alloc (by simp; omega) (.cells #[.int .i64 0, .int .i64 0, .string ⟨#[]⟩] 27))
  generalize (((w.alloc (.cells #[.int .i64 k, .int .i64 n, .string s] 27)).alloc (.cells #[.int .i64 (k'), .int .i64 (n'), .string (s')] 27)).alloc (.cells #[.int .i64 0, .int .i64 0, .string ⟨#[]⟩] 27)) = W0 at *
  refine (H1.out _).mono ?_
  rintro e w1 ⟨rfl, b1⟩
  have k_a := k_a.below b1 k_a.lt
  have k_b := k_b.below b1 k_b.lt
  have k_r := k_r.below b1 k_r.lt
  have bb := bb.trans (b1.mono bb.size)
  have x_a0 : w1.cell? ⟨w.heap.size, 0, none⟩ = some (.int .i64 k) := by rw [k_a.cell]; rfl
  have x_a1 : w1.cell? ⟨w.heap.size, 1, none⟩ = some (.int .i64 n) := by rw [k_a.cell]; rfl
  have x_a2 : w1.cell? ⟨w.heap.size, 2, none⟩ = some (.string s) := by rw [k_a.cell]; rfl
  have l_a := k_a.lt
  have x_b0 : w1.cell? ⟨w.heap.size + 1, 0, none⟩ = some (.int .i64 (k')) := by rw [k_b.cell]; rfl
  have x_b1 : w1.cell? ⟨w.heap.size + 1, 1, none⟩ = some (.int .i64 (n')) := by rw [k_b.cell]; rfl
  have x_b2 : w1.cell? ⟨w.heap.size + 1, 2, none⟩ = some (.string (s')) := by rw [k_b.cell]; rfl
  have l_b := k_b.lt
  have x_r0 : w1.cell? ⟨w.heap.size + 1 + 1, 0, none⟩ = some (.int .i64 0) := by rw [k_r.cell]; rfl
  have x_r1 : w1.cell? ⟨w.heap.size + 1 + 1, 1, none⟩ = some (.int .i64 0) := by rw [k_r.cell]; rfl
  have x_r2 : w1.cell? ⟨w.heap.size + 1 + 1, 2, none⟩ = some (.string ⟨#[]⟩) := by rw [k_r.cell]; rfl
  have l_r := k_r.lt
  go_wp2_with fail
  have k_a := k_a.alloc (.cells #[.int .i64 p, .int .i64 q, .string ⟨#[]⟩] 27)
  have k_b := k_b.alloc (.cells #[.int .i64 p, .int .i64 q, .string ⟨#[]⟩] 27)
  have k_r := k_r.alloc (.cells #[.int .i64 p, .int .i64 q, .string ⟨#[]⟩] 27)
  have k_x := Blk.new w1 27 #[.int .i64 p, .int .i64 q, .string ⟨#[]⟩]
  have bb := bb.alloc bb.size (.cells #[.int .i64 p, .int .i64 q, .string ⟨#[]⟩] 27)
  clear x_a0 x_a1 x_a2 l_a x_b0 x_b1 x_b2 l_b x_r0 x_r1 x_r2 l_r
  generalize w1.alloc (.cells #[.int .i64 p, .int .i64 q, .string ⟨#[]⟩] 27) = V1 at *
  refine (H2.out _).mono ?_
  rintro e w2 ⟨rfl, b2⟩
  have k_a := k_a.below b2 k_a.lt
  have k_b := k_b.below b2 k_b.lt
  have k_r := k_r.below b2 k_r.lt
  have k_x := k_x.below b2 k_x.lt
  have bb := bb.trans (b2.mono bb.size)
  have x_a0 : w2.cell? ⟨w.heap.size, 0, none⟩ = some (.int .i64 k) := by rw [k_a.cell]; rfl
  have x_a1 : w2.cell? ⟨w.heap.size, 1, none⟩ = some (.int .i64 n) := by rw [k_a.cell]; rfl
  have x_a2 : w2.cell? ⟨w.heap.size, 2, none⟩ = some (.string s) := by rw [k_a.cell]; rfl
  have l_a := k_a.lt
  have x_b0 : w2.cell? ⟨w.heap.size + 1, 0, none⟩ = some (.int .i64 (k')) := by rw [k_b.cell]; rfl
  have x_b1 : w2.cell? ⟨w.heap.size + 1, 1, none⟩ = some (.int .i64 (n')) := by rw [k_b.cell]; rfl
  have x_b2 : w2.cell? ⟨w.heap.size + 1, 2, none⟩ = some (.string (s')) := by rw [k_b.cell]; rfl
  have l_b := k_b.lt
  have x_r0 : w2.cell? ⟨w.heap.size + 1 + 1, 0, none⟩ = some (.int .i64 0) := by rw [k_r.cell]; rfl
  have x_r1 : w2.cell? ⟨w.heap.size + 1 + 1, 1, none⟩ = some (.int .i64 0) := by rw [k_r.cell]; rfl
  have x_r2 : w2.cell? ⟨w.heap.size + 1 + 1, 2, none⟩ = some (.string ⟨#[]⟩) := by rw [k_r.cell]; rfl
  have l_r := k_r.lt
  have x_x0 : w2.cell? ⟨w1.heap.size, 0, none⟩ = some (.int .i64 p) := by rw [k_x.cell]; rfl
  have x_x1 : w2.cell? ⟨w1.heap.size, 1, none⟩ = some (.int .i64 q) := by rw [k_x.cell]; rfl
  have x_x2 : w2.cell? ⟨w1.heap.size, 2, none⟩ = some (.string ⟨#[]⟩) := by rw [k_x.cell]; rfl
  have l_x := k_x.lt
  have z_r0 := k_r.frozen 0
  have z_r1 := k_r.frozen 1
  have z_r2 := k_r.frozen 2
  go_wp2
  exact bodyPost_ret (v := .tuple #[VS 0 0 ⟨#[]⟩, .int .i64 e1]) (by simp [results, Tryd.results11, go_sem, x_r0, x_r1, x_r2, l_r]) rfl ⟨rfl, ((((bb).setCell (p := ⟨w.heap.size + 1 + 1, 0, none⟩) (by first | exact Nat.le_refl _ | (simp; done) | (simp; omega) | omega) _).setCell (p := ⟨w.heap.size + 1 + 1, 1, none⟩) (by first | exact Nat.le_refl _ | (simp; done) | (simp; omega) | omega) _).setCell (p := ⟨w.heap.size + 1 + 1, 2, none⟩) (by first | exact Nat.le_refl _ | (simp; done) | (simp; omega) | omega) _).alloc (by first | exact bb.size | (simp; exact bb.size) | (have := bb.size; simp; omega)) _⟩
set_option maxHeartbeats 4000000 in
set_option maxRecDepth 100000 in
theorem bin_mul (w : World) (p q p' q' K N E : Int) (Z : ByteArray)  (C1 : ∀ W, Calls Tryd.prog 29 #[VS k n s] W (Ret (.tuple #[VN p q, .int .i64 0]) W)) (C2 : ∀ W, Calls Tryd.prog 29 #[VS k' n' s'] W (Ret (.tuple #[VN p' q', .int .i64 0]) W)) (C3 : ∀ W, Calls Tryd.prog 37 #[.string ⟨#[42]⟩, VN p q, VN p' q'] W (Ret (.tuple #[VS K N Z, .int .i64 E]) W)) : Calls Tryd.prog 11 #[.string ⟨#[42]⟩, VS k n s, VS k' n' s'] w (Ret (.tuple #[VS K N Z, .int .i64 E]) w) := by
  have H1 := Lib.hid C1
  have H2 := Lib.hid C2
  have H3 := Lib.hid C3
  clear C1 C2 C3
  go_enter Tryd.func11, Tryd.ntmps11
  go_wp2_with fail
  have k_a := ((Blk.new w 27 #[.int .i64 k, .int .i64 n, .string s]).alloc (.cells #[.int .i64 (k'), .int .i64 (n'), .string (s')] 27)).alloc (.cells #[.int .i64 0, .int .i64 0, .string ⟨#[]⟩] 27)
  have k_b := (Blk.new (w.alloc (.cells #[.int .i64 k, .int .i64 n, .string s] 27)) 27 #[.int .i64 (k'), .int .i64 (n'), .string (s')]).alloc (.cells #[.int .i64 0, .int .i64 0, .string ⟨#[]⟩] 27)
  rw [World.size_alloc] at k_b
  have k_r := Blk.new ((w.alloc (.cells #[.int .i64 k, .int .i64 n, .string s] 27)).alloc (.cells #[.int .i64 (k'), .int .i64 (n'), .string (s')] 27)) 27 #[.int .i64 0, .int .i64 0, .string ⟨#[]⟩]
  rw [World.size_alloc, World.size_alloc] at k_r
  have bb : Below w.heap.size w _ := ((((Below.refl _ _).alloc (Nat.le_refl _) (.cells #[.int .i64 k, .int .i64 n, .string s] 27)).alloc (by simp) (.cells #[.int .i64 (k'), .int .i64 (n'), .string (s')] 27)).alloc (by simp; omega) (.cells #[.int .i64 0, .int .i64 0, .string ⟨#[]⟩] 27))
  generalize (((w.alloc (.cells #[.int .i64 k, .int .i64 n, .string s] 27)).alloc (.cells #[.int .i64 (k'), .int .i64 (n'), .string (s')] 27)).alloc (.cells #[.int .i64 0, .int .i64 0, .string ⟨#[]⟩] 27)) = W0 at *
  refine (H1.out _).mono ?_
  rintro e w1 ⟨rfl, b1⟩
  have k_a := k_a.below b1 k_a.lt
  have k_b := k_b.below b1 k_b.lt
  have k_r := k_r.below b1 k_r.lt
  have bb := bb.trans (b1.mono bb.size)
  have x_a0 : w1.cell? ⟨w.heap.size, 0, none⟩ = some (.int .i64 k) := by rw [k_a.cell]; rfl
  have x_a1 : w1.cell? ⟨w.heap.size, 1, none⟩ = some (.int .i64 n) := by rw [k_a.cell]; rfl
  have x_a2 : w1.cell? ⟨w.heap.size, 2, none⟩ = some (.string s) := by rw [k_a.cell]; rfl
  have l_a := k_a.lt
  have x_b0 : w1.cell? ⟨w.heap.size + 1, 0, none⟩ = some (.int .i64 (k')) := by rw [k_b.cell]; rfl
  have x_b1 : w1.cell? ⟨w.heap.size + 1, 1, none⟩ = some (.int .i64 (n')) := by rw [k_b.cell]; rfl
  have x_b2 : w1.cell? ⟨w.heap.size + 1, 2, none⟩ = some (.string (s')) := by rw [k_b.cell]; rfl
  have l_b := k_b.lt
  have x_r0 : w1.cell? ⟨w.heap.size + 1 + 1, 0, none⟩ = some (.int .i64 0) := by rw [k_r.cell]; rfl
  have x_r1 : w1.cell? ⟨w.heap.size + 1 + 1, 1, none⟩ = some (.int .i64 0) := by rw [k_r.cell]; rfl
  have x_r2 : w1.cell? ⟨w.heap.size + 1 + 1, 2, none⟩ = some (.string ⟨#[]⟩) := by rw [k_r.cell]; rfl
  have l_r := k_r.lt
  go_wp2_with fail
  have k_a := k_a.alloc (.cells #[.int .i64 p, .int .i64 q, .string ⟨#[]⟩] 27)
  have k_b := k_b.alloc (.cells #[.int .i64 p, .int .i64 q, .string ⟨#[]⟩] 27)
  have k_r := k_r.alloc (.cells #[.int .i64 p, .int .i64 q, .string ⟨#[]⟩] 27)
  have k_x := Blk.new w1 27 #[.int .i64 p, .int .i64 q, .string ⟨#[]⟩]
  have bb := bb.alloc bb.size (.cells #[.int .i64 p, .int .i64 q, .string ⟨#[]⟩] 27)
  clear x_a0 x_a1 x_a2 l_a x_b0 x_b1 x_b2 l_b x_r0 x_r1 x_r2 l_r
  generalize w1.alloc (.cells #[.int .i64 p, .int .i64 q, .string ⟨#[]⟩] 27) = V1 at *
  refine (H2.out _).mono ?_
  rintro e w2 ⟨rfl, b2⟩
  have k_a := k_a.below b2 k_a.lt
  have k_b := k_b.below b2 k_b.lt
  have k_r := k_r.below b2 k_r.lt
  have k_x := k_x.below b2 k_x.lt
  have bb := bb.trans (b2.mono bb.size)
  have x_a0 : w2.cell? ⟨w.heap.size, 0, none⟩ = some (.int .i64 k) := by rw [k_a.cell]; rfl
  have x_a1 : w2.cell? ⟨w.heap.size, 1, none⟩ = some (.int .i64 n) := by rw [k_a.cell]; rfl
  have x_a2 : w2.cell? ⟨w.heap.size, 2, none⟩ = some (.string s) := by rw [k_a.cell]; rfl
  have l_a := k_a.lt
  have x_b0 : w2.cell? ⟨w.heap.size + 1, 0, none⟩ = some (.int .i64 (k')) := by rw [k_b.cell]; rfl
  have x_b1 : w2.cell? ⟨w.heap.size + 1, 1, none⟩ = some (.int .i64 (n')) := by rw [k_b.cell]; rfl
  have x_b2 : w2.cell? ⟨w.heap.size + 1, 2, none⟩ = some (.string (s')) := by rw [k_b.cell]; rfl
  have l_b := k_b.lt
  have x_r0 : w2.cell? ⟨w.heap.size + 1 + 1, 0, none⟩ = some (.int .i64 0) := by rw [k_r.cell]; rfl
  have x_r1 : w2.cell? ⟨w.heap.size + 1 + 1, 1, none⟩ = some (.int .i64 0) := by rw [k_r.cell]; rfl
  have x_r2 : w2.cell? ⟨w.heap.size + 1 + 1, 2, none⟩ = some (.string ⟨#[]⟩) := by rw [k_r.cell]; rfl
  have l_r := k_r.lt
  have x_x0 : w2.cell? ⟨w1.heap.size, 0, none⟩ = some (.int .i64 p) := by rw [k_x.cell]; rfl
  have x_x1 : w2.cell? ⟨w1.heap.size, 1, none⟩ = some (.int .i64 q) := by rw [k_x.cell]; rfl
  have x_x2 : w2.cell? ⟨w1.heap.size, 2, none⟩ = some (.string ⟨#[]⟩) := by rw [k_x.cell]; rfl
  have l_x := k_x.lt
  go_wp2_with fail
  have k_a := k_a.alloc (.cells #[.int .i64 (p'), .int .i64 (q'), .string ⟨#[]⟩] 27)
  have k_b := k_b.alloc (.cells #[.int .i64 (p'), .int .i64 (q'), .string ⟨#[]⟩] 27)
  have k_r := k_r.alloc (.cells #[.int .i64 (p'), .int .i64 (q'), .string ⟨#[]⟩] 27)
  have k_x := k_x.alloc (.cells #[.int .i64 (p'), .int .i64 (q'), .string ⟨#[]⟩] 27)
  have k_y := Blk.new w2 27 #[.int .i64 (p'), .int .i64 (q'), .string ⟨#[]⟩]
  have bb := bb.alloc bb.size (.cells #[.int .i64 (p'), .int .i64 (q'), .string ⟨#[]⟩] 27)
  clear x_a0 x_a1 x_a2 l_a x_b0 x_b1 x_b2 l_b x_r0 x_r1 x_r2 l_r x_x0 x_x1 x_x2 l_x
  generalize w2.alloc (.cells #[.int .i64 (p'), .int .i64 (q'), .string ⟨#[]⟩] 27) = V2 at *
  refine (H3.out _).mono ?_
  rintro e w3 ⟨rfl, b3⟩
  have k_a := k_a.below b3 k_a.lt
  have k_b := k_b.below b3 k_b.lt
  have k_r := k_r.below b3 k_r.lt
  have k_x := k_x.below b3 k_x.lt
  have k_y := k_y.below b3 k_y.lt
  have bb := bb.trans (b3.mono bb.size)
  have x_a0 : w3.cell? ⟨w.heap.size, 0, none⟩ = some (.int .i64 k) := by rw [k_a.cell]; rfl
  have x_a1 : w3.cell? ⟨w.heap.size, 1, none⟩ = some (.int .i64 n) := by rw [k_a.cell]; rfl
  have x_a2 : w3.cell? ⟨w.heap.size, 2, none⟩ = some (.string s) := by rw [k_a.cell]; rfl
  have l_a := k_a.lt
  have x_b0 : w3.cell? ⟨w.heap.size + 1, 0, none⟩ = some (.int .i64 (k')) := by rw [k_b.cell]; rfl
  have x_b1 : w3.cell? ⟨w.heap.size + 1, 1, none⟩ = some (.int .i64 (n')) := by rw [k_b.cell]; rfl
  have x_b2 : w3.cell? ⟨w.heap.size + 1, 2, none⟩ = some (.string (s')) := by rw [k_b.cell]; rfl
  have l_b := k_b.lt
  have x_r0 : w3.cell? ⟨w.heap.size + 1 + 1, 0, none⟩ = some (.int .i64 0) := by rw [k_r.cell]; rfl
  have x_r1 : w3.cell? ⟨w.heap.size + 1 + 1, 1, none⟩ = some (.int .i64 0) := by rw [k_r.cell]; rfl
  have x_r2 : w3.cell? ⟨w.heap.size + 1 + 1, 2, none⟩ = some (.string ⟨#[]⟩) := by rw [k_r.cell]; rfl
  have l_r := k_r.lt
  have x_x0 : w3.cell? ⟨w1.heap.size, 0, none⟩ = some (.int .i64 p) := by rw [k_x.cell]; rfl
  have x_x1 : w3.cell? ⟨w1.heap.size, 1, none⟩ = some (.int .i64 q) := by rw [k_x.cell]; rfl
  have x_x2 : w3.cell? ⟨w1.heap.size, 2, none⟩ = some (.string ⟨#[]⟩) := by rw [k_x.cell]; rfl
  have l_x := k_x.lt
  have x_y0 : w3.cell? ⟨w2.heap.size, 0, none⟩ = some (.int .i64 (p')) := by rw [k_y.cell]; rfl
  have x_y1 : w3.cell? ⟨w2.heap.size, 1, none⟩ = some (.int .i64 (q')) := by rw [k_y.cell]; rfl
  have x_y2 : w3.cell? ⟨w2.heap.size, 2, none⟩ = some (.string ⟨#[]⟩) := by rw [k_y.cell]; rfl
  have l_y := k_y.lt
  have z_r0 := k_r.frozen 0
  have z_r1 := k_r.frozen 1
  have z_r2 := k_r.frozen 2
  go_wp2
  exact bodyPost_ret (v := .tuple #[VS K N Z, .int .i64 E]) (by simp [results, Tryd.results11, go_sem, x_r0, x_r1, x_r2, l_r]) rfl ⟨rfl, (((bb).setCell (p := ⟨w.heap.size + 1 + 1, 0, none⟩) (by first | exact Nat.le_refl _ | (simp; done) | (simp; omega) | omega) _).setCell (p := ⟨w.heap.size + 1 + 1, 1, none⟩) (by first | exact Nat.le_refl _ | (simp; done) | (simp; omega) | omega) _).setCell (p := ⟨w.heap.size + 1 + 1, 2, none⟩) (by first | exact Nat.le_refl _ | (simp; done) | (simp; omega) | omega) _⟩
set_option maxHeartbeats 4000000 in
set_option maxRecDepth 100000 in
theorem bin_div_e1 (w : World) (p q e1 : Int) (he : ¬ e1 = 0)  (C1 : ∀ W, Calls Tryd.prog 29 #[VS k n s] W (Ret (.tuple #[VN p q, .int .i64 e1]) W)) : Calls Tryd.prog 11 #[.string ⟨#[47]⟩, VS k n s, VS k' n' s'] w (Ret (.tuple #[VS 0 0 ⟨#[]⟩, .int .i64 e1]) w) := by
  have H1 := Lib.hid C1
  clear C1
  have t1 : (e1 != 0) = true := by simpa using he
  have t2 : ¬ e1 = 0 := he
  go_enter Tryd.func11, Tryd.ntmps11
  go_wp2_with fail
  have k_a := ((Blk.new w 27 #[.int .i64 k, .int .i64 n, .string s]).alloc (.cells #[.int .i64 (k'), .int .i64 (n'), .string (s')] 27)).alloc (.cells #[.int .i64 0, .int .i64 0, .string ⟨#[]⟩] 27)
  have k_b := (Blk.new (w.alloc (.cells #[.int .i64 k, .int .i64 n, .string s] 27)) 27 #[.int .i64 (k'), .int .i64 (n'), .string (s')]).alloc (.cells #[.int .i64 0, .int .i64 0, .string ⟨#[]⟩] 27)
  rw [World.size_alloc] at k_b
  have k_r := Blk.new ((w.alloc (.cells #[.int .i64 k, .int .i64 n, .string s] 27)).alloc (.cells #[.int .i64 (k'), .int .i64 (n'), .string (s')] 27)) 27 #[.int .i64 0, .int .i64 0, .string ⟨#[]⟩]
  rw [World.size_alloc, World.size_alloc] at k_r
  have bb : Below w.heap.size w _ := ((((Below.refl _ _).alloc (Nat.le_refl _) (.cells #[.int .i64 k, .int .i64 n, .string s] 27)).alloc (by simp) (.cells #[.int .i64 (k'), .int .i64 (n'), .string (s')] 27)).alloc (by simp; omega) (.cells #[.int .i64 0, .int .i64 0, .string ⟨#[]⟩] 27))
  generalize (((w.alloc (.cells #[.int .i64 k, .int .i64 n, .string s] 27)).alloc (.cells #[.int .i64 (k'), .int .i64 (n'), .string (s')] 27)).alloc (.cells #[.int .i64 0, .int .i64 0, .string ⟨#[]⟩] 27)) = W0 at *
  refine (H1.out _).mono ?_
  rintro e w1 ⟨rfl, b1⟩
  have k_a := k_a.below b1 k_a.lt
  have k_b := k_b.below b1 k_b.lt
  have k_r := k_r.below b1 k_r.lt
  have bb := bb.trans (b1.mono bb.size)
  have x_a0 : w1.cell? ⟨w.heap.size, 0, none⟩ = some (.int .i64 k) := by rw [k_a.cell]; rfl
  have x_a1 : w1.cell? ⟨w.heap.size, 1, none⟩ = some (.int .i64 n) := by rw [k_a.cell]; rfl
  have x_a2 : w1.cell? ⟨w.heap.size, 2, none⟩ = some (.string s) := by rw [k_a.cell]; rfl
  have l_a := k_a.lt
  have x_b0 : w1.cell? ⟨w.heap.size + 1, 0, none⟩ = some (.int .i64 (k')) := by rw [k_b.cell]; rfl
  have x_b1 : w1.cell? ⟨w.heap.size + 1, 1, none⟩ = some (.int .i64 (n')) := by rw [k_b.cell]; rfl
  have x_b2 : w1.cell? ⟨w.heap.size + 1, 2, none⟩ = some (.string (s')) := by rw [k_b.cell]; rfl
  have l_b := k_b.lt
  have x_r0 : w1.cell? ⟨w.heap.size + 1 + 1, 0, none⟩ = some (.int .i64 0) := by rw [k_r.cell]; rfl
  have x_r1 : w1.cell? ⟨w.heap.size + 1 + 1, 1, none⟩ = some (.int .i64 0) := by rw [k_r.cell]; rfl
  have x_r2 : w1.cell? ⟨w.heap.size + 1 + 1, 2, none⟩ = some (.string ⟨#[]⟩) := by rw [k_r.cell]; rfl
  have l_r := k_r.lt
  have z_r0 := k_r.frozen 0
  have z_r1 := k_r.frozen 1
  have z_r2 := k_r.frozen 2
  go_wp2
  exact bodyPost_ret (v := .tuple #[VS 0 0 ⟨#[]⟩, .int .i64 e1]) (by simp [results, Tryd.results11, go_sem, x_r0, x_r1, x_r2, l_r]) rfl ⟨rfl, ((((bb).setCell (p := ⟨w.heap.size + 1 + 1, 0, none⟩) (by first | exact Nat.le_refl _ | (simp; done) | (simp; omega) | omega) _).setCell (p := ⟨w.heap.size + 1 + 1, 1, none⟩) (by first | exact Nat.le_refl _ | (simp; done) | (simp; omega) | omega) _).setCell (p := ⟨w.heap.size + 1 + 1, 2, none⟩) (by first | exact Nat.le_refl _ | (simp; done) | (simp; omega) | omega) _).alloc (by first | exact bb.size | (simp; exact bb.size) | (have := bb.size; simp; omega)) _⟩
set_option maxHeartbeats 4000000 in
set_option maxRecDepth 100000 in
theorem bin_div_e2 (w : World) (p q p' q' e1 : Int) (he : ¬ e1 = 0)  (C1 : ∀ W, Calls Tryd.prog 29 #[VS k n s] W (Ret (.tuple #[VN p q, .int .i64 0]) W)) (C2 : ∀ W, Calls Tryd.prog 29 #[VS k' n' s'] W (Ret (.tuple #[VN p' q', .int .i64 e1]) W)) : Calls Tryd.prog 11 #[.string ⟨#[47]⟩, VS k n s, VS k' n' s'] w (Ret (.tuple #[VS 0 0 ⟨#[]⟩, .int .i64 e1]) w) := by
  have H1 := Lib.hid C1
  have H2 := Lib.hid C2
  clear C1 C2
  have t1 : (e1 != 0) = true := by simpa using he
  have t2 : ¬ e1 = 0 := he
  go_enter Tryd.func11, Tryd.ntmps11
  go_wp2_with fail
  have k_a := ((Blk.new w 27 #[.int .i64 k, .int .i64 n, .string s]).alloc (.cells #[.int .i64 (k'), .int .i64 (n'), .string (s')] 27)).alloc (.cells #[.int .i64 0, .int .i64 0, .string ⟨#[]⟩] 27)
  have k_b := (Blk.new (w.alloc (.cells #[.int .i64 k, .int .i64 n, .string s] 27)) 27 #[.int .i64 (k'), .int .i64 (n'), .string (s')]).alloc (.cells #[.int .i64 0, .int .i64 0, .string ⟨#[]⟩] 27)
  rw [World.size_alloc] at k_b
  have k_r := Blk.new ((w.alloc (.cells #[.int .i64 k, .int .i64 n, .string s] 27)).alloc (.cells #[.int .i64 (k'), .int .i64 (n'), .string (s')] 27)) 27 #[.int .i64 0, .int .i64 0, .string ⟨#[]⟩]
  rw [World.size_alloc, World.size_alloc] at k_r
  have bb : Below w.heap.size w _ := ((((Below.refl _ _).alloc (Nat.le_refl _) (.cells #[.int .i64 k, .int .i64 n, .string s] 27)).alloc (by simp) (.cells #[.int .i64 (k'), .int .i64 (n'), .string (s')] 27)).alloc (by simp; omega) (.cells #[.int .i64 0, .int .i64 0, .string ⟨#[]⟩] 27))
  generalize (((w.alloc (.cells #[.int .i64 k, .int .i64 n, .string s] 27)).alloc (.cells #[.int .i64 (k'), .int .i64 (n'), .string (s')] 27)).alloc (.cells #[.int .i64 0, .int .i64 0, .string ⟨#[]⟩] 27)) = W0 at *
  refine (H1.out _).mono ?_
  rintro e w1 ⟨rfl, b1⟩
  have k_a := k_a.below b1 k_a.lt
  have k_b := k_b.below b1 k_b.lt
  have k_r := k_r.below b1 k_r.lt
  have bb := bb.trans (b1.mono bb.size)
  have x_a0 : w1.cell? ⟨w.heap.size, 0, none⟩ = some (.int .i64 k) := by rw [k_a.cell]; rfl
  have x_a1 : w1.cell? ⟨w.heap.size, 1, none⟩ = some (.int .i64 n) := by rw [k_a.cell]; rfl
  have x_a2 : w1.cell? ⟨w.heap.size, 2, none⟩ = some (.string s) := by rw [k_a.cell]; rfl
  have l_a := k_a.lt
  have x_b0 : w1.cell? ⟨w.heap.size + 1, 0, none⟩ = some (.int .i64 (k')) := by rw [k_b.cell]; rfl
  have x_b1 : w1.cell? ⟨w.heap.size + 1, 1, none⟩ = some (.int .i64 (n')) := by rw [k_b.cell]; rfl
  have x_b2 : w1.cell? ⟨w.heap.size + 1, 2, none⟩ = some (.string (s')) := by rw [k_b.cell]; rfl
  have l_b := k_b.lt
  have x_r0 : w1.cell? ⟨w.heap.size + 1 + 1, 0, none⟩ = some (.int .i64 0) := by rw [k_r.cell]; rfl
  have x_r1 : w1.cell? ⟨w.heap.size + 1 + 1, 1, none⟩ = some (.int .i64 0) := by rw [k_r.cell]; rfl
  have x_r2 : w1.cell? ⟨w.heap.size + 1 + 1, 2, none⟩ = some (.string ⟨#[]⟩) := by rw [k_r.cell]; rfl
  have l_r := k_r.lt
  go_wp2_with fail
  have k_a := k_a.alloc (.cells #[.int .i64 p, .int .i64 q, .string ⟨#[]⟩] 27)
  have k_b := k_b.alloc (.cells #[.int .i64 p, .int .i64 q, .string ⟨#[]⟩] 27)
  have k_r := k_r.alloc (.cells #[.int .i64 p, .int .i64 q, .string ⟨#[]⟩] 27)
  have k_x := Blk.new w1 27 #[.int .i64 p, .int .i64 q, .string ⟨#[]⟩]
  have bb := bb.alloc bb.size (.cells #[.int .i64 p, .int .i64 q, .string ⟨#[]⟩] 27)
  clear x_a0 x_a1 x_a2 l_a x_b0 x_b1 x_b2 l_b x_r0 x_r1 x_r2 l_r
  generalize w1.alloc (.cells #[.int .i64 p, .int .i64 q, .string ⟨#[]⟩] 27) = V1 at *
  refine (H2.out _).mono ?_
  rintro e w2 ⟨rfl, b2⟩
  have k_a := k_a.below b2 k_a.lt
  have k_b := k_b.below b2 k_b.lt
  have k_r := k_r.below b2 k_r.lt
  have k_x := k_x.below b2 k_x.lt
  have bb := bb.trans (b2.mono bb.size)
  have x_a0 : w2.cell? ⟨w.heap.size, 0, none⟩ = some (.int .i64 k) := by rw [k_a.cell]; rfl
  have x_a1 : w2.cell? ⟨w.heap.size, 1, none⟩ = some (.int .i64 n) := by rw [k_a.cell]; rfl
  have x_a2 : w2.cell? ⟨w.heap.size, 2, none⟩ = some (.string s) := by rw [k_a.cell]; rfl
  have l_a := k_a.lt
  have x_b0 : w2.cell? ⟨w.heap.size + 1, 0, none⟩ = some (.int .i64 (k')) := by rw [k_b.cell]; rfl
  have x_b1 : w2.cell? ⟨w.heap.size + 1, 1, none⟩ = some (.int .i64 (n')) := by rw [k_b.cell]; rfl
  have x_b2 : w2.cell? ⟨w.heap.size + 1, 2, none⟩ = some (.string (s')) := by rw [k_b.cell]; rfl
  have l_b := k_b.lt
  have x_r0 : w2.cell? ⟨w.heap.size + 1 + 1, 0, none⟩ = some (.int .i64 0) := by rw [k_r.cell]; rfl
  have x_r1 : w2.cell? ⟨w.heap.size + 1 + 1, 1, none⟩ = some (.int .i64 0) := by rw [k_r.cell]; rfl
  have x_r2 : w2.cell? ⟨w.heap.size + 1 + 1, 2, none⟩ = some (.string ⟨#[]⟩) := by rw [k_r.cell]; rfl
  have l_r := k_r.lt
  have x_x0 : w2.cell? ⟨w1.heap.size, 0, none⟩ = some (.int .i64 p) := by rw [k_x.cell]; rfl
  have x_x1 : w2.cell? ⟨w1.heap.size, 1, none⟩ = some (.int .i64 q) := by rw [k_x.cell]; rfl
  have x_x2 : w2.cell? ⟨w1.heap.size, 2, none⟩ = some (.string ⟨#[]⟩) := by rw [k_x.cell]; rfl
  have l_x := k_x.lt
  have z_r0 := k_r.frozen 0
  have z_r1 := k_r.frozen 1
  have z_r2 := k_r.frozen 2
  go_wp2
  exact bodyPost_ret (v := .tuple #[VS 0 0 ⟨#[]⟩, .int .i64 e1]) (by simp [results, Tryd.results11, go_sem, x_r0, x_r1, x_r2, l_r]) rfl ⟨rfl, ((((bb).setCell (p := ⟨w.heap.size + 1 + 1, 0, none⟩) (by first | exact Nat.le_refl _ | (simp; done) | (simp; omega) | omega) _).setCell (p := ⟨w.heap.size + 1 + 1, 1, none⟩) (by first | exact Nat.le_refl _ | (simp; done) | (simp; omega) | omega) _).setCell (p := ⟨w.heap.size + 1 + 1, 2, none⟩) (by first | exact Nat.le_refl _ | (simp; done) | (simp; omega) | omega) _).alloc (by first | exact bb.size | (simp; exact bb.size) | (have := bb.size; simp; omega)) _⟩
set_option maxHeartbeats 4000000 in
set_option maxRecDepth 100000 in
theorem bin_div (w : World) (p q p' q' K N E : Int) (Z : ByteArray)  (C1 : ∀ W, Calls Tryd.prog 29 #[VS k n s] W (Ret (.tuple #[VN p q, .int .i64 0]) W)) (C2 : ∀ W, Calls Tryd.prog 29 #[VS k' n' s'] W (Ret (.tuple #[VN p' q', .int .i64 0]) W)) (C3 : ∀ W, Calls Tryd.prog 37 #[.string ⟨#[47]⟩, VN p q, VN p' q'] W (Ret (.tuple #[VS K N Z, .int .i64 E]) W)) : Calls Tryd.prog 11 #[.string ⟨#[47]⟩, VS k n s, VS k' n' s'] w (Ret (.tuple #[VS K N Z, .int .i64 E]) w) := by
  have H1 := Lib.hid C1
  have H2 := Lib.hid C2
  have H3 := Lib.hid C3
  clear C1 C2 C3
  go_enter Tryd.func11, Tryd.ntmps11
  go_wp2_with fail
  have k_a := ((Blk.new w 27 #[.int .i64 k, .int .i64 n, .string s]).alloc (.cells #[.int .i64 (k'), .int .i64 (n'), .string (s')] 27)).alloc (.cells #[.int .i64 0, .int .i64 0, .string ⟨#[]⟩] 27)
  have k_b := (Blk.new (w.alloc (.cells #[.int .i64 k, .int .i64 n, .string s] 27)) 27 #[.int .i64 (k'), .int .i64 (n'), .string (s')]).alloc (.cells #[.int .i64 0, .int .i64 0, .string ⟨#[]⟩] 27)
  rw [World.size_alloc] at k_b
  have k_r := Blk.new ((w.alloc (.cells #[.int .i64 k, .int .i64 n, .string s] 27)).alloc (.cells #[.int .i64 (k'), .int .i64 (n'), .string (s')] 27)) 27 #[.int .i64 0, .int .i64 0, .string ⟨#[]⟩]
  rw [World.size_alloc, World.size_alloc] at k_r
  have bb : Below w.heap.size w _ := ((((Below.refl _ _).alloc (Nat.le_refl _) (.cells #[.int .i64 k, .int .i64 n, .string s] 27)).alloc (by simp) (.cells #[.int .i64 (k'), .int .i64 (n'), .string (s')] 27)).alloc (by simp; omega) (.cells #[.int .i64 0, .int .i64 0, .string ⟨#[]⟩] 27))
  generalize (((w.alloc (.cells #[.int .i64 k, .int .i64 n, .string s] 27)).alloc (.cells #[.int .i64 (k'), .int .i64 (n'), .string (s')] 27)).alloc (.cells #[.int .i64 0, .int .i64 0, .string ⟨#[]⟩] 27)) = W0 at *
  refine (H1.out _).mono ?_
  rintro e w1 ⟨rfl, b1⟩
  have k_a := k_a.below b1 k_a.lt
  have k_b := k_b.below b1 k_b.lt
  have k_r := k_r.below b1 k_r.lt
  have bb := bb.trans (b1.mono bb.size)
  have x_a0 : w1.cell? ⟨w.heap.size, 0, none⟩ = some (.int .i64 k) := by rw [k_a.cell]; rfl
  have x_a1 : w1.cell? ⟨w.heap.size, 1, none⟩ = some (.int .i64 n) := by rw [k_a.cell]; rfl
  have x_a2 : w1.cell? ⟨w.heap.size, 2, none⟩ = some (.string s) := by rw [k_a.cell]; rfl
  have l_a := k_a.lt
  have x_b0 : w1.cell? ⟨w.heap.size + 1, 0, none⟩ = some (.int .i64 (k')) := by rw [k_b.cell]; rfl
  have x_b1 : w1.cell? ⟨w.heap.size + 1, 1, none⟩ = some (.int .i64 (n')) := by rw [k_b.cell]; rfl
  have x_b2 : w1.cell? ⟨w.heap.size + 1, 2, none⟩ = some (.string (s')) := by rw [k_b.cell]; rfl
  have l_b := k_b.lt
  have x_r0 : w1.cell? ⟨w.heap.size + 1 + 1, 0, none⟩ = some (.int .i64 0) := by rw [k_r.cell]; rfl
  have x_r1 : w1.cell? ⟨w.heap.size + 1 + 1, 1, none⟩ = some (.int .i64 0) := by rw [k_r.cell]; rfl
  have x_r2 : w1.cell? ⟨w.heap.size + 1 + 1, 2, none⟩ = some (.string ⟨#[]⟩) := by rw [k_r.cell]; rfl
  have l_r := k_r.lt
  go_wp2_with fail
  have k_a := k_a.alloc (.cells #[.int .i64 p, .int .i64 q, .string ⟨#[]⟩] 27)
  have k_b := k_b.alloc (.cells #[.int .i64 p, .int .i64 q, .string ⟨#[]⟩] 27)
  have k_r := k_r.alloc (.cells #[.int .i64 p, .int .i64 q, .string ⟨#[]⟩] 27)
  have k_x := Blk.new w1 27 #[.int .i64 p, .int .i64 q, .string ⟨#[]⟩]
  have bb := bb.alloc bb.size (.cells #[.int .i64 p, .int .i64 q, .string ⟨#[]⟩] 27)
  clear x_a0 x_a1 x_a2 l_a x_b0 x_b1 x_b2 l_b x_r0 x_r1 x_r2 l_r
  generalize w1.alloc (.cells #[.int .i64 p, .int .i64 q, .string ⟨#[]⟩] 27) = V1 at *
  refine (H2.out _).mono ?_
  rintro e w2 ⟨rfl, b2⟩
  have k_a := k_a.below b2 k_a.lt
  have k_b := k_b.below b2 k_b.lt
  have k_r := k_r.below b2 k_r.lt
  have k_x := k_x.below b2 k_x.lt
  have bb := bb.trans (b2.mono bb.size)
  have x_a0 : w2.cell? ⟨w.heap.size, 0, none⟩ = some (.int .i64 k) := by rw [k_a.cell]; rfl
  have x_a1 : w2.cell? ⟨w.heap.size, 1, none⟩ = some (.int .i64 n) := by rw [k_a.cell]; rfl
  have x_a2 : w2.cell? ⟨w.heap.size, 2, none⟩ = some (.string s) := by rw [k_a.cell]; rfl
  have l_a := k_a.lt
  have x_b0 : w2.cell? ⟨w.heap.size + 1, 0, none⟩ = some (.int .i64 (k')) := by rw [k_b.cell]; rfl
  have x_b1 : w2.cell? ⟨w.heap.size + 1, 1, none⟩ = some (.int .i64 (n')) := by rw [k_b.cell]; rfl
  have x_b2 : w2.cell? ⟨w.heap.size + 1, 2, none⟩ = some (.string (s')) := by rw [k_b.cell]; rfl
  have l_b := k_b.lt
  have x_r0 : w2.cell? ⟨w.heap.size + 1 + 1, 0, none⟩ = some (.int .i64 0) := by rw [k_r.cell]; rfl
  have x_r1 : w2.cell? ⟨w.heap.size + 1 + 1, 1, none⟩ = some (.int .i64 0) := by rw [k_r.cell]; rfl
  have x_r2 : w2.cell? ⟨w.heap.size + 1 + 1, 2, none⟩ = some (.string ⟨#[]⟩) := by rw [k_r.cell]; rfl
  have l_r := k_r.lt
  have x_x0 : w2.cell? ⟨w1.heap.size, 0, none⟩ = some (.int .i64 p) := by rw [k_x.cell]; rfl
  have x_x1 : w2.cell? ⟨w1.heap.size, 1, none⟩ = some (.int .i64 q) := by rw [k_x.cell]; rfl
  have x_x2 : w2.cell? ⟨w1.heap.size, 2, none⟩ = some (.string ⟨#[]⟩) := by rw [k_x.cell]; rfl
  have l_x := k_x.lt
  go_wp2_with fail
  have k_a := k_a.alloc (.cells #[.int .i64 (p'), .int .i64 (q'), .string ⟨#[]⟩] 27)
  have k_b := k_b.alloc (.cells #[.int .i64 (p'), .int .i64 (q'), .string ⟨#[]⟩] 27)
  have k_r := k_r.alloc (.cells #[.int .i64 (p'), .int .i64 (q'), .string ⟨#[]⟩] 27)
  have k_x := k_x.alloc (.cells #[.int .i64 (p'), .int .i64 (q'), .string ⟨#[]⟩] 27)
  have k_y := Blk.new w2 27 #[.int .i64 (p'), .int .i64 (q'), .string ⟨#[]⟩]
  have bb := bb.alloc bb.size (.cells #[.int .i64 (p'), .int .i64 (q'), .string ⟨#[]⟩] 27)
  clear x_a0 x_a1 x_a2 l_a x_b0 x_b1 x_b2 l_b x_r0 x_r1 x_r2 l_r x_x0 x_x1 x_x2 l_x
  generalize w2.alloc (.cells #[.int .i64 (p'), .int .i64 (q'), .string ⟨#[]⟩] 27) = V2 at *
  refine (H3.out _).mono ?_
  rintro e w3 ⟨rfl, b3⟩
  have k_a := k_a.below b3 k_a.lt
  have k_b := k_b.below b3 k_b.lt
  have k_r := k_r.below b3 k_r.lt
  have k_x := k_x.below b3 k_x.lt
  have k_y := k_y.below b3 k_y.lt
  have bb := bb.trans (b3.mono bb.size)
  have x_a0 : w3.cell? ⟨w.heap.size, 0, none⟩ = some (.int .i64 k) := by rw [k_a.cell]; rfl
  have x_a1 : w3.cell? ⟨w.heap.size, 1, none⟩ = some (.int .i64 n) := by rw [k_a.cell]; rfl
  have x_a2 : w3.cell? ⟨w.heap.size, 2, none⟩ = some (.string s) := by rw [k_a.cell]; rfl
  have l_a := k_a.lt
  have x_b0 : w3.cell? ⟨w.heap.size + 1, 0, none⟩ = some (.int .i64 (k')) := by rw [k_b.cell]; rfl
  have x_b1 : w3.cell? ⟨w.heap.size + 1, 1, none⟩ = some (.int .i64 (n')) := by rw [k_b.cell]; rfl
  have x_b2 : w3.cell? ⟨w.heap.size + 1, 2, none⟩ = some (.string (s')) := by rw [k_b.cell]; rfl
  have l_b := k_b.lt
  have x_r0 : w3.cell? ⟨w.heap.size + 1 + 1, 0, none⟩ = some (.int .i64 0) := by rw [k_r.cell]; rfl
  have x_r1 : w3.cell? ⟨w.heap.size + 1 + 1, 1, none⟩ = some (.int .i64 0) := by rw [k_r.cell]; rfl
  have x_r2 : w3.cell? ⟨w.heap.size + 1 + 1, 2, none⟩ = some (.string ⟨#[]⟩) := by rw [k_r.cell]; rfl
  have l_r := k_r.lt
  have x_x0 : w3.cell? ⟨w1.heap.size, 0, none⟩ = some (.int .i64 p) := by rw [k_x.cell]; rfl
  have x_x1 : w3.cell? ⟨w1.heap.size, 1, none⟩ = some (.int .i64 q) := by rw [k_x.cell]; rfl
  have x_x2 : w3.cell? ⟨w1.heap.size, 2, none⟩ = some (.string ⟨#[]⟩) := by rw [k_x.cell]; rfl
  have l_x := k_x.lt
  have x_y0 : w3.cell? ⟨w2.heap.size, 0, none⟩ = some (.int .i64 (p')) := by rw [k_y.cell]; rfl
  have x_y1 : w3.cell? ⟨w2.heap.size, 1, none⟩ = some (.int .i64 (q')) := by rw [k_y.cell]; rfl
  have x_y2 : w3.cell? ⟨w2.heap.size, 2, none⟩ = some (.string ⟨#[]⟩) := by rw [k_y.cell]; rfl
  have l_y := k_y.lt
  have z_r0 := k_r.frozen 0
  have z_r1 := k_r.frozen 1
  have z_r2 := k_r.frozen 2
  go_wp2
  exact bodyPost_ret (v := .tuple #[VS K N Z, .int .i64 E]) (by simp [results, Tryd.results11, go_sem, x_r0, x_r1, x_r2, l_r]) rfl ⟨rfl, (((bb).setCell (p := ⟨w.heap.size + 1 + 1, 0, none⟩) (by first | exact Nat.le_refl _ | (simp; done) | (simp; omega) | omega) _).setCell (p := ⟨w.heap.size + 1 + 1, 1, none⟩) (by first | exact Nat.le_refl _ | (simp; done) | (simp; omega) | omega) _).setCell (p := ⟨w.heap.size + 1 + 1, 2, none⟩) (by first | exact Nat.le_refl _ | (simp; done) | (simp; omega) | omega) _⟩
set_option maxHeartbeats 4000000 in
set_option maxRecDepth 100000 in
theorem bin_rem_e1 (w : World) (p q e1 : Int) (he : ¬ e1 = 0)  (C1 : ∀ W, Calls Tryd.prog 29 #[VS k n s] W (Ret (.tuple #[VN p q, .int .i64 e1]) W)) : Calls Tryd.prog 11 #[.string ⟨#[37]⟩, VS k n s, VS k' n' s'] w (Ret (.tuple #[VS 0 0 ⟨#[]⟩, .int .i64 e1]) w) := by
  have H1 := Lib.hid C1
  clear C1
  have t1 : (e1 != 0) = true := by simpa using he
  have t2 : ¬ e1 = 0 := he
  go_enter Tryd.func11, Tryd.ntmps11
  go_wp2_with fail
  have k_a := ((Blk.new w 27 #[.int .i64 k, .int .i64 n, .string s]).alloc (.cells #[.int .i64 (k'), .int .i64 (n'), .string (s')] 27)).alloc (.cells #[.int .i64 0, .int .i64 0, .string ⟨#[]⟩] 27)
  have k_b := (Blk.new (w.alloc (.cells #[.int .i64 k, .int .i64 n, .string s] 27)) 27 #[.int .i64 (k'), .int .i64 (n'), .string (s')]).alloc (.cells #[.int .i64 0, .int .i64 0, .string ⟨#[]⟩] 27)
  rw [World.size_alloc] at k_b
  have k_r := Blk.new ((w.alloc (.cells #[.int .i64 k, .int .i64 n, .string s] 27)).alloc (.cells #[.int .i64 (k'), .int .i64 (n'), .string (s')] 27)) 27 #[.int .i64 0, .int .i64 0, .string ⟨#[]⟩]
  rw [World.size_alloc, World.size_alloc] at k_r
  have bb : Below w.heap.size w _ := ((((Below.refl _ _).alloc (Nat.le_refl _) (.cells #[.int .i64 k, .int .i64 n, .string s] 27)).alloc (by simp) (.cells #[.int .i64 (k'), .int .i64 (n'), .string (s')] 27)).alloc (by simp; omega) (.cells #[.int .i64 0, .int .i64 0, .string ⟨#[]⟩] 27))
  generalize (((w.alloc (.cells #[.int .i64 k, .int .i64 n, .string s] 27)).alloc (.cells #[.int .i64 (k'), .int .i64 (n'), .string (s')] 27)).alloc (.cells #[.int .i64 0, .int .i64 0, .string ⟨#[]⟩] 27)) = W0 at *
  refine (H1.out _).mono ?_
  rintro e w1 ⟨rfl, b1⟩
  have k_a := k_a.below b1 k_a.lt
  have k_b := k_b.below b1 k_b.lt
  have k_r := k_r.below b1 k_r.lt
  have bb := bb.trans (b1.mono bb.size)
  have x_a0 : w1.cell? ⟨w.heap.size, 0, none⟩ = some (.int .i64 k) := by rw [k_a.cell]; rfl
  have x_a1 : w1.cell? ⟨w.heap.size, 1, none⟩ = some (.int .i64 n) := by rw [k_a.cell]; rfl
  have x_a2 : w1.cell? ⟨w.heap.size, 2, none⟩ = some (.string s) := by rw [k_a.cell]; rfl
  have l_a := k_a.lt
  have x_b0 : w1.cell? ⟨w.heap.size + 1, 0, none⟩ = some (.int .i64 (k')) := by rw [k_b.cell]; rfl
  have x_b1 : w1.cell? ⟨w.heap.size + 1, 1, none⟩ = some (.int .i64 (n')) := by rw [k_b.cell]; rfl
  have x_b2 : w1.cell? ⟨w.heap.size + 1, 2, none⟩ = some (.string (s')) := by rw [k_b.cell]; rfl
  have l_b := k_b.lt
  have x_r0 : w1.cell? ⟨w.heap.size + 1 + 1, 0, none⟩ = some (.int .i64 0) := by rw [k_r.cell]; rfl
  have x_r1 : w1.cell? ⟨w.heap.size + 1 + 1, 1, none⟩ = some (.int .i64 0) := by rw [k_r.cell]; rfl
  have x_r2 : w1.cell? ⟨w.heap.size + 1 + 1, 2, none⟩ = some (.string ⟨#[]⟩) := by rw [k_r.cell]; rfl
  have l_r := k_r.lt
  have z_r0 := k_r.frozen 0
  have z_r1 := k_r.frozen 1
  have z_r2 := k_r.frozen 2
  go_wp2
  exact bodyPost_ret (v := .tuple #[VS 0 0 ⟨#[]⟩, .int .i64 e1]) (by simp [results, Tryd.results11, go_sem, x_r0, x_r1, x_r2, l_r]) rfl ⟨rfl, ((((bb).setCell (p := ⟨w.heap.size + 1 + 1, 0, none⟩) (by first | exact Nat.le_refl _ | (simp; done) | (simp; omega) | omega) _).setCell (p := ⟨w.heap.size + 1 + 1, 1, none⟩) (by first | exact Nat.le_refl _ | (simp; done) | (simp; omega) | omega) _).setCell (p := ⟨w.heap.size + 1 + 1, 2, none⟩) (by first | exact Nat.le_refl _ | (simp; done) | (simp; omega) | omega) _).alloc (by first | exact bb.size | (simp; exact bb.size) | (have := bb.size; simp; omega)) _⟩
set_option maxHeartbeats 4000000 in
set_option maxRecDepth 100000 in
theorem bin_rem_e2 (w : World) (p q p' q' e1 : Int) (he : ¬ e1 = 0)  (C1 : ∀ W, Calls Tryd.prog 29 #[VS k n s] W (Ret (.tuple #[VN p q, .int .i64 0]) W)) (C2 : ∀ W, Calls Tryd.prog 29 #[VS k' n' s'] W (Ret (.tuple #[VN p' q', .int .i64 e1]) W)) : Calls Tryd.prog 11 #[.string ⟨#[37]⟩, VS k n s, VS k' n' s'] w (Ret (.tuple #[VS 0 0 ⟨#[]⟩, .int .i64 e1]) w) := by
  have H1 := Lib.hid C1
  have H2 := Lib.hid C2
  clear C1 C2
  have t1 : (e1 != 0) = true := by simpa using he
  have t2 : ¬ e1 = 0 := he
  go_enter Tryd.func11, Tryd.ntmps11
  go_wp2_with fail
  have k_a := ((Blk.new w 27 #[.int .i64 k, .int .i64 n, .string s]).alloc (.cells #[.int .i64 (k'), .int .i64 (n'), .string (s')] 27)).alloc (.cells #[.int .i64 0, .int .i64 0, .string ⟨#[]⟩] 27)
  have k_b := (Blk.new (w.alloc (.cells #[.int .i64 k, .int .i64 n, .string s] 27)) 27 #[.int .i64 (k'), .int .i64 (n'), .string (s')]).alloc (.cells #[.int .i64 0, .int .i64 0, .string ⟨#[]⟩] 27)
  rw [World.size_alloc] at k_b
  have k_r := Blk.new ((w.alloc (.cells #[.int .i64 k, .int .i64 n, .string s] 27)).alloc (.cells #[.int .i64 (k'), .int .i64 (n'), .string (s')] 27)) 27 #[.int .i64 0, .int .i64 0, .string ⟨#[]⟩]
  rw [World.size_alloc, World.size_alloc] at k_r
  have bb : Below w.heap.size w _ := ((((Below.refl _ _).alloc (Nat.le_refl _) (.cells #[.int .i64 k, .int .i64 n, .string s] 27)).alloc (by simp) (.cells #[.int .i64 (k'), .int .i64 (n'), .string (s')] 27)).alloc (by simp; omega) (.cells #[.int .i64 0, .int .i64 0, .string ⟨#[]⟩] 27))
  generalize (((w.alloc (.cells #[.int .i64 k, .int .i64 n, .string s] 27)).alloc (.cells #[.int .i64 (k'), .int .i64 (n'), .string (s')] 27)).alloc (.cells #[.int .i64 0, .int .i64 0, .string ⟨#[]⟩] 27)) = W0 at *
  refine (H1.out _).mono ?_
  rintro e w1 ⟨rfl, b1⟩
  have k_a := k_a.below b1 k_a.lt
  have k_b := k_b.below b1 k_b.lt
  have k_r := k_r.below b1 k_r.lt
  have bb := bb.trans (b1.mono bb.size)
  have x_a0 : w1.cell? ⟨w.heap.size, 0, none⟩ = some (.int .i64 k) := by rw [k_a.cell]; rfl
  have x_a1 : w1.cell? ⟨w.heap.size, 1, none⟩ = some (.int .i64 n) := by rw [k_a.cell]; rfl
  have x_a2 : w1.cell? ⟨w.heap.size, 2, none⟩ = some (.string s) := by rw [k_a.cell]; rfl
  have l_a := k_a.lt
  have x_b0 : w1.cell? ⟨w.heap.size + 1, 0, none⟩ = some (.int .i64 (k')) := by rw [k_b.cell]; rfl
  have x_b1 : w1.cell? ⟨w.heap.size + 1, 1, none⟩ = some (.int .i64 (n')) := by rw [k_b.cell]; rfl
  have x_b2 : w1.cell? ⟨w.heap.size + 1, 2, none⟩ = some (.string (s')) := by rw [k_b.cell]; rfl
  have l_b := k_b.lt
  have x_r0 : w1.cell? ⟨w.heap.size + 1 + 1, 0, none⟩ = some (.int .i64 0) := by rw [k_r.cell]; rfl
  have x_r1 : w1.cell? ⟨w.heap.size + 1 + 1, 1, none⟩ = some (.int .i64 0) := by rw [k_r.cell]; rfl
  have x_r2 : w1.cell? ⟨w.heap.size + 1 + 1, 2, none⟩ = some (.string ⟨#[]⟩) := by rw [k_r.cell]; rfl
  have l_r := k_r.lt
  go_wp2_with fail
  have k_a := k_a.alloc (.cells #[.int .i64 p, .int .i64 q, .string ⟨#[]⟩] 27)
  have k_b := k_b.alloc (.cells #[.int .i64 p, .int .i64 q, .string ⟨#[]⟩] 27)
  have k_r := k_r.alloc (.cells #[.int .i64 p, .int .i64 q, .string ⟨#[]⟩] 27)
  have k_x := Blk.new w1 27 #[.int .i64 p, .int .i64 q, .string ⟨#[]⟩]
  have bb := bb.alloc bb.size (.cells #[.int .i64 p, .int .i64 q, .string ⟨#[]⟩] 27)
  clear x_a0 x_a1 x_a2 l_a x_b0 x_b1 x_b2 l_b x_r0 x_r1 x_r2 l_r
  generalize w1.alloc (.cells #[.int .i64 p, .int .i64 q, .string ⟨#[]⟩] 27) = V1 at *
  refine (H2.out _).mono ?_
  rintro e w2 ⟨rfl, b2⟩
  have k_a := k_a.below b2 k_a.lt
  have k_b := k_b.below b2 k_b.lt
  have k_r := k_r.below b2 k_r.lt
  have k_x := k_x.below b2 k_x.lt
  have bb := bb.trans (b2.mono bb.size)
  have x_a0 : w2.cell? ⟨w.heap.size, 0, none⟩ = some (.int .i64 k) := by rw [k_a.cell]; rfl
  have x_a1 : w2.cell? ⟨w.heap.size, 1, none⟩ = some (.int .i64 n) := by rw [k_a.cell]; rfl
  have x_a2 : w2.cell? ⟨w.heap.size, 2, none⟩ = some (.string s) := by rw [k_a.cell]; rfl
  have l_a := k_a.lt
  have x_b0 : w2.cell? ⟨w.heap.size + 1, 0, none⟩ = some (.int .i64 (k')) := by rw [k_b.cell]; rfl
  have x_b1 : w2.cell? ⟨w.heap.size + 1, 1, none⟩ = some (.int .i64 (n')) := by rw [k_b.cell]; rfl
  have x_b2 : w2.cell? ⟨w.heap.size + 1, 2, none⟩ = some (.string (s')) := by rw [k_b.cell]; rfl
  have l_b := k_b.lt
  have x_r0 : w2.cell? ⟨w.heap.size + 1 + 1, 0, none⟩ = some (.int .i64 0) := by rw [k_r.cell]; rfl
  have x_r1 : w2.cell? ⟨w.heap.size + 1 + 1, 1, none⟩ = some (.int .i64 0) := by rw [k_r.cell]; rfl
  have x_r2 : w2.cell? ⟨w.heap.size + 1 + 1, 2, none⟩ = some (.string ⟨#[]⟩) := by rw [k_r.cell]; rfl
  have l_r := k_r.lt
  have x_x0 : w2.cell? ⟨w1.heap.size, 0, none⟩ = some (.int .i64 p) := by rw [k_x.cell]; rfl
  have x_x1 : w2.cell? ⟨w1.heap.size, 1, none⟩ = some (.int .i64 q) := by rw [k_x.cell]; rfl
  have x_x2 : w2.cell? ⟨w1.heap.size, 2, none⟩ = some (.string ⟨#[]⟩) := by rw [k_x.cell]; rfl
  have l_x := k_x.lt
  have z_r0 := k_r.frozen 0
  have z_r1 := k_r.frozen 1
  have z_r2 := k_r.frozen 2
  go_wp2
  exact bodyPost_ret (v := .tuple #[VS 0 0 ⟨#[]⟩, .int .i64 e1]) (by simp [results, Tryd.results11, go_sem, x_r0, x_r1, x_r2, l_r]) rfl ⟨rfl, ((((bb).setCell (p := ⟨w.heap.size + 1 + 1, 0, none⟩) (by first | exact Nat.le_refl _ | (simp; done) | (simp; omega) | omega) _).setCell (p := ⟨w.heap.size + 1 + 1, 1, none⟩) (by first | exact Nat.le_refl _ | (simp; done) | (simp; omega) | omega) _).setCell (p := ⟨w.heap.size + 1 + 1, 2, none⟩) (by first | exact Nat.le_refl _ | (simp; done) | (simp; omega) | omega) _).alloc (by first | exact bb.size | (simp; exact bb.size) | (have := bb.size; simp; omega)) _⟩
set_option maxHeartbeats 4000000 in
set_option maxRecDepth 100000 in
theorem bin_rem (w : World) (p q p' q' K N E : Int) (Z : ByteArray)  (C1 : ∀ W, Calls Tryd.prog 29 #[VS k n s] W (Ret (.tuple #[VN p q, .int .i64 0]) W)) (C2 : ∀ W, Calls Tryd.prog 29 #[VS k' n' s'] W (Ret (.tuple #[VN p' q', .int .i64 0]) W)) (C3 : ∀ W, Calls Tryd.prog 37 #[.string ⟨#[37]⟩, VN p q, VN p' q'] W (Ret (.tuple #[VS K N Z, .int .i64 E]) W)) : Calls Tryd.prog 11 #[.string ⟨#[37]⟩, VS k n s, VS k' n' s'] w (Ret (.tuple #[VS K N Z, .int .i64 E]) w) := by
  have H1 := Lib.hid C1
  have H2 := Lib.hid C2
  have H3 := Lib.hid C3
  clear C1 C2 C3
  go_enter Tryd.func11, Tryd.ntmps11
  go_wp2_with fail
  have k_a := ((Blk.new w 27 #[.int .i64 k, .int .i64 n, .string s]).alloc (.cells #[.int .i64 (k'), .int .i64 (n'), .string (s')] 27)).alloc (.cells #[.int .i64 0, .int .i64 0, .string ⟨#[]⟩] 27)
  have k_b := (Blk.new (w.alloc (.cells #[.int .i64 k, .int .i64 n, .string s] 27)) 27 #[.int .i64 (k'), .int .i64 (n'), .string (s')]).alloc (.cells #[.int .i64 0, .int .i64 0, .string ⟨#[]⟩] 27)
  rw [World.size_alloc] at k_b
  have k_r := Blk.new ((w.alloc (.cells #[.int .i64 k, .int .i64 n, .string s] 27)).alloc (.cells #[.int .i64 (k'), .int .i64 (n'), .string (s')] 27)) 27 #[.int .i64 0, .int .i64 0, .string ⟨#[]⟩]
  rw [World.size_alloc, World.size_alloc] at k_r
  have bb : Below w.heap.size w _ := ((((Below.refl _ _).alloc (Nat.le_refl _) (.cells #[.int .i64 k, .int .i64 n, .string s] 27)).alloc (by simp) (.cells #[.int .i64 (k'), .int .i64 (n'), .string (s')] 27)).alloc (by simp; omega) (.cells #[.int .i64 0, .int .i64 0, .string ⟨#[]⟩] 27))
  generalize (((w.alloc (.cells #[.int .i64 k, .int .i64 n, .string s] 27)).alloc (.cells #[.int .i64 (k'), .int .i64 (n'), .string (s')] 27)).alloc (.cells #[.int .i64 0, .int .i64 0, .string ⟨#[]⟩] 27)) = W0 at *
  refine (H1.out _).mono ?_
  rintro e w1 ⟨rfl, b1⟩
  have k_a := k_a.below b1 k_a.lt
  have k_b := k_b.below b1 k_b.lt
  have k_r := k_r.below b1 k_r.lt
  have bb := bb.trans (b1.mono bb.size)
  have x_a0 : w1.cell? ⟨w.heap.size, 0, none⟩ = some (.int .i64 k) := by rw [k_a.cell]; rfl
  have x_a1 : w1.cell? ⟨w.heap.size, 1, none⟩ = some (.int .i64 n) := by rw [k_a.cell]; rfl
  have x_a2 : w1.cell? ⟨w.heap.size, 2, none⟩ = some (.string s) := by rw [k_a.cell]; rfl
  have l_a := k_a.lt
  have x_b0 : w1.cell? ⟨w.heap.size + 1, 0, none⟩ = some (.int .i64 (k')) := by rw [k_b.cell]; rfl
  have x_b1 : w1.cell? ⟨w.heap.size + 1, 1, none⟩ = some (.int .i64 (n')) := by rw [k_b.cell]; rfl
  have x_b2 : w1.cell? ⟨w.heap.size + 1, 2, none⟩ = some (.string (s')) := by rw [k_b.cell]; rfl
  have l_b := k_b.lt
  have x_r0 : w1.cell? ⟨w.heap.size + 1 + 1, 0, none⟩ = some (.int .i64 0) := by rw [k_r.cell]; rfl
  have x_r1 : w1.cell? ⟨w.heap.size + 1 + 1, 1, none⟩ = some (.int .i64 0) := by rw [k_r.cell]; rfl
  have x_r2 : w1.cell? ⟨w.heap.size + 1 + 1, 2, none⟩ = some (.string ⟨#[]⟩) := by rw [k_r.cell]; rfl
  have l_r := k_r.lt
  go_wp2_with fail
  have k_a := k_a.alloc (.cells #[.int .i64 p, .int .i64 q, .string ⟨#[]⟩] 27)
  have k_b := k_b.alloc (.cells #[.int .i64 p, .int .i64 q, .string ⟨#[]⟩] 27)
  have k_r := k_r.alloc (.cells #[.int .i64 p, .int .i64 q, .string ⟨#[]⟩] 27)
  have k_x := Blk.new w1 27 #[.int .i64 p, .int .i64 q, .string ⟨#[]⟩]
  have bb := bb.alloc bb.size (.cells #[.int .i64 p, .int .i64 q, .string ⟨#[]⟩] 27)
  clear x_a0 x_a1 x_a2 l_a x_b0 x_b1 x_b2 l_b x_r0 x_r1 x_r2 l_r
  generalize w1.alloc (.cells #[.int .i64 p, .int .i64 q, .string ⟨#[]⟩] 27) = V1 at *
  refine (H2.out _).mono ?_
  rintro e w2 ⟨rfl, b2⟩
  have k_a := k_a.below b2 k_a.lt
  have k_b := k_b.below b2 k_b.lt
  have k_r := k_r.below b2 k_r.lt
  have k_x := k_x.below b2 k_x.lt
  have bb := bb.trans (b2.mono bb.size)
  have x_a0 : w2.cell? ⟨w.heap.size, 0, none⟩ = some (.int .i64 k) := by rw [k_a.cell]; rfl
  have x_a1 : w2.cell? ⟨w.heap.size, 1, none⟩ = some (.int .i64 n) := by rw [k_a.cell]; rfl
  have x_a2 : w2.cell? ⟨w.heap.size, 2, none⟩ = some (.string s) := by rw [k_a.cell]; rfl
  have l_a := k_a.lt
  have x_b0 : w2.cell? ⟨w.heap.size + 1, 0, none⟩ = some (.int .i64 (k')) := by rw [k_b.cell]; rfl
  have x_b1 : w2.cell? ⟨w.heap.size + 1, 1, none⟩ = some (.int .i64 (n')) := by rw [k_b.cell]; rfl
  have x_b2 : w2.cell? ⟨w.heap.size + 1, 2, none⟩ = some (.string (s')) := by rw [k_b.cell]; rfl
  have l_b := k_b.lt
  have x_r0 : w2.cell? ⟨w.heap.size + 1 + 1, 0, none⟩ = some (.int .i64 0) := by rw [k_r.cell]; rfl
  have x_r1 : w2.cell? ⟨w.heap.size + 1 + 1, 1, none⟩ = some (.int .i64 0) := by rw [k_r.cell]; rfl
  have x_r2 : w2.cell? ⟨w.heap.size + 1 + 1, 2, none⟩ = some (.string ⟨#[]⟩) := by rw [k_r.cell]; rfl
  have l_r := k_r.lt
  have x_x0 : w2.cell? ⟨w1.heap.size, 0, none⟩ = some (.int .i64 p) := by rw [k_x.cell]; rfl
  have x_x1 : w2.cell? ⟨w1.heap.size, 1, none⟩ = some (.int .i64 q) := by rw [k_x.cell]; rfl
  have x_x2 : w2.cell? ⟨w1.heap.size, 2, none⟩ = some (.string ⟨#[]⟩) := by rw [k_x.cell]; rfl
  have l_x := k_x.lt
  go_wp2_with fail
  have k_a := k_a.alloc (.cells #[.int .i64 (p'), .int .i64 (q'), .string ⟨#[]⟩] 27)
  have k_b := k_b.alloc (.cells #[.int .i64 (p'), .int .i64 (q'), .string ⟨#[]⟩] 27)
  have k_r := k_r.alloc (.cells #[.int .i64 (p'), .int .i64 (q'), .string ⟨#[]⟩] 27)
  have k_x := k_x.alloc (.cells #[.int .i64 (p'), .int .i64 (q'), .string ⟨#[]⟩] 27)
  have k_y := Blk.new w2 27 #[.int .i64 (p'), .int .i64 (q'), .string ⟨#[]⟩]
  have bb := bb.alloc bb.size (.cells #[.int .i64 (p'), .int .i64 (q'), .string ⟨#[]⟩] 27)
  clear x_a0 x_a1 x_a2 l_a x_b0 x_b1 x_b2 l_b x_r0 x_r1 x_r2 l_r x_x0 x_x1 x_x2 l_x
  generalize w2.alloc (.cells #[.int .i64 (p'), .int .i64 (q'), .string ⟨#[]⟩] 27) = V2 at *
  refine (H3.out _).mono ?_
  rintro e w3 ⟨rfl, b3⟩
  have k_a := k_a.below b3 k_a.lt
  have k_b := k_b.below b3 k_b.lt
  have k_r := k_r.below b3 k_r.lt
  have k_x := k_x.below b3 k_x.lt
  have k_y := k_y.below b3 k_y.lt
  have bb := bb.trans (b3.mono bb.size)
  have x_a0 : w3.cell? ⟨w.heap.size, 0, none⟩ = some (.int .i64 k) := by rw [k_a.cell]; rfl
  have x_a1 : w3.cell? ⟨w.heap.size, 1, none⟩ = some (.int .i64 n) := by rw [k_a.cell]; rfl
  have x_a2 : w3.cell? ⟨w.heap.size, 2, none⟩ = some (.string s) := by rw [k_a.cell]; rfl
  have l_a := k_a.lt
  have x_b0 : w3.cell? ⟨w.heap.size + 1, 0, none⟩ = some (.int .i64 (k')) := by rw [k_b.cell]; rfl
  have x_b1 : w3.cell? ⟨w.heap.size + 1, 1, none⟩ = some (.int .i64 (n')) := by rw [k_b.cell]; rfl
  have x_b2 : w3.cell? ⟨w.heap.size + 1, 2, none⟩ = some (.string (s')) := by rw [k_b.cell]; rfl
  have l_b := k_b.lt
  have x_r0 : w3.cell? ⟨w.heap.size + 1 + 1, 0, none⟩ = some (.int .i64 0) := by rw [k_r.cell]; rfl
  have x_r1 : w3.cell? ⟨w.heap.size + 1 + 1, 1, none⟩ = some (.int .i64 0) := by rw [k_r.cell]; rfl
  have x_r2 : w3.cell? ⟨w.heap.size + 1 + 1, 2, none⟩ = some (.string ⟨#[]⟩) := by rw [k_r.cell]; rfl
  have l_r := k_r.lt
  have x_x0 : w3.cell? ⟨w1.heap.size, 0, none⟩ = some (.int .i64 p) := by rw [k_x.cell]; rfl
  have x_x1 : w3.cell? ⟨w1.heap.size, 1, none⟩ = some (.int .i64 q) := by rw [k_x.cell]; rfl
  have x_x2 : w3.cell? ⟨w1.heap.size, 2, none⟩ = some (.string ⟨#[]⟩) := by rw [k_x.cell]; rfl
  have l_x := k_x.lt
  have x_y0 : w3.cell? ⟨w2.heap.size, 0, none⟩ = some (.int .i64 (p')) := by rw [k_y.cell]; rfl
  have x_y1 : w3.cell? ⟨w2.heap.size, 1, none⟩ = some (.int .i64 (q')) := by rw [k_y.cell]; rfl
  have x_y2 : w3.cell? ⟨w2.heap.size, 2, none⟩ = some (.string ⟨#[]⟩) := by rw [k_y.cell]; rfl
  have l_y := k_y.lt
  have z_r0 := k_r.frozen 0
  have z_r1 := k_r.frozen 1
  have z_r2 := k_r.frozen 2
  go_wp2
  exact bodyPost_ret (v := .tuple #[VS K N Z, .int .i64 E]) (by simp [results, Tryd.results11, go_sem, x_r0, x_r1, x_r2, l_r]) rfl ⟨rfl, (((bb).setCell (p := ⟨w.heap.size + 1 + 1, 0, none⟩) (by first | exact Nat.le_refl _ | (simp; done) | (simp; omega) | omega) _).setCell (p := ⟨w.heap.size + 1 + 1, 1, none⟩) (by first | exact Nat.le_refl _ | (simp; done) | (simp; omega) | omega) _).setCell (p := ⟨w.heap.size + 1 + 1, 2, none⟩) (by first | exact Nat.le_refl _ | (simp; done) | (simp; omega) | omega) _⟩
set_option maxHeartbeats 4000000 in
set_option maxRecDepth 100000 in
theorem bin_q_e1 (w : World) (p q e1 : Int) (he : ¬ e1 = 0)  (C1 : ∀ W, Calls Tryd.prog 29 #[VS k n s] W (Ret (.tuple #[VN p q, .int .i64 e1]) W)) : Calls Tryd.prog 11 #[.string ⟨#[63]⟩, VS k n s, VS k' n' s'] w (Ret (.tuple #[VS 0 0 ⟨#[]⟩, .int .i64 e1]) w) := by
  have H1 := Lib.hid C1
  clear C1
  have t1 : (e1 != 0) = true := by simpa using he
  have t2 : ¬ e1 = 0 := he
  go_enter Tryd.func11, Tryd.ntmps11
  go_wp2_with fail
  have k_a := ((Blk.new w 27 #[.int .i64 k, .int .i64 n, .string s]).alloc (.cells #[.int .i64 (k'), .int .i64 (n'), .string (s')] 27)).alloc (.cells #[.int .i64 0, .int .i64 0, .string ⟨#[]⟩] 27)
  have k_b := (Blk.new (w.alloc (.cells #[.int .i64 k, .int .i64 n, .string s] 27)) 27 #[.int .i64 (k'), .int .i64 (n'), .string (s')]).alloc (.cells #[.int .i64 0, .int .i64 0, .string ⟨#[]⟩] 27)
  rw [World.size_alloc] at k_b
  have k_r := Blk.new ((w.alloc (.cells #[.int .i64 k, .int .i64 n, .string s] 27)).alloc (.cells #[.int .i64 (k'), .int .i64 (n'), .string (s')] 27)) 27 #[.int .i64 0, .int .i64 0, .string ⟨#[]⟩]
  rw [World.size_alloc, World.size_alloc] at k_r
  have bb : Below w.heap.size w _ := ((((Below.refl _ _).alloc (Nat.le_refl _) (.cells #[.int .i64 k, .int .i64 n, .string s] 27)).alloc (by simp) (.cells #[.int .i64 (k'), .int .i64 (n'), .string (s')] 27)).alloc (by simp; omega) (.cells #[.int .i64 0, .int .i64 0, .string ⟨#[]⟩] 27))
  generalize (((w.alloc (.cells #[.int .i64 k, .int .i64 n, .string s] 27)).alloc (.cells #[.int .i64 (k'), .int .i64 (n'), .string (s')] 27)).alloc (.cells #[.int .i64 0, .int .i64 0, .string ⟨#[]⟩] 27)) = W0 at *
  refine (H1.out _).mono ?_
  rintro e w1 ⟨rfl, b1⟩
  have k_a := k_a.below b1 k_a.lt
  have k_b := k_b.below b1 k_b.lt
  have k_r := k_r.below b1 k_r.lt
  have bb := bb.trans (b1.mono bb.size)
  have x_a0 : w1.cell? ⟨w.heap.size, 0, none⟩ = some (.int .i64 k) := by rw [k_a.cell]; rfl
  have x_a1 : w1.cell? ⟨w.heap.size, 1, none⟩ = some (.int .i64 n) := by rw [k_a.cell]; rfl
  have x_a2 : w1.cell? ⟨w.heap.size, 2, none⟩ = some (.string s) := by rw [k_a.cell]; rfl
  have l_a := k_a.lt
  have x_b0 : w1.cell? ⟨w.heap.size + 1, 0, none⟩ = some (.int .i64 (k')) := by rw [k_b.cell]; rfl
  have x_b1 : w1.cell? ⟨w.heap.size + 1, 1, none⟩ = some (.int .i64 (n')) := by rw [k_b.cell]; rfl
  have x_b2 : w1.cell? ⟨w.heap.size + 1, 2, none⟩ = some (.string (s')) := by rw [k_b.cell]; rfl
  have l_b := k_b.lt
  have x_r0 : w1.cell? ⟨w.heap.size + 1 + 1, 0, none⟩ = some (.int .i64 0) := by rw [k_r.cell]; rfl
  have x_r1 : w1.cell? ⟨w.heap.size + 1 + 1, 1, none⟩ = some (.int .i64 0) := by rw [k_r.cell]; rfl
  have x_r2 : w1.cell? ⟨w.heap.size + 1 + 1, 2, none⟩ = some (.string ⟨#[]⟩) := by rw [k_r.cell]; rfl
  have l_r := k_r.lt
  have z_r0 := k_r.frozen 0
  have z_r1 := k_r.frozen 1
  have z_r2 := k_r.frozen 2
  go_wp2
  exact bodyPost_ret (v := .tuple #[VS 0 0 ⟨#[]⟩, .int .i64 e1]) (by simp [results, Tryd.results11, go_sem, x_r0, x_r1, x_r2, l_r]) rfl ⟨rfl, ((((bb).setCell (p := ⟨w.heap.size + 1 + 1, 0, none⟩) (by first | exact Nat.le_refl _ | (simp; done) | (simp; omega) | omega) _).setCell (p := ⟨w.heap.size + 1 + 1, 1, none⟩) (by first | exact Nat.le_refl _ | (simp; done) | (simp; omega) | omega) _).setCell (p := ⟨w.heap.size + 1 + 1, 2, none⟩) (by first | exact Nat.le_refl _ | (simp; done) | (simp; omega) | omega) _).alloc (by first | exact bb.size | (simp; exact bb.size) | (have := bb.size; simp; omega)) _⟩
set_option maxHeartbeats 4000000 in
set_option maxRecDepth 100000 in
theorem bin_q_e2 (w : World) (p q p' q' e1 : Int) (he : ¬ e1 = 0)  (C1 : ∀ W, Calls Tryd.prog 29 #[VS k n s] W (Ret (.tuple #[VN p q, .int .i64 0]) W)) (C2 : ∀ W, Calls Tryd.prog 29 #[VS k' n' s'] W (Ret (.tuple #[VN p' q', .int .i64 e1]) W)) : Calls Tryd.prog 11 #[.string ⟨#[63]⟩, VS k n s, VS k' n' s'] w (Ret (.tuple #[VS 0 0 ⟨#[]⟩, .int .i64 e1]) w) := by
  have H1 := Lib.hid C1
  have H2 := Lib.hid C2
  clear C1 C2
  have t1 : (e1 != 0) = true := by simpa using he
  have t2 : ¬ e1 = 0 := he
  go_enter Tryd.func11, Tryd.ntmps11
  go_wp2_with fail
  have k_a := ((Blk.new w 27 #[.int .i64 k, .int .i64 n, .string s]).alloc (.cells #[.int .i64 (k'), .int .i64 (n'), .string (s')] 27)).alloc (.cells #[.int .i64 0, .int .i64 0, .string ⟨#[]⟩] 27)
  have k_b := (Blk.new (w.alloc (.cells #[.int .i64 k, .int .i64 n, .string s] 27)) 27 #[.int .i64 (k'), .int .i64 (n'), .string (s')]).alloc (.cells #[.int .i64 0, .int .i64 0, .string ⟨#[]⟩] 27)
  rw [World.size_alloc] at k_b
  have k_r := Blk.new ((w.alloc (.cells #[.int .i64 k, .int .i64 n, .string s] 27)).alloc (.cells #[.int .i64 (k'), .int .i64 (n'), .string (s')] 27)) 27 #[.int .i64 0, .int .i64 0, .string ⟨#[]⟩]
  rw [World.size_alloc, World.size_alloc] at k_r
  have bb : Below w.heap.size w _ := ((((Below.refl _ _).alloc (Nat.le_refl _) (.cells #[.int .i64 k, .int .i64 n, .string s] 27)).alloc (by simp) (.cells #[.int .i64 (k'), .int .i64 (n'), .string (s')] 27)).alloc (by simp; omega) (.cells #[.int .i64 0, .int .i64 0, .string ⟨#[]⟩] 27))
  generalize (((w.alloc (.cells #[.int .i64 k, .int .i64 n, .string s] 27)).alloc (.cells #[.int .i64 (k'), .int .i64 (n'), .string (s')] 27)).alloc (.cells #[.int .i64 0, .int .i64 0, .string ⟨#[]⟩] 27)) = W0 at *
  refine (H1.out _).mono ?_
  rintro e w1 ⟨rfl, b1⟩
  have k_a := k_a.below b1 k_a.lt
  have k_b := k_b.below b1 k_b.lt
  have k_r := k_r.below b1 k_r.lt
  have bb := bb.trans (b1.mono bb.size)
  have x_a0 : w1.cell? ⟨w.heap.size, 0, none⟩ = some (.int .i64 k) := by rw [k_a.cell]; rfl
  have x_a1 : w1.cell? ⟨w.heap.size, 1, none⟩ = some (.int .i64 n) := by rw [k_a.cell]; rfl
  have x_a2 : w1.cell? ⟨w.heap.size, 2, none⟩ = some (.string s) := by rw [k_a.cell]; rfl
  have l_a := k_a.lt
  have x_b0 : w1.cell? ⟨w.heap.size + 1, 0, none⟩ = some (.int .i64 (k')) := by rw [k_b.cell]; rfl
  have x_b1 : w1.cell? ⟨w.heap.size + 1, 1, none⟩ = some (.int .i64 (n')) := by rw [k_b.cell]; rfl
  have x_b2 : w1.cell? ⟨w.heap.size + 1, 2, none⟩ = some (.string (s')) := by rw [k_b.cell]; rfl
  have l_b := k_b.lt
  have x_r0 : w1.cell? ⟨w.heap.size + 1 + 1, 0, none⟩ = some (.int .i64 0) := by rw [k_r.cell]; rfl
  have x_r1 : w1.cell? ⟨w.heap.size + 1 + 1, 1, none⟩ = some (.int .i64 0) := by rw [k_r.cell]; rfl
  have x_r2 : w1.cell? ⟨w.heap.size + 1 + 1, 2, none⟩ = some (.string ⟨#[]⟩) := by rw [k_r.cell]; rfl
  have l_r := k_r.lt
  go_wp2_with fail
  have k_a := k_a.alloc (.cells #[.int .i64 p, .int .i64 q, .string ⟨#[]⟩] 27)
  have k_b := k_b.alloc (.cells #[.int .i64 p, .int .i64 q, .string ⟨#[]⟩] 27)
  have k_r := k_r.alloc (.cells #[.int .i64 p, .int .i64 q, .string ⟨#[]⟩] 27)
  have k_x := Blk.new w1 27 #[.int .i64 p, .int .i64 q, .string ⟨#[]⟩]
  have bb := bb.alloc bb.size (.cells #[.int .i64 p, .int .i64 q, .string ⟨#[]⟩] 27)
  clear x_a0 x_a1 x_a2 l_a x_b0 x_b1 x_b2 l_b x_r0 x_r1 x_r2 l_r
  generalize w1.alloc (.cells #[.int .i64 p, .int .i64 q, .string ⟨#[]⟩] 27) = V1 at *
  refine (H2.out _).mono ?_
  rintro e w2 ⟨rfl, b2⟩
  have k_a := k_a.below b2 k_a.lt
  have k_b := k_b.below b2 k_b.lt
  have k_r := k_r.below b2 k_r.lt
  have k_x := k_x.below b2 k_x.lt
  have bb := bb.trans (b2.mono bb.size)
  have x_a0 : w2.cell? ⟨w.heap.size, 0, none⟩ = some (.int .i64 k) := by rw [k_a.cell]; rfl
  have x_a1 : w2.cell? ⟨w.heap.size, 1, none⟩ = some (.int .i64 n) := by rw [k_a.cell]; rfl
  have x_a2 : w2.cell? ⟨w.heap.size, 2, none⟩ = some (.string s) := by rw [k_a.cell]; rfl
  have l_a := k_a.lt
  have x_b0 : w2.cell? ⟨w.heap.size + 1, 0, none⟩ = some (.int .i64 (k')) := by rw [k_b.cell]; rfl
  have x_b1 : w2.cell? ⟨w.heap.size + 1, 1, none⟩ = some (.int .i64 (n')) := by rw [k_b.cell]; rfl
  have x_b2 : w2.cell? ⟨w.heap.size + 1, 2, none⟩ = some (.string (s')) := by rw [k_b.cell]; rfl
  have l_b := k_b.lt
  have x_r0 : w2.cell? ⟨w.heap.size + 1 + 1, 0, none⟩ = some (.int .i64 0) := by rw [k_r.cell]; rfl
  have x_r1 : w2.cell? ⟨w.heap.size + 1 + 1, 1, none⟩ = some (.int .i64 0) := by rw [k_r.cell]; rfl
  have x_r2 : w2.cell? ⟨w.heap.size + 1 + 1, 2, none⟩ = some (.string ⟨#[]⟩) := by rw [k_r.cell]; rfl
  have l_r := k_r.lt
  have x_x0 : w2.cell? ⟨w1.heap.size, 0, none⟩ = some (.int .i64 p) := by rw [k_x.cell]; rfl
  have x_x1 : w2.cell? ⟨w1.heap.size, 1, none⟩ = some (.int .i64 q) := by rw [k_x.cell]; rfl
  have x_x2 : w2.cell? ⟨w1.heap.size, 2, none⟩ = some (.string ⟨#[]⟩) := by rw [k_x.cell]; rfl
  have l_x := k_x.lt
  have z_r0 := k_r.frozen 0
  have z_r1 := k_r.frozen 1
  have z_r2 := k_r.frozen 2
  go_wp2
  exact bodyPost_ret (v := .tuple #[VS 0 0 ⟨#[]⟩, .int .i64 e1]) (by simp [results, Tryd.results11, go_sem, x_r0, x_r1, x_r2, l_r]) rfl ⟨rfl, ((((bb).setCell (p := ⟨w.heap.size + 1 + 1, 0, none⟩) (by first | exact Nat.le_refl _ | (simp; done) | (simp; omega) | omega) _).setCell (p := ⟨w.heap.size + 1 + 1, 1, none⟩) (by first | exact Nat.le_refl _ | (simp; done) | (simp; omega) | omega) _).setCell (p := ⟨w.heap.size + 1 + 1, 2, none⟩) (by first | exact Nat.le_refl _ | (simp; done) | (simp; omega) | omega) _).alloc (by first | exact bb.size | (simp; exact bb.size) | (have := bb.size; simp; omega)) _⟩
set_option maxHeartbeats 4000000 in
set_option maxRecDepth 100000 in
theorem bin_q (w : World) (p q p' q' K N E : Int) (Z : ByteArray)  (C1 : ∀ W, Calls Tryd.prog 29 #[VS k n s] W (Ret (.tuple #[VN p q, .int .i64 0]) W)) (C2 : ∀ W, Calls Tryd.prog 29 #[VS k' n' s'] W (Ret (.tuple #[VN p' q', .int .i64 0]) W)) (C3 : ∀ W, Calls Tryd.prog 37 #[.string ⟨#[63]⟩, VN p q, VN p' q'] W (Ret (.tuple #[VS K N Z, .int .i64 E]) W)) : Calls Tryd.prog 11 #[.string ⟨#[63]⟩, VS k n s, VS k' n' s'] w (Ret (.tuple #[VS K N Z, .int .i64 E]) w) := by
  have H1 := Lib.hid C1
  have H2 := Lib.hid C2
  have H3 := Lib.hid C3
  clear C1 C2 C3
  go_enter Tryd.func11, Tryd.ntmps11
  go_wp2_with fail
  have k_a := ((Blk.new w 27 #[.int .i64 k, .int .i64 n, .string s]).alloc (.cells #[.int .i64 (k'), .int .i64 (n'), .string (s')] 27)).alloc (.cells #[.int .i64 0, .int .i64 0, .string ⟨#[]⟩] 27)
  have k_b := (Blk.new (w.alloc (.cells #[.int .i64 k, .int .i64 n, .string s] 27)) 27 #[.int .i64 (k'), .int .i64 (n'), .string (s')]).alloc (.cells #[.int .i64 0, .int .i64 0, .string ⟨#[]⟩] 27)
  rw [World.size_alloc] at k_b
  have k_r := Blk.new ((w.alloc (.cells #[.int .i64 k, .int .i64 n, .string s] 27)).alloc (.cells #[.int .i64 (k'), .int .i64 (n'), .string (s')] 27)) 27 #[.int .i64 0, .int .i64 0, .string ⟨#[]⟩]
  rw [World.size_alloc, World.size_alloc] at k_r
  have bb : Below w.heap.size w _ := ((((Below.refl _ _).alloc (Nat.le_refl _) (.cells #[.int .i64 k, .int .i64 n, .string s] 27)).alloc (by simp) (.cells #[.int .i64 (k'), .int .i64 (n'), .string (s')] 27)).alloc (by simp; omega) (.cells #[.int .i64 0, .int .i64 0, .string ⟨#[]⟩] 27))
  generalize (((w.alloc (.cells #[.int .i64 k, .int .i64 n, .string s] 27)).alloc (.cells #[.int .i64 (k'), .int .i64 (n'), .string (s')] 27)).alloc (.cells #[.int .i64 0, .int .i64 0, .string ⟨#[]⟩] 27)) = W0 at *
  refine (H1.out _).mono ?_
  rintro e w1 ⟨rfl, b1⟩
  have k_a := k_a.below b1 k_a.lt
  have k_b := k_b.below b1 k_b.lt
  have k_r := k_r.below b1 k_r.lt
  have bb := bb.trans (b1.mono bb.size)
  have x_a0 : w1.cell? ⟨w.heap.size, 0, none⟩ = some (.int .i64 k) := by rw [k_a.cell]; rfl
  have x_a1 : w1.cell? ⟨w.heap.size, 1, none⟩ = some (.int .i64 n) := by rw [k_a.cell]; rfl
  have x_a2 : w1.cell? ⟨w.heap.size, 2, none⟩ = some (.string s) := by rw [k_a.cell]; rfl
  have l_a := k_a.lt
  have x_b0 : w1.cell? ⟨w.heap.size + 1, 0, none⟩ = some (.int .i64 (k')) := by rw [k_b.cell]; rfl
  have x_b1 : w1.cell? ⟨w.heap.size + 1, 1, none⟩ = some (.int .i64 (n')) := by rw [k_b.cell]; rfl
  have x_b2 : w1.cell? ⟨w.heap.size + 1, 2, none⟩ = some (.string (s')) := by rw [k_b.cell]; rfl
  have l_b := k_b.lt
  have x_r0 : w1.cell? ⟨w.heap.size + 1 + 1, 0, none⟩ = some (.int .i64 0) := by rw [k_r.cell]; rfl
  have x_r1 : w1.cell? ⟨w.heap.size + 1 + 1, 1, none⟩ = some (.int .i64 0) := by rw [k_r.cell]; rfl
  have x_r2 : w1.cell? ⟨w.heap.size + 1 + 1, 2, none⟩ = some (.string ⟨#[]⟩) := by rw [k_r.cell]; rfl
  have l_r := k_r.lt
  go_wp2_with fail
  have k_a := k_a.alloc (.cells #[.int .i64 p, .int .i64 q, .string ⟨#[]⟩] 27)
  have k_b := k_b.alloc (.cells #[.int .i64 p, .int .i64 q, .string ⟨#[]⟩] 27)
  have k_r := k_r.alloc (.cells #[.int .i64 p, .int .i64 q, .string ⟨#[]⟩] 27)
  have k_x := Blk.new w1 27 #[.int .i64 p, .int .i64 q, .string ⟨#[]⟩]
  have bb := bb.alloc bb.size (.cells #[.int .i64 p, .int .i64 q, .string ⟨#[]⟩] 27)
  clear x_a0 x_a1 x_a2 l_a x_b0 x_b1 x_b2 l_b x_r0 x_r1 x_r2 l_r
  generalize w1.alloc (.cells #[.int .i64 p, .int .i64 q, .string ⟨#[]⟩] 27) = V1 at *
  refine (H2.out _).mono ?_
  rintro e w2 ⟨rfl, b2⟩
  have k_a := k_a.below b2 k_a.lt
  have k_b := k_b.below b2 k_b.lt
  have k_r := k_r.below b2 k_r.lt
  have k_x := k_x.below b2 k_x.lt
  have bb := bb.trans (b2.mono bb.size)
  have x_a0 : w2.cell? ⟨w.heap.size, 0, none⟩ = some (.int .i64 k) := by rw [k_a.cell]; rfl
  have x_a1 : w2.cell? ⟨w.heap.size, 1, none⟩ = some (.int .i64 n) := by rw [k_a.cell]; rfl
  have x_a2 : w2.cell? ⟨w.heap.size, 2, none⟩ = some (.string s) := by rw [k_a.cell]; rfl
  have l_a := k_a.lt
  have x_b0 : w2.cell? ⟨w.heap.size + 1, 0, none⟩ = some (.int .i64 (k')) := by rw [k_b.cell]; rfl
  have x_b1 : w2.cell? ⟨w.heap.size + 1, 1, none⟩ = some (.int .i64 (n')) := by rw [k_b.cell]; rfl
  have x_b2 : w2.cell? ⟨w.heap.size + 1, 2, none⟩ = some (.string (s')) := by rw [k_b.cell]; rfl
  have l_b := k_b.lt
  have x_r0 : w2.cell? ⟨w.heap.size + 1 + 1, 0, none⟩ = some (.int .i64 0) := by rw [k_r.cell]; rfl
  have x_r1 : w2.cell? ⟨w.heap.size + 1 + 1, 1, none⟩ = some (.int .i64 0) := by rw [k_r.cell]; rfl
  have x_r2 : w2.cell? ⟨w.heap.size + 1 + 1, 2, none⟩ = some (.string ⟨#[]⟩) := by rw [k_r.cell]; rfl
  have l_r := k_r.lt
  have x_x0 : w2.cell? ⟨w1.heap.size, 0, none⟩ = some (.int .i64 p) := by rw [k_x.cell]; rfl
  have x_x1 : w2.cell? ⟨w1.heap.size, 1, none⟩ = some (.int .i64 q) := by rw [k_x.cell]; rfl
  have x_x2 : w2.cell? ⟨w1.heap.size, 2, none⟩ = some (.string ⟨#[]⟩) := by rw [k_x.cell]; rfl
  have l_x := k_x.lt
  go_wp2_with fail
  have k_a := k_a.alloc (.cells #[.int .i64 (p'), .int .i64 (q'), .string ⟨#[]⟩] 27)
  have k_b := k_b.alloc (.cells #[.int .i64 (p'), .int .i64 (q'), .string ⟨#[]⟩] 27)
  have k_r := k_r.alloc (.cells #[.int .i64 (p'), .int .i64 (q'), .string ⟨#[]⟩] 27)
  have k_x := k_x.alloc (.cells #[.int .i64 (p'), .int .i64 (q'), .string ⟨#[]⟩] 27)
  have k_y := Blk.new w2 27 #[.int .i64 (p'), .int .i64 (q'), .string ⟨#[]⟩]
  have bb := bb.alloc bb.size (.cells #[.int .i64 (p'), .int .i64 (q'), .string ⟨#[]⟩] 27)
  clear x_a0 x_a1 x_a2 l_a x_b0 x_b1 x_b2 l_b x_r0 x_r1 x_r2 l_r x_x0 x_x1 x_x2 l_x
  generalize w2.alloc (.cells #[.int .i64 (p'), .int .i64 (q'), .string ⟨#[]⟩] 27) = V2 at *
  refine (H3.out _).mono ?_
  rintro e w3 ⟨rfl, b3⟩
  have k_a := k_a.below b3 k_a.lt
  have k_b := k_b.below b3 k_b.lt
  have k_r := k_r.below b3 k_r.lt
  have k_x := k_x.below b3 k_x.lt
  have k_y := k_y.below b3 k_y.lt
  have bb := bb.trans (b3.mono bb.size)
  have x_a0 : w3.cell? ⟨w.heap.size, 0, none⟩ = some (.int .i64 k) := by rw [k_a.cell]; rfl
  have x_a1 : w3.cell? ⟨w.heap.size, 1, none⟩ = some (.int .i64 n) := by rw [k_a.cell]; rfl
  have x_a2 : w3.cell? ⟨w.heap.size, 2, none⟩ = some (.string s) := by rw [k_a.cell]; rfl
  have l_a := k_a.lt
  have x_b0 : w3.cell? ⟨w.heap.size + 1, 0, none⟩ = some (.int .i64 (k')) := by rw [k_b.cell]; rfl
  have x_b1 : w3.cell? ⟨w.heap.size + 1, 1, none⟩ = some (.int .i64 (n')) := by rw [k_b.cell]; rfl
  have x_b2 : w3.cell? ⟨w.heap.size + 1, 2, none⟩ = some (.string (s')) := by rw [k_b.cell]; rfl
  have l_b := k_b.lt
  have x_r0 : w3.cell? ⟨w.heap.size + 1 + 1, 0, none⟩ = some (.int .i64 0) := by rw [k_r.cell]; rfl
  have x_r1 : w3.cell? ⟨w.heap.size + 1 + 1, 1, none⟩ = some (.int .i64 0) := by rw [k_r.cell]; rfl
  have x_r2 : w3.cell? ⟨w.heap.size + 1 + 1, 2, none⟩ = some (.string ⟨#[]⟩) := by rw [k_r.cell]; rfl
  have l_r := k_r.lt
  have x_x0 : w3.cell? ⟨w1.heap.size, 0, none⟩ = some (.int .i64 p) := by rw [k_x.cell]; rfl
  have x_x1 : w3.cell? ⟨w1.heap.size, 1, none⟩ = some (.int .i64 q) := by rw [k_x.cell]; rfl
  have x_x2 : w3.cell? ⟨w1.heap.size, 2, none⟩ = some (.string ⟨#[]⟩) := by rw [k_x.cell]; rfl
  have l_x := k_x.lt
  have x_y0 : w3.cell? ⟨w2.heap.size, 0, none⟩ = some (.int .i64 (p')) := by rw [k_y.cell]; rfl
  have x_y1 : w3.cell? ⟨w2.heap.size, 1, none⟩ = some (.int .i64 (q')) := by rw [k_y.cell]; rfl
  have x_y2 : w3.cell? ⟨w2.heap.size, 2, none⟩ = some (.string ⟨#[]⟩) := by rw [k_y.cell]; rfl
  have l_y := k_y.lt
  have z_r0 := k_r.frozen 0
  have z_r1 := k_r.frozen 1
  have z_r2 := k_r.frozen 2
  go_wp2
  exact bodyPost_ret (v := .tuple #[VS K N Z, .int .i64 E]) (by simp [results, Tryd.results11, go_sem, x_r0, x_r1, x_r2, l_r]) rfl ⟨rfl, (((bb).setCell (p := ⟨w.heap.size + 1 + 1, 0, none⟩) (by first | exact Nat.le_refl _ | (simp; done) | (simp; omega) | omega) _).setCell (p := ⟨w.heap.size + 1 + 1, 1, none⟩) (by first | exact Nat.le_refl _ | (simp; done) | (simp; omega) | omega) _).setCell (p := ⟨w.heap.size + 1 + 1, 2, none⟩) (by first | exact Nat.le_refl _ | (simp; done) | (simp; omega) | omega) _⟩
end Go.Proofs.YtjkboelcpihphaaDoor
