/- The reference, Binary: equality, strings, errors; reckon of the remainder. -/
import Derived.Test.YtjkboelcpihphaaDoorValL
import Derived.Deep.DeepCutAuto
import Derived.Outline
set_option linter.unusedVariables false
set_option linter.unusedSimpArgs false
namespace Go.Proofs.YtjkboelcpihphaaDoor
open Go.RowKit

theorem ocatV (a b c : ByteArray) (h : Hid (c = a ++ b)) (hs : a.size + b.size ≤ 1000000) (W : World) : (Op.stringOp .add a b).run Tryd.prog W = .ok (.string c) W := by
  rw [h.out]; exact run_string_add_sum W a b (by omega)
theorem list_u (u : List Nat) (hf : Tx.Fits u) (hl : u.length ≤ 4000) (W : World) : Calls Tryd.prog 47 #[.string (Tx.uS u)] W fun e w' => ∃ a cap, e = .returned (.slice a u.length cap) ∧ Tx.SliceR .i64 w' a u.length cap (Tx.ints u) ∧ Below W.heap.size W w' := by
  refine (Tx.list_any (Tx.uS u) W (by rw [Tx.uS_size]; omega)).mono ?_
  rintro e w' ⟨v, rfl, hown, hb⟩
  rw [Tx.unitsTo_uS u hf] at hown
  have hlI : (Tx.ints u).length = u.length := Tx.ints_length _
  rw [← hlI] at hown
  obtain ⟨a, cap, rfl, hR, _⟩ := Tx.sliceR_own hown
  rw [hlI] at hR
  exact ⟨a, cap, by rw [hlI], hR, hb⟩

set_option maxHeartbeats 8000000 in
set_option maxRecDepth 100000 in
theorem rb_eq (k n : Int) (s : ByteArray) (k' n' : Int) (s' : ByteArray) (g1 : Bool) (w : World) (C : ∀ W, Calls Tryd.prog 23 #[VS k n s, VS k' n' s'] W (Ret (.bool g1) W)) :
    Calls Tryd.prog 28 #[.string ⟨#[61, 61, 61]⟩, VS k n s, VS k' n' s'] w (Ret (.tuple #[VS 2 (tN g1) ⟨#[]⟩, .int .i64 0]) w) := by
  have HC := Lib.hid C
  have HT := Lib.hid rtruth_any
  clear C
  go_enter Tryd.func28, Tryd.ntmps28
  go_wp2_with fail
  have k_x := ((Blk.new w 27 #[.int .i64 k, .int .i64 n, .string s]).alloc (.cells #[.int .i64 (k'), .int .i64 (n'), .string (s')] 27)).alloc (.cells #[.int .i64 0, .int .i64 0, .string ⟨#[]⟩] 27)
  have k_y := (Blk.new (w.alloc (.cells #[.int .i64 k, .int .i64 n, .string s] 27)) 27 #[.int .i64 (k'), .int .i64 (n'), .string (s')]).alloc (.cells #[.int .i64 0, .int .i64 0, .string ⟨#[]⟩] 27)
  rw [World.size_alloc] at k_y
  have k_r := Blk.new ((w.alloc (.cells #[.int .i64 k, .int .i64 n, .string s] 27)).alloc (.cells #[.int .i64 (k'), .int .i64 (n'), .string (s')] 27)) 27 #[.int .i64 0, .int .i64 0, .string ⟨#[]⟩]
  rw [World.size_alloc, World.size_alloc] at k_r
  have bb : Below w.heap.size w _ := ((((Below.refl _ _).alloc (Nat.le_refl _) (.cells #[.int .i64 k, .int .i64 n, .string s] 27)).alloc (by simp) (.cells #[.int .i64 (k'), .int .i64 (n'), .string (s')] 27)).alloc (by simp; omega) (.cells #[.int .i64 0, .int .i64 0, .string ⟨#[]⟩] 27))
  generalize (((w.alloc (.cells #[.int .i64 k, .int .i64 n, .string s] 27)).alloc (.cells #[.int .i64 (k'), .int .i64 (n'), .string (s')] 27)).alloc (.cells #[.int .i64 0, .int .i64 0, .string ⟨#[]⟩] 27)) = W0 at *
  refine (HC.out _).mono ?_
  rintro e w1 ⟨rfl, b1⟩
  have k_x := k_x.below b1 k_x.lt
  have k_y := k_y.below b1 k_y.lt
  have k_r := k_r.below b1 k_r.lt
  have bb := bb.trans (b1.mono bb.size)
  have x_x0 : w1.cell? ⟨w.heap.size, 0, none⟩ = some (.int .i64 k) := by rw [k_x.cell]; rfl
  have x_x1 : w1.cell? ⟨w.heap.size, 1, none⟩ = some (.int .i64 n) := by rw [k_x.cell]; rfl
  have x_x2 : w1.cell? ⟨w.heap.size, 2, none⟩ = some (.string s) := by rw [k_x.cell]; rfl
  have l_x := k_x.lt
  have x_y0 : w1.cell? ⟨w.heap.size + 1, 0, none⟩ = some (.int .i64 (k')) := by rw [k_y.cell]; rfl
  have x_y1 : w1.cell? ⟨w.heap.size + 1, 1, none⟩ = some (.int .i64 (n')) := by rw [k_y.cell]; rfl
  have x_y2 : w1.cell? ⟨w.heap.size + 1, 2, none⟩ = some (.string (s')) := by rw [k_y.cell]; rfl
  have l_y := k_y.lt
  have x_r0 : w1.cell? ⟨w.heap.size + 1 + 1, 0, none⟩ = some (.int .i64 0) := by rw [k_r.cell]; rfl
  have x_r1 : w1.cell? ⟨w.heap.size + 1 + 1, 1, none⟩ = some (.int .i64 0) := by rw [k_r.cell]; rfl
  have x_r2 : w1.cell? ⟨w.heap.size + 1 + 1, 2, none⟩ = some (.string ⟨#[]⟩) := by rw [k_r.cell]; rfl
  have l_r := k_r.lt
  cases g1
  · skip
    go_wp2_with fail
    refine (HT.out _ _).mono ?_
    rintro e w2 ⟨rfl, b2⟩
    clear x_x0 x_x1 x_x2 l_x x_y0 x_y1 x_y2 l_y x_r0 x_r1 x_r2 l_r
    have k_x := k_x.below b2 k_x.lt
    have k_y := k_y.below b2 k_y.lt
    have k_r := k_r.below b2 k_r.lt
    have bb := bb.trans (b2.mono bb.size)
    have x_x0 : w2.cell? ⟨w.heap.size, 0, none⟩ = some (.int .i64 k) := by rw [k_x.cell]; rfl
    have x_x1 : w2.cell? ⟨w.heap.size, 1, none⟩ = some (.int .i64 n) := by rw [k_x.cell]; rfl
    have x_x2 : w2.cell? ⟨w.heap.size, 2, none⟩ = some (.string s) := by rw [k_x.cell]; rfl
    have l_x := k_x.lt
    have x_y0 : w2.cell? ⟨w.heap.size + 1, 0, none⟩ = some (.int .i64 (k')) := by rw [k_y.cell]; rfl
    have x_y1 : w2.cell? ⟨w.heap.size + 1, 1, none⟩ = some (.int .i64 (n')) := by rw [k_y.cell]; rfl
    have x_y2 : w2.cell? ⟨w.heap.size + 1, 2, none⟩ = some (.string (s')) := by rw [k_y.cell]; rfl
    have l_y := k_y.lt
    have x_r0 : w2.cell? ⟨w.heap.size + 1 + 1, 0, none⟩ = some (.int .i64 0) := by rw [k_r.cell]; rfl
    have x_r1 : w2.cell? ⟨w.heap.size + 1 + 1, 1, none⟩ = some (.int .i64 0) := by rw [k_r.cell]; rfl
    have x_r2 : w2.cell? ⟨w.heap.size + 1 + 1, 2, none⟩ = some (.string ⟨#[]⟩) := by rw [k_r.cell]; rfl
    have l_r := k_r.lt
    have z_r0 := k_r.frozen 0
    have z_r1 := k_r.frozen 1
    have z_r2 := k_r.frozen 2
    go_wp2
    exact bodyPost_ret (v := (.tuple #[VS 2 (tN false) ⟨#[]⟩, .int .i64 0])) (by simp [results, Tryd.results28, go_sem, x_r0, x_r1, x_r2, l_r]) rfl ⟨rfl, (((bb).setCell (p := ⟨w.heap.size + 1 + 1, 0, none⟩) (by first | exact Nat.le_refl _ | (simp; done) | (simp; omega) | omega) _).setCell (p := ⟨w.heap.size + 1 + 1, 1, none⟩) (by first | exact Nat.le_refl _ | (simp; done) | (simp; omega) | omega) _).setCell (p := ⟨w.heap.size + 1 + 1, 2, none⟩) (by first | exact Nat.le_refl _ | (simp; done) | (simp; omega) | omega) _⟩
  · skip
    go_wp2_with fail
    refine (HT.out _ _).mono ?_
    rintro e w2 ⟨rfl, b2⟩
    clear x_x0 x_x1 x_x2 l_x x_y0 x_y1 x_y2 l_y x_r0 x_r1 x_r2 l_r
    have k_x := k_x.below b2 k_x.lt
    have k_y := k_y.below b2 k_y.lt
    have k_r := k_r.below b2 k_r.lt
    have bb := bb.trans (b2.mono bb.size)
    have x_x0 : w2.cell? ⟨w.heap.size, 0, none⟩ = some (.int .i64 k) := by rw [k_x.cell]; rfl
    have x_x1 : w2.cell? ⟨w.heap.size, 1, none⟩ = some (.int .i64 n) := by rw [k_x.cell]; rfl
    have x_x2 : w2.cell? ⟨w.heap.size, 2, none⟩ = some (.string s) := by rw [k_x.cell]; rfl
    have l_x := k_x.lt
    have x_y0 : w2.cell? ⟨w.heap.size + 1, 0, none⟩ = some (.int .i64 (k')) := by rw [k_y.cell]; rfl
    have x_y1 : w2.cell? ⟨w.heap.size + 1, 1, none⟩ = some (.int .i64 (n')) := by rw [k_y.cell]; rfl
    have x_y2 : w2.cell? ⟨w.heap.size + 1, 2, none⟩ = some (.string (s')) := by rw [k_y.cell]; rfl
    have l_y := k_y.lt
    have x_r0 : w2.cell? ⟨w.heap.size + 1 + 1, 0, none⟩ = some (.int .i64 0) := by rw [k_r.cell]; rfl
    have x_r1 : w2.cell? ⟨w.heap.size + 1 + 1, 1, none⟩ = some (.int .i64 0) := by rw [k_r.cell]; rfl
    have x_r2 : w2.cell? ⟨w.heap.size + 1 + 1, 2, none⟩ = some (.string ⟨#[]⟩) := by rw [k_r.cell]; rfl
    have l_r := k_r.lt
    have z_r0 := k_r.frozen 0
    have z_r1 := k_r.frozen 1
    have z_r2 := k_r.frozen 2
    go_wp2
    exact bodyPost_ret (v := (.tuple #[VS 2 (tN true) ⟨#[]⟩, .int .i64 0])) (by simp [results, Tryd.results28, go_sem, x_r0, x_r1, x_r2, l_r]) rfl ⟨rfl, (((bb).setCell (p := ⟨w.heap.size + 1 + 1, 0, none⟩) (by first | exact Nat.le_refl _ | (simp; done) | (simp; omega) | omega) _).setCell (p := ⟨w.heap.size + 1 + 1, 1, none⟩) (by first | exact Nat.le_refl _ | (simp; done) | (simp; omega) | omega) _).setCell (p := ⟨w.heap.size + 1 + 1, 2, none⟩) (by first | exact Nat.le_refl _ | (simp; done) | (simp; omega) | omega) _⟩
set_option maxHeartbeats 8000000 in
set_option maxRecDepth 100000 in
theorem rb_ne (k n : Int) (s : ByteArray) (k' n' : Int) (s' : ByteArray) (g1 : Bool) (w : World) (C : ∀ W, Calls Tryd.prog 23 #[VS k n s, VS k' n' s'] W (Ret (.bool g1) W)) :
    Calls Tryd.prog 28 #[.string ⟨#[33, 61, 61]⟩, VS k n s, VS k' n' s'] w (Ret (.tuple #[VS 2 (tN (!g1)) ⟨#[]⟩, .int .i64 0]) w) := by
  have HC := Lib.hid C
  have HT := Lib.hid rtruth_any
  clear C
  go_enter Tryd.func28, Tryd.ntmps28
  go_wp2_with fail
  have k_x := ((Blk.new w 27 #[.int .i64 k, .int .i64 n, .string s]).alloc (.cells #[.int .i64 (k'), .int .i64 (n'), .string (s')] 27)).alloc (.cells #[.int .i64 0, .int .i64 0, .string ⟨#[]⟩] 27)
  have k_y := (Blk.new (w.alloc (.cells #[.int .i64 k, .int .i64 n, .string s] 27)) 27 #[.int .i64 (k'), .int .i64 (n'), .string (s')]).alloc (.cells #[.int .i64 0, .int .i64 0, .string ⟨#[]⟩] 27)
  rw [World.size_alloc] at k_y
  have k_r := Blk.new ((w.alloc (.cells #[.int .i64 k, .int .i64 n, .string s] 27)).alloc (.cells #[.int .i64 (k'), .int .i64 (n'), .string (s')] 27)) 27 #[.int .i64 0, .int .i64 0, .string ⟨#[]⟩]
  rw [World.size_alloc, World.size_alloc] at k_r
  have bb : Below w.heap.size w _ := ((((Below.refl _ _).alloc (Nat.le_refl _) (.cells #[.int .i64 k, .int .i64 n, .string s] 27)).alloc (by simp) (.cells #[.int .i64 (k'), .int .i64 (n'), .string (s')] 27)).alloc (by simp; omega) (.cells #[.int .i64 0, .int .i64 0, .string ⟨#[]⟩] 27))
  generalize (((w.alloc (.cells #[.int .i64 k, .int .i64 n, .string s] 27)).alloc (.cells #[.int .i64 (k'), .int .i64 (n'), .string (s')] 27)).alloc (.cells #[.int .i64 0, .int .i64 0, .string ⟨#[]⟩] 27)) = W0 at *
  refine (HC.out _).mono ?_
  rintro e w1 ⟨rfl, b1⟩
  have k_x := k_x.below b1 k_x.lt
  have k_y := k_y.below b1 k_y.lt
  have k_r := k_r.below b1 k_r.lt
  have bb := bb.trans (b1.mono bb.size)
  have x_x0 : w1.cell? ⟨w.heap.size, 0, none⟩ = some (.int .i64 k) := by rw [k_x.cell]; rfl
  have x_x1 : w1.cell? ⟨w.heap.size, 1, none⟩ = some (.int .i64 n) := by rw [k_x.cell]; rfl
  have x_x2 : w1.cell? ⟨w.heap.size, 2, none⟩ = some (.string s) := by rw [k_x.cell]; rfl
  have l_x := k_x.lt
  have x_y0 : w1.cell? ⟨w.heap.size + 1, 0, none⟩ = some (.int .i64 (k')) := by rw [k_y.cell]; rfl
  have x_y1 : w1.cell? ⟨w.heap.size + 1, 1, none⟩ = some (.int .i64 (n')) := by rw [k_y.cell]; rfl
  have x_y2 : w1.cell? ⟨w.heap.size + 1, 2, none⟩ = some (.string (s')) := by rw [k_y.cell]; rfl
  have l_y := k_y.lt
  have x_r0 : w1.cell? ⟨w.heap.size + 1 + 1, 0, none⟩ = some (.int .i64 0) := by rw [k_r.cell]; rfl
  have x_r1 : w1.cell? ⟨w.heap.size + 1 + 1, 1, none⟩ = some (.int .i64 0) := by rw [k_r.cell]; rfl
  have x_r2 : w1.cell? ⟨w.heap.size + 1 + 1, 2, none⟩ = some (.string ⟨#[]⟩) := by rw [k_r.cell]; rfl
  have l_r := k_r.lt
  cases g1
  · skip
    go_wp2_with fail
    refine (HT.out _ _).mono ?_
    rintro e w2 ⟨rfl, b2⟩
    clear x_x0 x_x1 x_x2 l_x x_y0 x_y1 x_y2 l_y x_r0 x_r1 x_r2 l_r
    have k_x := k_x.below b2 k_x.lt
    have k_y := k_y.below b2 k_y.lt
    have k_r := k_r.below b2 k_r.lt
    have bb := bb.trans (b2.mono bb.size)
    have x_x0 : w2.cell? ⟨w.heap.size, 0, none⟩ = some (.int .i64 k) := by rw [k_x.cell]; rfl
    have x_x1 : w2.cell? ⟨w.heap.size, 1, none⟩ = some (.int .i64 n) := by rw [k_x.cell]; rfl
    have x_x2 : w2.cell? ⟨w.heap.size, 2, none⟩ = some (.string s) := by rw [k_x.cell]; rfl
    have l_x := k_x.lt
    have x_y0 : w2.cell? ⟨w.heap.size + 1, 0, none⟩ = some (.int .i64 (k')) := by rw [k_y.cell]; rfl
    have x_y1 : w2.cell? ⟨w.heap.size + 1, 1, none⟩ = some (.int .i64 (n')) := by rw [k_y.cell]; rfl
    have x_y2 : w2.cell? ⟨w.heap.size + 1, 2, none⟩ = some (.string (s')) := by rw [k_y.cell]; rfl
    have l_y := k_y.lt
    have x_r0 : w2.cell? ⟨w.heap.size + 1 + 1, 0, none⟩ = some (.int .i64 0) := by rw [k_r.cell]; rfl
    have x_r1 : w2.cell? ⟨w.heap.size + 1 + 1, 1, none⟩ = some (.int .i64 0) := by rw [k_r.cell]; rfl
    have x_r2 : w2.cell? ⟨w.heap.size + 1 + 1, 2, none⟩ = some (.string ⟨#[]⟩) := by rw [k_r.cell]; rfl
    have l_r := k_r.lt
    have z_r0 := k_r.frozen 0
    have z_r1 := k_r.frozen 1
    have z_r2 := k_r.frozen 2
    go_wp2
    exact bodyPost_ret (v := (.tuple #[VS 2 (tN true) ⟨#[]⟩, .int .i64 0])) (by simp [results, Tryd.results28, go_sem, x_r0, x_r1, x_r2, l_r]) rfl ⟨rfl, (((bb).setCell (p := ⟨w.heap.size + 1 + 1, 0, none⟩) (by first | exact Nat.le_refl _ | (simp; done) | (simp; omega) | omega) _).setCell (p := ⟨w.heap.size + 1 + 1, 1, none⟩) (by first | exact Nat.le_refl _ | (simp; done) | (simp; omega) | omega) _).setCell (p := ⟨w.heap.size + 1 + 1, 2, none⟩) (by first | exact Nat.le_refl _ | (simp; done) | (simp; omega) | omega) _⟩
  · skip
    go_wp2_with fail
    refine (HT.out _ _).mono ?_
    rintro e w2 ⟨rfl, b2⟩
    clear x_x0 x_x1 x_x2 l_x x_y0 x_y1 x_y2 l_y x_r0 x_r1 x_r2 l_r
    have k_x := k_x.below b2 k_x.lt
    have k_y := k_y.below b2 k_y.lt
    have k_r := k_r.below b2 k_r.lt
    have bb := bb.trans (b2.mono bb.size)
    have x_x0 : w2.cell? ⟨w.heap.size, 0, none⟩ = some (.int .i64 k) := by rw [k_x.cell]; rfl
    have x_x1 : w2.cell? ⟨w.heap.size, 1, none⟩ = some (.int .i64 n) := by rw [k_x.cell]; rfl
    have x_x2 : w2.cell? ⟨w.heap.size, 2, none⟩ = some (.string s) := by rw [k_x.cell]; rfl
    have l_x := k_x.lt
    have x_y0 : w2.cell? ⟨w.heap.size + 1, 0, none⟩ = some (.int .i64 (k')) := by rw [k_y.cell]; rfl
    have x_y1 : w2.cell? ⟨w.heap.size + 1, 1, none⟩ = some (.int .i64 (n')) := by rw [k_y.cell]; rfl
    have x_y2 : w2.cell? ⟨w.heap.size + 1, 2, none⟩ = some (.string (s')) := by rw [k_y.cell]; rfl
    have l_y := k_y.lt
    have x_r0 : w2.cell? ⟨w.heap.size + 1 + 1, 0, none⟩ = some (.int .i64 0) := by rw [k_r.cell]; rfl
    have x_r1 : w2.cell? ⟨w.heap.size + 1 + 1, 1, none⟩ = some (.int .i64 0) := by rw [k_r.cell]; rfl
    have x_r2 : w2.cell? ⟨w.heap.size + 1 + 1, 2, none⟩ = some (.string ⟨#[]⟩) := by rw [k_r.cell]; rfl
    have l_r := k_r.lt
    have z_r0 := k_r.frozen 0
    have z_r1 := k_r.frozen 1
    have z_r2 := k_r.frozen 2
    go_wp2
    exact bodyPost_ret (v := (.tuple #[VS 2 (tN false) ⟨#[]⟩, .int .i64 0])) (by simp [results, Tryd.results28, go_sem, x_r0, x_r1, x_r2, l_r]) rfl ⟨rfl, (((bb).setCell (p := ⟨w.heap.size + 1 + 1, 0, none⟩) (by first | exact Nat.le_refl _ | (simp; done) | (simp; omega) | omega) _).setCell (p := ⟨w.heap.size + 1 + 1, 1, none⟩) (by first | exact Nat.le_refl _ | (simp; done) | (simp; omega) | omega) _).setCell (p := ⟨w.heap.size + 1 + 1, 2, none⟩) (by first | exact Nat.le_refl _ | (simp; done) | (simp; omega) | omega) _⟩
set_option maxHeartbeats 8000000 in
set_option maxRecDepth 100000 in
theorem rb_join_e1_x (k n : Int) (s : ByteArray) (k' n' : Int) (s' : ByteArray) (t : ByteArray) (e1 : Int) (w : World) (fk : (k == 7) = true) (he : ¬ e1 = 0) (C1 : ∀ W, Below w.heap.size w W → Calls Tryd.prog 31 #[VS k n s] W (Ret (.tuple #[.string t, .int .i64 e1]) W)) :
    Calls Tryd.prog 28 #[.string ⟨#[43]⟩, VS k n s, VS k' n' s'] w (Ret (.tuple #[VS 0 0 ⟨#[]⟩, .int .i64 e1]) w) := by
  have H1 := Lib.hid C1
  clear C1
  have q2 : (e1 != 0) = true := by simpa using he
  have q3 : ¬ e1 = 0 := he
  go_enter Tryd.func28, Tryd.ntmps28
  go_wp2_with fail
  have k_x := ((Blk.new w 27 #[.int .i64 k, .int .i64 n, .string s]).alloc (.cells #[.int .i64 (k'), .int .i64 (n'), .string (s')] 27)).alloc (.cells #[.int .i64 0, .int .i64 0, .string ⟨#[]⟩] 27)
  have k_y := (Blk.new (w.alloc (.cells #[.int .i64 k, .int .i64 n, .string s] 27)) 27 #[.int .i64 (k'), .int .i64 (n'), .string (s')]).alloc (.cells #[.int .i64 0, .int .i64 0, .string ⟨#[]⟩] 27)
  rw [World.size_alloc] at k_y
  have k_r := Blk.new ((w.alloc (.cells #[.int .i64 k, .int .i64 n, .string s] 27)).alloc (.cells #[.int .i64 (k'), .int .i64 (n'), .string (s')] 27)) 27 #[.int .i64 0, .int .i64 0, .string ⟨#[]⟩]
  rw [World.size_alloc, World.size_alloc] at k_r
  have bb : Below w.heap.size w _ := ((((Below.refl _ _).alloc (Nat.le_refl _) (.cells #[.int .i64 k, .int .i64 n, .string s] 27)).alloc (by simp) (.cells #[.int .i64 (k'), .int .i64 (n'), .string (s')] 27)).alloc (by simp; omega) (.cells #[.int .i64 0, .int .i64 0, .string ⟨#[]⟩] 27))
  generalize (((w.alloc (.cells #[.int .i64 k, .int .i64 n, .string s] 27)).alloc (.cells #[.int .i64 (k'), .int .i64 (n'), .string (s')] 27)).alloc (.cells #[.int .i64 0, .int .i64 0, .string ⟨#[]⟩] 27)) = W0 at *
  refine (H1.out _ bb).mono ?_
  rintro e w1 ⟨rfl, b1⟩
  have k_x := k_x.below b1 k_x.lt
  have k_y := k_y.below b1 k_y.lt
  have k_r := k_r.below b1 k_r.lt
  have bb := bb.trans (b1.mono bb.size)
  have x_x0 : w1.cell? ⟨w.heap.size, 0, none⟩ = some (.int .i64 k) := by rw [k_x.cell]; rfl
  have x_x1 : w1.cell? ⟨w.heap.size, 1, none⟩ = some (.int .i64 n) := by rw [k_x.cell]; rfl
  have x_x2 : w1.cell? ⟨w.heap.size, 2, none⟩ = some (.string s) := by rw [k_x.cell]; rfl
  have l_x := k_x.lt
  have x_y0 : w1.cell? ⟨w.heap.size + 1, 0, none⟩ = some (.int .i64 (k')) := by rw [k_y.cell]; rfl
  have x_y1 : w1.cell? ⟨w.heap.size + 1, 1, none⟩ = some (.int .i64 (n')) := by rw [k_y.cell]; rfl
  have x_y2 : w1.cell? ⟨w.heap.size + 1, 2, none⟩ = some (.string (s')) := by rw [k_y.cell]; rfl
  have l_y := k_y.lt
  have x_r0 : w1.cell? ⟨w.heap.size + 1 + 1, 0, none⟩ = some (.int .i64 0) := by rw [k_r.cell]; rfl
  have x_r1 : w1.cell? ⟨w.heap.size + 1 + 1, 1, none⟩ = some (.int .i64 0) := by rw [k_r.cell]; rfl
  have x_r2 : w1.cell? ⟨w.heap.size + 1 + 1, 2, none⟩ = some (.string ⟨#[]⟩) := by rw [k_r.cell]; rfl
  have l_r := k_r.lt
  have z_r0 := k_r.frozen 0
  have z_r1 := k_r.frozen 1
  have z_r2 := k_r.frozen 2
  go_wp2
  exact bodyPost_ret (v := (.tuple #[VS 0 0 ⟨#[]⟩, .int .i64 e1])) (by simp [results, Tryd.results28, go_sem, x_r0, x_r1, x_r2, l_r]) rfl ⟨rfl, (((bb).setCell (p := ⟨w.heap.size + 1 + 1, 0, none⟩) (by first | exact Nat.le_refl _ | (simp; done) | (simp; omega) | omega) _).setCell (p := ⟨w.heap.size + 1 + 1, 1, none⟩) (by first | exact Nat.le_refl _ | (simp; done) | (simp; omega) | omega) _).setCell (p := ⟨w.heap.size + 1 + 1, 2, none⟩) (by first | exact Nat.le_refl _ | (simp; done) | (simp; omega) | omega) _⟩
set_option maxHeartbeats 8000000 in
set_option maxRecDepth 100000 in
theorem rb_join_e2_x (k n : Int) (s : ByteArray) (k' n' : Int) (s' : ByteArray) (t t' : ByteArray) (e1 : Int) (w : World) (fk : (k == 7) = true) (he : ¬ e1 = 0) (C1 : ∀ W, Below w.heap.size w W → Calls Tryd.prog 31 #[VS k n s] W (Ret (.tuple #[.string t, .int .i64 0]) W)) (C2 : ∀ W, Below w.heap.size w W → Calls Tryd.prog 31 #[VS k' n' s'] W (Ret (.tuple #[.string t', .int .i64 e1]) W)) :
    Calls Tryd.prog 28 #[.string ⟨#[43]⟩, VS k n s, VS k' n' s'] w (Ret (.tuple #[VS 0 0 ⟨#[]⟩, .int .i64 e1]) w) := by
  have H1 := Lib.hid C1
  have H2 := Lib.hid C2
  clear C1 C2
  have q2 : (e1 != 0) = true := by simpa using he
  have q3 : ¬ e1 = 0 := he
  go_enter Tryd.func28, Tryd.ntmps28
  go_wp2_with fail
  have k_x := ((Blk.new w 27 #[.int .i64 k, .int .i64 n, .string s]).alloc (.cells #[.int .i64 (k'), .int .i64 (n'), .string (s')] 27)).alloc (.cells #[.int .i64 0, .int .i64 0, .string ⟨#[]⟩] 27)
  have k_y := (Blk.new (w.alloc (.cells #[.int .i64 k, .int .i64 n, .string s] 27)) 27 #[.int .i64 (k'), .int .i64 (n'), .string (s')]).alloc (.cells #[.int .i64 0, .int .i64 0, .string ⟨#[]⟩] 27)
  rw [World.size_alloc] at k_y
  have k_r := Blk.new ((w.alloc (.cells #[.int .i64 k, .int .i64 n, .string s] 27)).alloc (.cells #[.int .i64 (k'), .int .i64 (n'), .string (s')] 27)) 27 #[.int .i64 0, .int .i64 0, .string ⟨#[]⟩]
  rw [World.size_alloc, World.size_alloc] at k_r
  have bb : Below w.heap.size w _ := ((((Below.refl _ _).alloc (Nat.le_refl _) (.cells #[.int .i64 k, .int .i64 n, .string s] 27)).alloc (by simp) (.cells #[.int .i64 (k'), .int .i64 (n'), .string (s')] 27)).alloc (by simp; omega) (.cells #[.int .i64 0, .int .i64 0, .string ⟨#[]⟩] 27))
  generalize (((w.alloc (.cells #[.int .i64 k, .int .i64 n, .string s] 27)).alloc (.cells #[.int .i64 (k'), .int .i64 (n'), .string (s')] 27)).alloc (.cells #[.int .i64 0, .int .i64 0, .string ⟨#[]⟩] 27)) = W0 at *
  refine (H1.out _ bb).mono ?_
  rintro e w1 ⟨rfl, b1⟩
  have k_x := k_x.below b1 k_x.lt
  have k_y := k_y.below b1 k_y.lt
  have k_r := k_r.below b1 k_r.lt
  have bb := bb.trans (b1.mono bb.size)
  have x_x0 : w1.cell? ⟨w.heap.size, 0, none⟩ = some (.int .i64 k) := by rw [k_x.cell]; rfl
  have x_x1 : w1.cell? ⟨w.heap.size, 1, none⟩ = some (.int .i64 n) := by rw [k_x.cell]; rfl
  have x_x2 : w1.cell? ⟨w.heap.size, 2, none⟩ = some (.string s) := by rw [k_x.cell]; rfl
  have l_x := k_x.lt
  have x_y0 : w1.cell? ⟨w.heap.size + 1, 0, none⟩ = some (.int .i64 (k')) := by rw [k_y.cell]; rfl
  have x_y1 : w1.cell? ⟨w.heap.size + 1, 1, none⟩ = some (.int .i64 (n')) := by rw [k_y.cell]; rfl
  have x_y2 : w1.cell? ⟨w.heap.size + 1, 2, none⟩ = some (.string (s')) := by rw [k_y.cell]; rfl
  have l_y := k_y.lt
  have x_r0 : w1.cell? ⟨w.heap.size + 1 + 1, 0, none⟩ = some (.int .i64 0) := by rw [k_r.cell]; rfl
  have x_r1 : w1.cell? ⟨w.heap.size + 1 + 1, 1, none⟩ = some (.int .i64 0) := by rw [k_r.cell]; rfl
  have x_r2 : w1.cell? ⟨w.heap.size + 1 + 1, 2, none⟩ = some (.string ⟨#[]⟩) := by rw [k_r.cell]; rfl
  have l_r := k_r.lt
  go_wp2_with fail
  refine (H2.out _ bb).mono ?_
  rintro e w2 ⟨rfl, b2⟩
  clear x_x0 x_x1 x_x2 l_x x_y0 x_y1 x_y2 l_y x_r0 x_r1 x_r2 l_r
  have k_x := k_x.below b2 k_x.lt
  have k_y := k_y.below b2 k_y.lt
  have k_r := k_r.below b2 k_r.lt
  have bb := bb.trans (b2.mono bb.size)
  have x_x0 : w2.cell? ⟨w.heap.size, 0, none⟩ = some (.int .i64 k) := by rw [k_x.cell]; rfl
  have x_x1 : w2.cell? ⟨w.heap.size, 1, none⟩ = some (.int .i64 n) := by rw [k_x.cell]; rfl
  have x_x2 : w2.cell? ⟨w.heap.size, 2, none⟩ = some (.string s) := by rw [k_x.cell]; rfl
  have l_x := k_x.lt
  have x_y0 : w2.cell? ⟨w.heap.size + 1, 0, none⟩ = some (.int .i64 (k')) := by rw [k_y.cell]; rfl
  have x_y1 : w2.cell? ⟨w.heap.size + 1, 1, none⟩ = some (.int .i64 (n')) := by rw [k_y.cell]; rfl
  have x_y2 : w2.cell? ⟨w.heap.size + 1, 2, none⟩ = some (.string (s')) := by rw [k_y.cell]; rfl
  have l_y := k_y.lt
  have x_r0 : w2.cell? ⟨w.heap.size + 1 + 1, 0, none⟩ = some (.int .i64 0) := by rw [k_r.cell]; rfl
  have x_r1 : w2.cell? ⟨w.heap.size + 1 + 1, 1, none⟩ = some (.int .i64 0) := by rw [k_r.cell]; rfl
  have x_r2 : w2.cell? ⟨w.heap.size + 1 + 1, 2, none⟩ = some (.string ⟨#[]⟩) := by rw [k_r.cell]; rfl
  have l_r := k_r.lt
  have z_r0 := k_r.frozen 0
  have z_r1 := k_r.frozen 1
  have z_r2 := k_r.frozen 2
  go_wp2
  exact bodyPost_ret (v := (.tuple #[VS 0 0 ⟨#[]⟩, .int .i64 e1])) (by simp [results, Tryd.results28, go_sem, x_r0, x_r1, x_r2, l_r]) rfl ⟨rfl, (((bb).setCell (p := ⟨w.heap.size + 1 + 1, 0, none⟩) (by first | exact Nat.le_refl _ | (simp; done) | (simp; omega) | omega) _).setCell (p := ⟨w.heap.size + 1 + 1, 1, none⟩) (by first | exact Nat.le_refl _ | (simp; done) | (simp; omega) | omega) _).setCell (p := ⟨w.heap.size + 1 + 1, 2, none⟩) (by first | exact Nat.le_refl _ | (simp; done) | (simp; omega) | omega) _⟩
set_option maxHeartbeats 8000000 in
set_option maxRecDepth 100000 in
theorem rb_join_ok_x (k n : Int) (s : ByteArray) (k' n' : Int) (s' : ByteArray) (t t' Z : ByteArray) (w : World) (fk : (k == 7) = true) (HZ : Hid (Z = t ++ t')) (ht : t.size ≤ 4000) (ht' : t'.size ≤ 4000) (C1 : ∀ W, Below w.heap.size w W → Calls Tryd.prog 31 #[VS k n s] W (Ret (.tuple #[.string t, .int .i64 0]) W)) (C2 : ∀ W, Below w.heap.size w W → Calls Tryd.prog 31 #[VS k' n' s'] W (Ret (.tuple #[.string t', .int .i64 0]) W)) :
    Calls Tryd.prog 28 #[.string ⟨#[43]⟩, VS k n s, VS k' n' s'] w (Ret (.tuple #[VS 7 0 Z, .int .i64 0]) w) := by
  have H1 := Lib.hid C1
  have H2 := Lib.hid C2
  clear C1 C2
  have q1 : decide ((32768 : Int) < (t.size : Int) + (t'.size : Int)) = false := by simp; omega
  have cat := fun W => ocatV t t' Z HZ (by omega) W
  go_enter Tryd.func28, Tryd.ntmps28
  go_wp2_with fail
  have k_x := ((Blk.new w 27 #[.int .i64 k, .int .i64 n, .string s]).alloc (.cells #[.int .i64 (k'), .int .i64 (n'), .string (s')] 27)).alloc (.cells #[.int .i64 0, .int .i64 0, .string ⟨#[]⟩] 27)
  have k_y := (Blk.new (w.alloc (.cells #[.int .i64 k, .int .i64 n, .string s] 27)) 27 #[.int .i64 (k'), .int .i64 (n'), .string (s')]).alloc (.cells #[.int .i64 0, .int .i64 0, .string ⟨#[]⟩] 27)
  rw [World.size_alloc] at k_y
  have k_r := Blk.new ((w.alloc (.cells #[.int .i64 k, .int .i64 n, .string s] 27)).alloc (.cells #[.int .i64 (k'), .int .i64 (n'), .string (s')] 27)) 27 #[.int .i64 0, .int .i64 0, .string ⟨#[]⟩]
  rw [World.size_alloc, World.size_alloc] at k_r
  have bb : Below w.heap.size w _ := ((((Below.refl _ _).alloc (Nat.le_refl _) (.cells #[.int .i64 k, .int .i64 n, .string s] 27)).alloc (by simp) (.cells #[.int .i64 (k'), .int .i64 (n'), .string (s')] 27)).alloc (by simp; omega) (.cells #[.int .i64 0, .int .i64 0, .string ⟨#[]⟩] 27))
  generalize (((w.alloc (.cells #[.int .i64 k, .int .i64 n, .string s] 27)).alloc (.cells #[.int .i64 (k'), .int .i64 (n'), .string (s')] 27)).alloc (.cells #[.int .i64 0, .int .i64 0, .string ⟨#[]⟩] 27)) = W0 at *
  refine (H1.out _ bb).mono ?_
  rintro e w1 ⟨rfl, b1⟩
  have k_x := k_x.below b1 k_x.lt
  have k_y := k_y.below b1 k_y.lt
  have k_r := k_r.below b1 k_r.lt
  have bb := bb.trans (b1.mono bb.size)
  have x_x0 : w1.cell? ⟨w.heap.size, 0, none⟩ = some (.int .i64 k) := by rw [k_x.cell]; rfl
  have x_x1 : w1.cell? ⟨w.heap.size, 1, none⟩ = some (.int .i64 n) := by rw [k_x.cell]; rfl
  have x_x2 : w1.cell? ⟨w.heap.size, 2, none⟩ = some (.string s) := by rw [k_x.cell]; rfl
  have l_x := k_x.lt
  have x_y0 : w1.cell? ⟨w.heap.size + 1, 0, none⟩ = some (.int .i64 (k')) := by rw [k_y.cell]; rfl
  have x_y1 : w1.cell? ⟨w.heap.size + 1, 1, none⟩ = some (.int .i64 (n')) := by rw [k_y.cell]; rfl
  have x_y2 : w1.cell? ⟨w.heap.size + 1, 2, none⟩ = some (.string (s')) := by rw [k_y.cell]; rfl
  have l_y := k_y.lt
  have x_r0 : w1.cell? ⟨w.heap.size + 1 + 1, 0, none⟩ = some (.int .i64 0) := by rw [k_r.cell]; rfl
  have x_r1 : w1.cell? ⟨w.heap.size + 1 + 1, 1, none⟩ = some (.int .i64 0) := by rw [k_r.cell]; rfl
  have x_r2 : w1.cell? ⟨w.heap.size + 1 + 1, 2, none⟩ = some (.string ⟨#[]⟩) := by rw [k_r.cell]; rfl
  have l_r := k_r.lt
  go_wp2_with fail
  refine (H2.out _ bb).mono ?_
  rintro e w2 ⟨rfl, b2⟩
  clear x_x0 x_x1 x_x2 l_x x_y0 x_y1 x_y2 l_y x_r0 x_r1 x_r2 l_r
  have k_x := k_x.below b2 k_x.lt
  have k_y := k_y.below b2 k_y.lt
  have k_r := k_r.below b2 k_r.lt
  have bb := bb.trans (b2.mono bb.size)
  have x_x0 : w2.cell? ⟨w.heap.size, 0, none⟩ = some (.int .i64 k) := by rw [k_x.cell]; rfl
  have x_x1 : w2.cell? ⟨w.heap.size, 1, none⟩ = some (.int .i64 n) := by rw [k_x.cell]; rfl
  have x_x2 : w2.cell? ⟨w.heap.size, 2, none⟩ = some (.string s) := by rw [k_x.cell]; rfl
  have l_x := k_x.lt
  have x_y0 : w2.cell? ⟨w.heap.size + 1, 0, none⟩ = some (.int .i64 (k')) := by rw [k_y.cell]; rfl
  have x_y1 : w2.cell? ⟨w.heap.size + 1, 1, none⟩ = some (.int .i64 (n')) := by rw [k_y.cell]; rfl
  have x_y2 : w2.cell? ⟨w.heap.size + 1, 2, none⟩ = some (.string (s')) := by rw [k_y.cell]; rfl
  have l_y := k_y.lt
  have x_r0 : w2.cell? ⟨w.heap.size + 1 + 1, 0, none⟩ = some (.int .i64 0) := by rw [k_r.cell]; rfl
  have x_r1 : w2.cell? ⟨w.heap.size + 1 + 1, 1, none⟩ = some (.int .i64 0) := by rw [k_r.cell]; rfl
  have x_r2 : w2.cell? ⟨w.heap.size + 1 + 1, 2, none⟩ = some (.string ⟨#[]⟩) := by rw [k_r.cell]; rfl
  have l_r := k_r.lt
  have z_r0 := k_r.frozen 0
  have z_r1 := k_r.frozen 1
  have z_r2 := k_r.frozen 2
  go_wp2
  exact bodyPost_ret (v := (.tuple #[VS 7 0 Z, .int .i64 0])) (by simp [results, Tryd.results28, go_sem, x_r0, x_r1, x_r2, l_r]) rfl ⟨rfl, (((bb).setCell (p := ⟨w.heap.size + 1 + 1, 0, none⟩) (by first | exact Nat.le_refl _ | (simp; done) | (simp; omega) | omega) _).setCell (p := ⟨w.heap.size + 1 + 1, 1, none⟩) (by first | exact Nat.le_refl _ | (simp; done) | (simp; omega) | omega) _).setCell (p := ⟨w.heap.size + 1 + 1, 2, none⟩) (by first | exact Nat.le_refl _ | (simp; done) | (simp; omega) | omega) _⟩
set_option maxHeartbeats 8000000 in
set_option maxRecDepth 100000 in
theorem rb_join_e1_y (k n : Int) (s : ByteArray) (k' n' : Int) (s' : ByteArray) (t : ByteArray) (e1 : Int) (w : World) (fk : (k == 7) = false) (fk' : (k' == 7) = true) (he : ¬ e1 = 0) (C1 : ∀ W, Below w.heap.size w W → Calls Tryd.prog 31 #[VS k n s] W (Ret (.tuple #[.string t, .int .i64 e1]) W)) :
    Calls Tryd.prog 28 #[.string ⟨#[43]⟩, VS k n s, VS k' n' s'] w (Ret (.tuple #[VS 0 0 ⟨#[]⟩, .int .i64 e1]) w) := by
  have H1 := Lib.hid C1
  clear C1
  have q2 : (e1 != 0) = true := by simpa using he
  have q3 : ¬ e1 = 0 := he
  go_enter Tryd.func28, Tryd.ntmps28
  go_wp2_with fail
  have k_x := ((Blk.new w 27 #[.int .i64 k, .int .i64 n, .string s]).alloc (.cells #[.int .i64 (k'), .int .i64 (n'), .string (s')] 27)).alloc (.cells #[.int .i64 0, .int .i64 0, .string ⟨#[]⟩] 27)
  have k_y := (Blk.new (w.alloc (.cells #[.int .i64 k, .int .i64 n, .string s] 27)) 27 #[.int .i64 (k'), .int .i64 (n'), .string (s')]).alloc (.cells #[.int .i64 0, .int .i64 0, .string ⟨#[]⟩] 27)
  rw [World.size_alloc] at k_y
  have k_r := Blk.new ((w.alloc (.cells #[.int .i64 k, .int .i64 n, .string s] 27)).alloc (.cells #[.int .i64 (k'), .int .i64 (n'), .string (s')] 27)) 27 #[.int .i64 0, .int .i64 0, .string ⟨#[]⟩]
  rw [World.size_alloc, World.size_alloc] at k_r
  have bb : Below w.heap.size w _ := ((((Below.refl _ _).alloc (Nat.le_refl _) (.cells #[.int .i64 k, .int .i64 n, .string s] 27)).alloc (by simp) (.cells #[.int .i64 (k'), .int .i64 (n'), .string (s')] 27)).alloc (by simp; omega) (.cells #[.int .i64 0, .int .i64 0, .string ⟨#[]⟩] 27))
  generalize (((w.alloc (.cells #[.int .i64 k, .int .i64 n, .string s] 27)).alloc (.cells #[.int .i64 (k'), .int .i64 (n'), .string (s')] 27)).alloc (.cells #[.int .i64 0, .int .i64 0, .string ⟨#[]⟩] 27)) = W0 at *
  refine (H1.out _ bb).mono ?_
  rintro e w1 ⟨rfl, b1⟩
  have k_x := k_x.below b1 k_x.lt
  have k_y := k_y.below b1 k_y.lt
  have k_r := k_r.below b1 k_r.lt
  have bb := bb.trans (b1.mono bb.size)
  have x_x0 : w1.cell? ⟨w.heap.size, 0, none⟩ = some (.int .i64 k) := by rw [k_x.cell]; rfl
  have x_x1 : w1.cell? ⟨w.heap.size, 1, none⟩ = some (.int .i64 n) := by rw [k_x.cell]; rfl
  have x_x2 : w1.cell? ⟨w.heap.size, 2, none⟩ = some (.string s) := by rw [k_x.cell]; rfl
  have l_x := k_x.lt
  have x_y0 : w1.cell? ⟨w.heap.size + 1, 0, none⟩ = some (.int .i64 (k')) := by rw [k_y.cell]; rfl
  have x_y1 : w1.cell? ⟨w.heap.size + 1, 1, none⟩ = some (.int .i64 (n')) := by rw [k_y.cell]; rfl
  have x_y2 : w1.cell? ⟨w.heap.size + 1, 2, none⟩ = some (.string (s')) := by rw [k_y.cell]; rfl
  have l_y := k_y.lt
  have x_r0 : w1.cell? ⟨w.heap.size + 1 + 1, 0, none⟩ = some (.int .i64 0) := by rw [k_r.cell]; rfl
  have x_r1 : w1.cell? ⟨w.heap.size + 1 + 1, 1, none⟩ = some (.int .i64 0) := by rw [k_r.cell]; rfl
  have x_r2 : w1.cell? ⟨w.heap.size + 1 + 1, 2, none⟩ = some (.string ⟨#[]⟩) := by rw [k_r.cell]; rfl
  have l_r := k_r.lt
  have z_r0 := k_r.frozen 0
  have z_r1 := k_r.frozen 1
  have z_r2 := k_r.frozen 2
  go_wp2
  exact bodyPost_ret (v := (.tuple #[VS 0 0 ⟨#[]⟩, .int .i64 e1])) (by simp [results, Tryd.results28, go_sem, x_r0, x_r1, x_r2, l_r]) rfl ⟨rfl, (((bb).setCell (p := ⟨w.heap.size + 1 + 1, 0, none⟩) (by first | exact Nat.le_refl _ | (simp; done) | (simp; omega) | omega) _).setCell (p := ⟨w.heap.size + 1 + 1, 1, none⟩) (by first | exact Nat.le_refl _ | (simp; done) | (simp; omega) | omega) _).setCell (p := ⟨w.heap.size + 1 + 1, 2, none⟩) (by first | exact Nat.le_refl _ | (simp; done) | (simp; omega) | omega) _⟩
set_option maxHeartbeats 8000000 in
set_option maxRecDepth 100000 in
theorem rb_join_e2_y (k n : Int) (s : ByteArray) (k' n' : Int) (s' : ByteArray) (t t' : ByteArray) (e1 : Int) (w : World) (fk : (k == 7) = false) (fk' : (k' == 7) = true) (he : ¬ e1 = 0) (C1 : ∀ W, Below w.heap.size w W → Calls Tryd.prog 31 #[VS k n s] W (Ret (.tuple #[.string t, .int .i64 0]) W)) (C2 : ∀ W, Below w.heap.size w W → Calls Tryd.prog 31 #[VS k' n' s'] W (Ret (.tuple #[.string t', .int .i64 e1]) W)) :
    Calls Tryd.prog 28 #[.string ⟨#[43]⟩, VS k n s, VS k' n' s'] w (Ret (.tuple #[VS 0 0 ⟨#[]⟩, .int .i64 e1]) w) := by
  have H1 := Lib.hid C1
  have H2 := Lib.hid C2
  clear C1 C2
  have q2 : (e1 != 0) = true := by simpa using he
  have q3 : ¬ e1 = 0 := he
  go_enter Tryd.func28, Tryd.ntmps28
  go_wp2_with fail
  have k_x := ((Blk.new w 27 #[.int .i64 k, .int .i64 n, .string s]).alloc (.cells #[.int .i64 (k'), .int .i64 (n'), .string (s')] 27)).alloc (.cells #[.int .i64 0, .int .i64 0, .string ⟨#[]⟩] 27)
  have k_y := (Blk.new (w.alloc (.cells #[.int .i64 k, .int .i64 n, .string s] 27)) 27 #[.int .i64 (k'), .int .i64 (n'), .string (s')]).alloc (.cells #[.int .i64 0, .int .i64 0, .string ⟨#[]⟩] 27)
  rw [World.size_alloc] at k_y
  have k_r := Blk.new ((w.alloc (.cells #[.int .i64 k, .int .i64 n, .string s] 27)).alloc (.cells #[.int .i64 (k'), .int .i64 (n'), .string (s')] 27)) 27 #[.int .i64 0, .int .i64 0, .string ⟨#[]⟩]
  rw [World.size_alloc, World.size_alloc] at k_r
  have bb : Below w.heap.size w _ := ((((Below.refl _ _).alloc (Nat.le_refl _) (.cells #[.int .i64 k, .int .i64 n, .string s] 27)).alloc (by simp) (.cells #[.int .i64 (k'), .int .i64 (n'), .string (s')] 27)).alloc (by simp; omega) (.cells #[.int .i64 0, .int .i64 0, .string ⟨#[]⟩] 27))
  generalize (((w.alloc (.cells #[.int .i64 k, .int .i64 n, .string s] 27)).alloc (.cells #[.int .i64 (k'), .int .i64 (n'), .string (s')] 27)).alloc (.cells #[.int .i64 0, .int .i64 0, .string ⟨#[]⟩] 27)) = W0 at *
  refine (H1.out _ bb).mono ?_
  rintro e w1 ⟨rfl, b1⟩
  have k_x := k_x.below b1 k_x.lt
  have k_y := k_y.below b1 k_y.lt
  have k_r := k_r.below b1 k_r.lt
  have bb := bb.trans (b1.mono bb.size)
  have x_x0 : w1.cell? ⟨w.heap.size, 0, none⟩ = some (.int .i64 k) := by rw [k_x.cell]; rfl
  have x_x1 : w1.cell? ⟨w.heap.size, 1, none⟩ = some (.int .i64 n) := by rw [k_x.cell]; rfl
  have x_x2 : w1.cell? ⟨w.heap.size, 2, none⟩ = some (.string s) := by rw [k_x.cell]; rfl
  have l_x := k_x.lt
  have x_y0 : w1.cell? ⟨w.heap.size + 1, 0, none⟩ = some (.int .i64 (k')) := by rw [k_y.cell]; rfl
  have x_y1 : w1.cell? ⟨w.heap.size + 1, 1, none⟩ = some (.int .i64 (n')) := by rw [k_y.cell]; rfl
  have x_y2 : w1.cell? ⟨w.heap.size + 1, 2, none⟩ = some (.string (s')) := by rw [k_y.cell]; rfl
  have l_y := k_y.lt
  have x_r0 : w1.cell? ⟨w.heap.size + 1 + 1, 0, none⟩ = some (.int .i64 0) := by rw [k_r.cell]; rfl
  have x_r1 : w1.cell? ⟨w.heap.size + 1 + 1, 1, none⟩ = some (.int .i64 0) := by rw [k_r.cell]; rfl
  have x_r2 : w1.cell? ⟨w.heap.size + 1 + 1, 2, none⟩ = some (.string ⟨#[]⟩) := by rw [k_r.cell]; rfl
  have l_r := k_r.lt
  go_wp2_with fail
  refine (H2.out _ bb).mono ?_
  rintro e w2 ⟨rfl, b2⟩
  clear x_x0 x_x1 x_x2 l_x x_y0 x_y1 x_y2 l_y x_r0 x_r1 x_r2 l_r
  have k_x := k_x.below b2 k_x.lt
  have k_y := k_y.below b2 k_y.lt
  have k_r := k_r.below b2 k_r.lt
  have bb := bb.trans (b2.mono bb.size)
  have x_x0 : w2.cell? ⟨w.heap.size, 0, none⟩ = some (.int .i64 k) := by rw [k_x.cell]; rfl
  have x_x1 : w2.cell? ⟨w.heap.size, 1, none⟩ = some (.int .i64 n) := by rw [k_x.cell]; rfl
  have x_x2 : w2.cell? ⟨w.heap.size, 2, none⟩ = some (.string s) := by rw [k_x.cell]; rfl
  have l_x := k_x.lt
  have x_y0 : w2.cell? ⟨w.heap.size + 1, 0, none⟩ = some (.int .i64 (k')) := by rw [k_y.cell]; rfl
  have x_y1 : w2.cell? ⟨w.heap.size + 1, 1, none⟩ = some (.int .i64 (n')) := by rw [k_y.cell]; rfl
  have x_y2 : w2.cell? ⟨w.heap.size + 1, 2, none⟩ = some (.string (s')) := by rw [k_y.cell]; rfl
  have l_y := k_y.lt
  have x_r0 : w2.cell? ⟨w.heap.size + 1 + 1, 0, none⟩ = some (.int .i64 0) := by rw [k_r.cell]; rfl
  have x_r1 : w2.cell? ⟨w.heap.size + 1 + 1, 1, none⟩ = some (.int .i64 0) := by rw [k_r.cell]; rfl
  have x_r2 : w2.cell? ⟨w.heap.size + 1 + 1, 2, none⟩ = some (.string ⟨#[]⟩) := by rw [k_r.cell]; rfl
  have l_r := k_r.lt
  have z_r0 := k_r.frozen 0
  have z_r1 := k_r.frozen 1
  have z_r2 := k_r.frozen 2
  go_wp2
  exact bodyPost_ret (v := (.tuple #[VS 0 0 ⟨#[]⟩, .int .i64 e1])) (by simp [results, Tryd.results28, go_sem, x_r0, x_r1, x_r2, l_r]) rfl ⟨rfl, (((bb).setCell (p := ⟨w.heap.size + 1 + 1, 0, none⟩) (by first | exact Nat.le_refl _ | (simp; done) | (simp; omega) | omega) _).setCell (p := ⟨w.heap.size + 1 + 1, 1, none⟩) (by first | exact Nat.le_refl _ | (simp; done) | (simp; omega) | omega) _).setCell (p := ⟨w.heap.size + 1 + 1, 2, none⟩) (by first | exact Nat.le_refl _ | (simp; done) | (simp; omega) | omega) _⟩
set_option maxHeartbeats 8000000 in
set_option maxRecDepth 100000 in
theorem rb_join_ok_y (k n : Int) (s : ByteArray) (k' n' : Int) (s' : ByteArray) (t t' Z : ByteArray) (w : World) (fk : (k == 7) = false) (fk' : (k' == 7) = true) (HZ : Hid (Z = t ++ t')) (ht : t.size ≤ 4000) (ht' : t'.size ≤ 4000) (C1 : ∀ W, Below w.heap.size w W → Calls Tryd.prog 31 #[VS k n s] W (Ret (.tuple #[.string t, .int .i64 0]) W)) (C2 : ∀ W, Below w.heap.size w W → Calls Tryd.prog 31 #[VS k' n' s'] W (Ret (.tuple #[.string t', .int .i64 0]) W)) :
    Calls Tryd.prog 28 #[.string ⟨#[43]⟩, VS k n s, VS k' n' s'] w (Ret (.tuple #[VS 7 0 Z, .int .i64 0]) w) := by
  have H1 := Lib.hid C1
  have H2 := Lib.hid C2
  clear C1 C2
  have q1 : decide ((32768 : Int) < (t.size : Int) + (t'.size : Int)) = false := by simp; omega
  have cat := fun W => ocatV t t' Z HZ (by omega) W
  go_enter Tryd.func28, Tryd.ntmps28
  go_wp2_with fail
  have k_x := ((Blk.new w 27 #[.int .i64 k, .int .i64 n, .string s]).alloc (.cells #[.int .i64 (k'), .int .i64 (n'), .string (s')] 27)).alloc (.cells #[.int .i64 0, .int .i64 0, .string ⟨#[]⟩] 27)
  have k_y := (Blk.new (w.alloc (.cells #[.int .i64 k, .int .i64 n, .string s] 27)) 27 #[.int .i64 (k'), .int .i64 (n'), .string (s')]).alloc (.cells #[.int .i64 0, .int .i64 0, .string ⟨#[]⟩] 27)
  rw [World.size_alloc] at k_y
  have k_r := Blk.new ((w.alloc (.cells #[.int .i64 k, .int .i64 n, .string s] 27)).alloc (.cells #[.int .i64 (k'), .int .i64 (n'), .string (s')] 27)) 27 #[.int .i64 0, .int .i64 0, .string ⟨#[]⟩]
  rw [World.size_alloc, World.size_alloc] at k_r
  have bb : Below w.heap.size w _ := ((((Below.refl _ _).alloc (Nat.le_refl _) (.cells #[.int .i64 k, .int .i64 n, .string s] 27)).alloc (by simp) (.cells #[.int .i64 (k'), .int .i64 (n'), .string (s')] 27)).alloc (by simp; omega) (.cells #[.int .i64 0, .int .i64 0, .string ⟨#[]⟩] 27))
  generalize (((w.alloc (.cells #[.int .i64 k, .int .i64 n, .string s] 27)).alloc (.cells #[.int .i64 (k'), .int .i64 (n'), .string (s')] 27)).alloc (.cells #[.int .i64 0, .int .i64 0, .string ⟨#[]⟩] 27)) = W0 at *
  refine (H1.out _ bb).mono ?_
  rintro e w1 ⟨rfl, b1⟩
  have k_x := k_x.below b1 k_x.lt
  have k_y := k_y.below b1 k_y.lt
  have k_r := k_r.below b1 k_r.lt
  have bb := bb.trans (b1.mono bb.size)
  have x_x0 : w1.cell? ⟨w.heap.size, 0, none⟩ = some (.int .i64 k) := by rw [k_x.cell]; rfl
  have x_x1 : w1.cell? ⟨w.heap.size, 1, none⟩ = some (.int .i64 n) := by rw [k_x.cell]; rfl
  have x_x2 : w1.cell? ⟨w.heap.size, 2, none⟩ = some (.string s) := by rw [k_x.cell]; rfl
  have l_x := k_x.lt
  have x_y0 : w1.cell? ⟨w.heap.size + 1, 0, none⟩ = some (.int .i64 (k')) := by rw [k_y.cell]; rfl
  have x_y1 : w1.cell? ⟨w.heap.size + 1, 1, none⟩ = some (.int .i64 (n')) := by rw [k_y.cell]; rfl
  have x_y2 : w1.cell? ⟨w.heap.size + 1, 2, none⟩ = some (.string (s')) := by rw [k_y.cell]; rfl
  have l_y := k_y.lt
  have x_r0 : w1.cell? ⟨w.heap.size + 1 + 1, 0, none⟩ = some (.int .i64 0) := by rw [k_r.cell]; rfl
  have x_r1 : w1.cell? ⟨w.heap.size + 1 + 1, 1, none⟩ = some (.int .i64 0) := by rw [k_r.cell]; rfl
  have x_r2 : w1.cell? ⟨w.heap.size + 1 + 1, 2, none⟩ = some (.string ⟨#[]⟩) := by rw [k_r.cell]; rfl
  have l_r := k_r.lt
  go_wp2_with fail
  refine (H2.out _ bb).mono ?_
  rintro e w2 ⟨rfl, b2⟩
  clear x_x0 x_x1 x_x2 l_x x_y0 x_y1 x_y2 l_y x_r0 x_r1 x_r2 l_r
  have k_x := k_x.below b2 k_x.lt
  have k_y := k_y.below b2 k_y.lt
  have k_r := k_r.below b2 k_r.lt
  have bb := bb.trans (b2.mono bb.size)
  have x_x0 : w2.cell? ⟨w.heap.size, 0, none⟩ = some (.int .i64 k) := by rw [k_x.cell]; rfl
  have x_x1 : w2.cell? ⟨w.heap.size, 1, none⟩ = some (.int .i64 n) := by rw [k_x.cell]; rfl
  have x_x2 : w2.cell? ⟨w.heap.size, 2, none⟩ = some (.string s) := by rw [k_x.cell]; rfl
  have l_x := k_x.lt
  have x_y0 : w2.cell? ⟨w.heap.size + 1, 0, none⟩ = some (.int .i64 (k')) := by rw [k_y.cell]; rfl
  have x_y1 : w2.cell? ⟨w.heap.size + 1, 1, none⟩ = some (.int .i64 (n')) := by rw [k_y.cell]; rfl
  have x_y2 : w2.cell? ⟨w.heap.size + 1, 2, none⟩ = some (.string (s')) := by rw [k_y.cell]; rfl
  have l_y := k_y.lt
  have x_r0 : w2.cell? ⟨w.heap.size + 1 + 1, 0, none⟩ = some (.int .i64 0) := by rw [k_r.cell]; rfl
  have x_r1 : w2.cell? ⟨w.heap.size + 1 + 1, 1, none⟩ = some (.int .i64 0) := by rw [k_r.cell]; rfl
  have x_r2 : w2.cell? ⟨w.heap.size + 1 + 1, 2, none⟩ = some (.string ⟨#[]⟩) := by rw [k_r.cell]; rfl
  have l_r := k_r.lt
  have z_r0 := k_r.frozen 0
  have z_r1 := k_r.frozen 1
  have z_r2 := k_r.frozen 2
  go_wp2
  exact bodyPost_ret (v := (.tuple #[VS 7 0 Z, .int .i64 0])) (by simp [results, Tryd.results28, go_sem, x_r0, x_r1, x_r2, l_r]) rfl ⟨rfl, (((bb).setCell (p := ⟨w.heap.size + 1 + 1, 0, none⟩) (by first | exact Nat.le_refl _ | (simp; done) | (simp; omega) | omega) _).setCell (p := ⟨w.heap.size + 1 + 1, 1, none⟩) (by first | exact Nat.le_refl _ | (simp; done) | (simp; omega) | omega) _).setCell (p := ⟨w.heap.size + 1 + 1, 2, none⟩) (by first | exact Nat.le_refl _ | (simp; done) | (simp; omega) | omega) _⟩
set_option maxHeartbeats 8000000 in
set_option maxRecDepth 100000 in
theorem rb_num_e1 (o : ByteArray) (k n : Int) (s : ByteArray) (k' n' : Int) (s' : ByteArray) (p q e1 : Int) (w : World) (f0 : (o.toList == [61, 61, 61]) = false) (f1 : (o.toList == [33, 61, 61]) = false) (f2 : (o.toList == [60]) = false) (f3 : (o.toList == [62]) = false) (f4 : (o.toList == [60, 61]) = false) (f5 : (o.toList == [62, 61]) = false) (f6 : (o.toList == [43]) = false) (he : ¬ e1 = 0) (C1 : ∀ W, Calls Tryd.prog 30 #[VS k n s] W (Ret (.tuple #[VN p q, .int .i64 e1]) W)) :
    Calls Tryd.prog 28 #[.string o, VS k n s, VS k' n' s'] w (Ret (.tuple #[VS 0 0 ⟨#[]⟩, .int .i64 e1]) w) := by
  have H1 := Lib.hid C1
  clear C1
  have q2 : (e1 != 0) = true := by simpa using he
  have q3 : ¬ e1 = 0 := he
  go_enter Tryd.func28, Tryd.ntmps28
  go_wp2_with fail
  have k_x := ((Blk.new w 27 #[.int .i64 k, .int .i64 n, .string s]).alloc (.cells #[.int .i64 (k'), .int .i64 (n'), .string (s')] 27)).alloc (.cells #[.int .i64 0, .int .i64 0, .string ⟨#[]⟩] 27)
  have k_y := (Blk.new (w.alloc (.cells #[.int .i64 k, .int .i64 n, .string s] 27)) 27 #[.int .i64 (k'), .int .i64 (n'), .string (s')]).alloc (.cells #[.int .i64 0, .int .i64 0, .string ⟨#[]⟩] 27)
  rw [World.size_alloc] at k_y
  have k_r := Blk.new ((w.alloc (.cells #[.int .i64 k, .int .i64 n, .string s] 27)).alloc (.cells #[.int .i64 (k'), .int .i64 (n'), .string (s')] 27)) 27 #[.int .i64 0, .int .i64 0, .string ⟨#[]⟩]
  rw [World.size_alloc, World.size_alloc] at k_r
  have bb : Below w.heap.size w _ := ((((Below.refl _ _).alloc (Nat.le_refl _) (.cells #[.int .i64 k, .int .i64 n, .string s] 27)).alloc (by simp) (.cells #[.int .i64 (k'), .int .i64 (n'), .string (s')] 27)).alloc (by simp; omega) (.cells #[.int .i64 0, .int .i64 0, .string ⟨#[]⟩] 27))
  generalize (((w.alloc (.cells #[.int .i64 k, .int .i64 n, .string s] 27)).alloc (.cells #[.int .i64 (k'), .int .i64 (n'), .string (s')] 27)).alloc (.cells #[.int .i64 0, .int .i64 0, .string ⟨#[]⟩] 27)) = W0 at *
  refine (H1.out _).mono ?_
  rintro e w1 ⟨rfl, b1⟩
  have k_x := k_x.below b1 k_x.lt
  have k_y := k_y.below b1 k_y.lt
  have k_r := k_r.below b1 k_r.lt
  have bb := bb.trans (b1.mono bb.size)
  have x_x0 : w1.cell? ⟨w.heap.size, 0, none⟩ = some (.int .i64 k) := by rw [k_x.cell]; rfl
  have x_x1 : w1.cell? ⟨w.heap.size, 1, none⟩ = some (.int .i64 n) := by rw [k_x.cell]; rfl
  have x_x2 : w1.cell? ⟨w.heap.size, 2, none⟩ = some (.string s) := by rw [k_x.cell]; rfl
  have l_x := k_x.lt
  have x_y0 : w1.cell? ⟨w.heap.size + 1, 0, none⟩ = some (.int .i64 (k')) := by rw [k_y.cell]; rfl
  have x_y1 : w1.cell? ⟨w.heap.size + 1, 1, none⟩ = some (.int .i64 (n')) := by rw [k_y.cell]; rfl
  have x_y2 : w1.cell? ⟨w.heap.size + 1, 2, none⟩ = some (.string (s')) := by rw [k_y.cell]; rfl
  have l_y := k_y.lt
  have x_r0 : w1.cell? ⟨w.heap.size + 1 + 1, 0, none⟩ = some (.int .i64 0) := by rw [k_r.cell]; rfl
  have x_r1 : w1.cell? ⟨w.heap.size + 1 + 1, 1, none⟩ = some (.int .i64 0) := by rw [k_r.cell]; rfl
  have x_r2 : w1.cell? ⟨w.heap.size + 1 + 1, 2, none⟩ = some (.string ⟨#[]⟩) := by rw [k_r.cell]; rfl
  have l_r := k_r.lt
  have z_r0 := k_r.frozen 0
  have z_r1 := k_r.frozen 1
  have z_r2 := k_r.frozen 2
  go_wp2
  exact bodyPost_ret (v := .tuple #[VS 0 0 ⟨#[]⟩, .int .i64 e1]) (by simp [results, Tryd.results28, go_sem, x_r0, x_r1, x_r2, l_r]) rfl ⟨rfl, ((((bb).setCell (p := ⟨w.heap.size + 1 + 1, 0, none⟩) (by first | exact Nat.le_refl _ | (simp; done) | (simp; omega) | omega) _).setCell (p := ⟨w.heap.size + 1 + 1, 1, none⟩) (by first | exact Nat.le_refl _ | (simp; done) | (simp; omega) | omega) _).setCell (p := ⟨w.heap.size + 1 + 1, 2, none⟩) (by first | exact Nat.le_refl _ | (simp; done) | (simp; omega) | omega) _).alloc (by first | exact bb.size | (simp; exact bb.size) | (have := bb.size; simp; omega)) _⟩
set_option maxHeartbeats 8000000 in
set_option maxRecDepth 100000 in
theorem rb_num_e2 (o : ByteArray) (k n : Int) (s : ByteArray) (k' n' : Int) (s' : ByteArray) (p q p' q' e1 : Int) (w : World) (f0 : (o.toList == [61, 61, 61]) = false) (f1 : (o.toList == [33, 61, 61]) = false) (f2 : (o.toList == [60]) = false) (f3 : (o.toList == [62]) = false) (f4 : (o.toList == [60, 61]) = false) (f5 : (o.toList == [62, 61]) = false) (f6 : (o.toList == [43]) = false) (he : ¬ e1 = 0) (C1 : ∀ W, Calls Tryd.prog 30 #[VS k n s] W (Ret (.tuple #[VN p q, .int .i64 0]) W)) (C2 : ∀ W, Calls Tryd.prog 30 #[VS k' n' s'] W (Ret (.tuple #[VN p' q', .int .i64 e1]) W)) :
    Calls Tryd.prog 28 #[.string o, VS k n s, VS k' n' s'] w (Ret (.tuple #[VS 0 0 ⟨#[]⟩, .int .i64 e1]) w) := by
  have H1 := Lib.hid C1
  have H2 := Lib.hid C2
  clear C1 C2
  have q2 : (e1 != 0) = true := by simpa using he
  have q3 : ¬ e1 = 0 := he
  go_enter Tryd.func28, Tryd.ntmps28
  go_wp2_with fail
  have k_x := ((Blk.new w 27 #[.int .i64 k, .int .i64 n, .string s]).alloc (.cells #[.int .i64 (k'), .int .i64 (n'), .string (s')] 27)).alloc (.cells #[.int .i64 0, .int .i64 0, .string ⟨#[]⟩] 27)
  have k_y := (Blk.new (w.alloc (.cells #[.int .i64 k, .int .i64 n, .string s] 27)) 27 #[.int .i64 (k'), .int .i64 (n'), .string (s')]).alloc (.cells #[.int .i64 0, .int .i64 0, .string ⟨#[]⟩] 27)
  rw [World.size_alloc] at k_y
  have k_r := Blk.new ((w.alloc (.cells #[.int .i64 k, .int .i64 n, .string s] 27)).alloc (.cells #[.int .i64 (k'), .int .i64 (n'), .string (s')] 27)) 27 #[.int .i64 0, .int .i64 0, .string ⟨#[]⟩]
  rw [World.size_alloc, World.size_alloc] at k_r
  have bb : Below w.heap.size w _ := ((((Below.refl _ _).alloc (Nat.le_refl _) (.cells #[.int .i64 k, .int .i64 n, .string s] 27)).alloc (by simp) (.cells #[.int .i64 (k'), .int .i64 (n'), .string (s')] 27)).alloc (by simp; omega) (.cells #[.int .i64 0, .int .i64 0, .string ⟨#[]⟩] 27))
  generalize (((w.alloc (.cells #[.int .i64 k, .int .i64 n, .string s] 27)).alloc (.cells #[.int .i64 (k'), .int .i64 (n'), .string (s')] 27)).alloc (.cells #[.int .i64 0, .int .i64 0, .string ⟨#[]⟩] 27)) = W0 at *
  refine (H1.out _).mono ?_
  rintro e w1 ⟨rfl, b1⟩
  have k_x := k_x.below b1 k_x.lt
  have k_y := k_y.below b1 k_y.lt
  have k_r := k_r.below b1 k_r.lt
  have bb := bb.trans (b1.mono bb.size)
  have x_x0 : w1.cell? ⟨w.heap.size, 0, none⟩ = some (.int .i64 k) := by rw [k_x.cell]; rfl
  have x_x1 : w1.cell? ⟨w.heap.size, 1, none⟩ = some (.int .i64 n) := by rw [k_x.cell]; rfl
  have x_x2 : w1.cell? ⟨w.heap.size, 2, none⟩ = some (.string s) := by rw [k_x.cell]; rfl
  have l_x := k_x.lt
  have x_y0 : w1.cell? ⟨w.heap.size + 1, 0, none⟩ = some (.int .i64 (k')) := by rw [k_y.cell]; rfl
  have x_y1 : w1.cell? ⟨w.heap.size + 1, 1, none⟩ = some (.int .i64 (n')) := by rw [k_y.cell]; rfl
  have x_y2 : w1.cell? ⟨w.heap.size + 1, 2, none⟩ = some (.string (s')) := by rw [k_y.cell]; rfl
  have l_y := k_y.lt
  have x_r0 : w1.cell? ⟨w.heap.size + 1 + 1, 0, none⟩ = some (.int .i64 0) := by rw [k_r.cell]; rfl
  have x_r1 : w1.cell? ⟨w.heap.size + 1 + 1, 1, none⟩ = some (.int .i64 0) := by rw [k_r.cell]; rfl
  have x_r2 : w1.cell? ⟨w.heap.size + 1 + 1, 2, none⟩ = some (.string ⟨#[]⟩) := by rw [k_r.cell]; rfl
  have l_r := k_r.lt
  go_wp2_with fail
  have k_x := k_x.alloc (.cells #[.int .i64 p, .int .i64 q, .string ⟨#[]⟩] 27)
  have k_y := k_y.alloc (.cells #[.int .i64 p, .int .i64 q, .string ⟨#[]⟩] 27)
  have k_r := k_r.alloc (.cells #[.int .i64 p, .int .i64 q, .string ⟨#[]⟩] 27)
  have k_q := Blk.new w1 27 #[.int .i64 p, .int .i64 q, .string ⟨#[]⟩]
  have bb := bb.alloc bb.size (.cells #[.int .i64 p, .int .i64 q, .string ⟨#[]⟩] 27)
  clear x_x0 x_x1 x_x2 l_x x_y0 x_y1 x_y2 l_y x_r0 x_r1 x_r2 l_r
  generalize w1.alloc (.cells #[.int .i64 p, .int .i64 q, .string ⟨#[]⟩] 27) = V1 at *
  have x_x0 : V1.cell? ⟨w.heap.size, 0, none⟩ = some (.int .i64 k) := by rw [k_x.cell]; rfl
  have x_x1 : V1.cell? ⟨w.heap.size, 1, none⟩ = some (.int .i64 n) := by rw [k_x.cell]; rfl
  have x_x2 : V1.cell? ⟨w.heap.size, 2, none⟩ = some (.string s) := by rw [k_x.cell]; rfl
  have l_x := k_x.lt
  have x_y0 : V1.cell? ⟨w.heap.size + 1, 0, none⟩ = some (.int .i64 (k')) := by rw [k_y.cell]; rfl
  have x_y1 : V1.cell? ⟨w.heap.size + 1, 1, none⟩ = some (.int .i64 (n')) := by rw [k_y.cell]; rfl
  have x_y2 : V1.cell? ⟨w.heap.size + 1, 2, none⟩ = some (.string (s')) := by rw [k_y.cell]; rfl
  have l_y := k_y.lt
  have x_r0 : V1.cell? ⟨w.heap.size + 1 + 1, 0, none⟩ = some (.int .i64 0) := by rw [k_r.cell]; rfl
  have x_r1 : V1.cell? ⟨w.heap.size + 1 + 1, 1, none⟩ = some (.int .i64 0) := by rw [k_r.cell]; rfl
  have x_r2 : V1.cell? ⟨w.heap.size + 1 + 1, 2, none⟩ = some (.string ⟨#[]⟩) := by rw [k_r.cell]; rfl
  have l_r := k_r.lt
  have x_q0 : V1.cell? ⟨w1.heap.size, 0, none⟩ = some (.int .i64 p) := by rw [k_q.cell]; rfl
  have x_q1 : V1.cell? ⟨w1.heap.size, 1, none⟩ = some (.int .i64 q) := by rw [k_q.cell]; rfl
  have x_q2 : V1.cell? ⟨w1.heap.size, 2, none⟩ = some (.string ⟨#[]⟩) := by rw [k_q.cell]; rfl
  have l_q := k_q.lt
  refine (H2.out _).mono ?_
  rintro e w2 ⟨rfl, b2⟩
  clear x_x0 x_x1 x_x2 l_x x_y0 x_y1 x_y2 l_y x_r0 x_r1 x_r2 l_r x_q0 x_q1 x_q2 l_q
  have k_x := k_x.below b2 k_x.lt
  have k_y := k_y.below b2 k_y.lt
  have k_r := k_r.below b2 k_r.lt
  have k_q := k_q.below b2 k_q.lt
  have bb := bb.trans (b2.mono bb.size)
  have x_x0 : w2.cell? ⟨w.heap.size, 0, none⟩ = some (.int .i64 k) := by rw [k_x.cell]; rfl
  have x_x1 : w2.cell? ⟨w.heap.size, 1, none⟩ = some (.int .i64 n) := by rw [k_x.cell]; rfl
  have x_x2 : w2.cell? ⟨w.heap.size, 2, none⟩ = some (.string s) := by rw [k_x.cell]; rfl
  have l_x := k_x.lt
  have x_y0 : w2.cell? ⟨w.heap.size + 1, 0, none⟩ = some (.int .i64 (k')) := by rw [k_y.cell]; rfl
  have x_y1 : w2.cell? ⟨w.heap.size + 1, 1, none⟩ = some (.int .i64 (n')) := by rw [k_y.cell]; rfl
  have x_y2 : w2.cell? ⟨w.heap.size + 1, 2, none⟩ = some (.string (s')) := by rw [k_y.cell]; rfl
  have l_y := k_y.lt
  have x_r0 : w2.cell? ⟨w.heap.size + 1 + 1, 0, none⟩ = some (.int .i64 0) := by rw [k_r.cell]; rfl
  have x_r1 : w2.cell? ⟨w.heap.size + 1 + 1, 1, none⟩ = some (.int .i64 0) := by rw [k_r.cell]; rfl
  have x_r2 : w2.cell? ⟨w.heap.size + 1 + 1, 2, none⟩ = some (.string ⟨#[]⟩) := by rw [k_r.cell]; rfl
  have l_r := k_r.lt
  have x_q0 : w2.cell? ⟨w1.heap.size, 0, none⟩ = some (.int .i64 p) := by rw [k_q.cell]; rfl
  have x_q1 : w2.cell? ⟨w1.heap.size, 1, none⟩ = some (.int .i64 q) := by rw [k_q.cell]; rfl
  have x_q2 : w2.cell? ⟨w1.heap.size, 2, none⟩ = some (.string ⟨#[]⟩) := by rw [k_q.cell]; rfl
  have l_q := k_q.lt
  have z_r0 := k_r.frozen 0
  have z_r1 := k_r.frozen 1
  have z_r2 := k_r.frozen 2
  go_wp2
  exact bodyPost_ret (v := .tuple #[VS 0 0 ⟨#[]⟩, .int .i64 e1]) (by simp [results, Tryd.results28, go_sem, x_r0, x_r1, x_r2, l_r]) rfl ⟨rfl, ((((bb).setCell (p := ⟨w.heap.size + 1 + 1, 0, none⟩) (by first | exact Nat.le_refl _ | (simp; done) | (simp; omega) | omega) _).setCell (p := ⟨w.heap.size + 1 + 1, 1, none⟩) (by first | exact Nat.le_refl _ | (simp; done) | (simp; omega) | omega) _).setCell (p := ⟨w.heap.size + 1 + 1, 2, none⟩) (by first | exact Nat.le_refl _ | (simp; done) | (simp; omega) | omega) _).alloc (by first | exact bb.size | (simp; exact bb.size) | (have := bb.size; simp; omega)) _⟩
set_option maxHeartbeats 8000000 in
set_option maxRecDepth 100000 in
theorem rb_plus_e1 (o : ByteArray) (k n : Int) (s : ByteArray) (k' n' : Int) (s' : ByteArray) (p q e1 : Int) (w : World) (f0 : (o.toList == [61, 61, 61]) = false) (f1 : (o.toList == [33, 61, 61]) = false) (f2 : (o.toList == [60]) = false) (f3 : (o.toList == [62]) = false) (f4 : (o.toList == [60, 61]) = false) (f5 : (o.toList == [62, 61]) = false) (fp : (o.toList == [43]) = true) (fk : (k == 7) = false) (fk' : (k' == 7) = false) (he : ¬ e1 = 0) (C1 : ∀ W, Calls Tryd.prog 30 #[VS k n s] W (Ret (.tuple #[VN p q, .int .i64 e1]) W)) :
    Calls Tryd.prog 28 #[.string o, VS k n s, VS k' n' s'] w (Ret (.tuple #[VS 0 0 ⟨#[]⟩, .int .i64 e1]) w) := by
  have H1 := Lib.hid C1
  clear C1
  have q2 : (e1 != 0) = true := by simpa using he
  have q3 : ¬ e1 = 0 := he
  go_enter Tryd.func28, Tryd.ntmps28
  go_wp2_with fail
  have k_x := ((Blk.new w 27 #[.int .i64 k, .int .i64 n, .string s]).alloc (.cells #[.int .i64 (k'), .int .i64 (n'), .string (s')] 27)).alloc (.cells #[.int .i64 0, .int .i64 0, .string ⟨#[]⟩] 27)
  have k_y := (Blk.new (w.alloc (.cells #[.int .i64 k, .int .i64 n, .string s] 27)) 27 #[.int .i64 (k'), .int .i64 (n'), .string (s')]).alloc (.cells #[.int .i64 0, .int .i64 0, .string ⟨#[]⟩] 27)
  rw [World.size_alloc] at k_y
  have k_r := Blk.new ((w.alloc (.cells #[.int .i64 k, .int .i64 n, .string s] 27)).alloc (.cells #[.int .i64 (k'), .int .i64 (n'), .string (s')] 27)) 27 #[.int .i64 0, .int .i64 0, .string ⟨#[]⟩]
  rw [World.size_alloc, World.size_alloc] at k_r
  have bb : Below w.heap.size w _ := ((((Below.refl _ _).alloc (Nat.le_refl _) (.cells #[.int .i64 k, .int .i64 n, .string s] 27)).alloc (by simp) (.cells #[.int .i64 (k'), .int .i64 (n'), .string (s')] 27)).alloc (by simp; omega) (.cells #[.int .i64 0, .int .i64 0, .string ⟨#[]⟩] 27))
  generalize (((w.alloc (.cells #[.int .i64 k, .int .i64 n, .string s] 27)).alloc (.cells #[.int .i64 (k'), .int .i64 (n'), .string (s')] 27)).alloc (.cells #[.int .i64 0, .int .i64 0, .string ⟨#[]⟩] 27)) = W0 at *
  refine (H1.out _).mono ?_
  rintro e w1 ⟨rfl, b1⟩
  have k_x := k_x.below b1 k_x.lt
  have k_y := k_y.below b1 k_y.lt
  have k_r := k_r.below b1 k_r.lt
  have bb := bb.trans (b1.mono bb.size)
  have x_x0 : w1.cell? ⟨w.heap.size, 0, none⟩ = some (.int .i64 k) := by rw [k_x.cell]; rfl
  have x_x1 : w1.cell? ⟨w.heap.size, 1, none⟩ = some (.int .i64 n) := by rw [k_x.cell]; rfl
  have x_x2 : w1.cell? ⟨w.heap.size, 2, none⟩ = some (.string s) := by rw [k_x.cell]; rfl
  have l_x := k_x.lt
  have x_y0 : w1.cell? ⟨w.heap.size + 1, 0, none⟩ = some (.int .i64 (k')) := by rw [k_y.cell]; rfl
  have x_y1 : w1.cell? ⟨w.heap.size + 1, 1, none⟩ = some (.int .i64 (n')) := by rw [k_y.cell]; rfl
  have x_y2 : w1.cell? ⟨w.heap.size + 1, 2, none⟩ = some (.string (s')) := by rw [k_y.cell]; rfl
  have l_y := k_y.lt
  have x_r0 : w1.cell? ⟨w.heap.size + 1 + 1, 0, none⟩ = some (.int .i64 0) := by rw [k_r.cell]; rfl
  have x_r1 : w1.cell? ⟨w.heap.size + 1 + 1, 1, none⟩ = some (.int .i64 0) := by rw [k_r.cell]; rfl
  have x_r2 : w1.cell? ⟨w.heap.size + 1 + 1, 2, none⟩ = some (.string ⟨#[]⟩) := by rw [k_r.cell]; rfl
  have l_r := k_r.lt
  have z_r0 := k_r.frozen 0
  have z_r1 := k_r.frozen 1
  have z_r2 := k_r.frozen 2
  go_wp2
  exact bodyPost_ret (v := .tuple #[VS 0 0 ⟨#[]⟩, .int .i64 e1]) (by simp [results, Tryd.results28, go_sem, x_r0, x_r1, x_r2, l_r]) rfl ⟨rfl, ((((bb).setCell (p := ⟨w.heap.size + 1 + 1, 0, none⟩) (by first | exact Nat.le_refl _ | (simp; done) | (simp; omega) | omega) _).setCell (p := ⟨w.heap.size + 1 + 1, 1, none⟩) (by first | exact Nat.le_refl _ | (simp; done) | (simp; omega) | omega) _).setCell (p := ⟨w.heap.size + 1 + 1, 2, none⟩) (by first | exact Nat.le_refl _ | (simp; done) | (simp; omega) | omega) _).alloc (by first | exact bb.size | (simp; exact bb.size) | (have := bb.size; simp; omega)) _⟩
set_option maxHeartbeats 8000000 in
set_option maxRecDepth 100000 in
theorem rb_plus_e2 (o : ByteArray) (k n : Int) (s : ByteArray) (k' n' : Int) (s' : ByteArray) (p q p' q' e1 : Int) (w : World) (f0 : (o.toList == [61, 61, 61]) = false) (f1 : (o.toList == [33, 61, 61]) = false) (f2 : (o.toList == [60]) = false) (f3 : (o.toList == [62]) = false) (f4 : (o.toList == [60, 61]) = false) (f5 : (o.toList == [62, 61]) = false) (fp : (o.toList == [43]) = true) (fk : (k == 7) = false) (fk' : (k' == 7) = false) (he : ¬ e1 = 0) (C1 : ∀ W, Calls Tryd.prog 30 #[VS k n s] W (Ret (.tuple #[VN p q, .int .i64 0]) W)) (C2 : ∀ W, Calls Tryd.prog 30 #[VS k' n' s'] W (Ret (.tuple #[VN p' q', .int .i64 e1]) W)) :
    Calls Tryd.prog 28 #[.string o, VS k n s, VS k' n' s'] w (Ret (.tuple #[VS 0 0 ⟨#[]⟩, .int .i64 e1]) w) := by
  have H1 := Lib.hid C1
  have H2 := Lib.hid C2
  clear C1 C2
  have q2 : (e1 != 0) = true := by simpa using he
  have q3 : ¬ e1 = 0 := he
  go_enter Tryd.func28, Tryd.ntmps28
  go_wp2_with fail
  have k_x := ((Blk.new w 27 #[.int .i64 k, .int .i64 n, .string s]).alloc (.cells #[.int .i64 (k'), .int .i64 (n'), .string (s')] 27)).alloc (.cells #[.int .i64 0, .int .i64 0, .string ⟨#[]⟩] 27)
  have k_y := (Blk.new (w.alloc (.cells #[.int .i64 k, .int .i64 n, .string s] 27)) 27 #[.int .i64 (k'), .int .i64 (n'), .string (s')]).alloc (.cells #[.int .i64 0, .int .i64 0, .string ⟨#[]⟩] 27)
  rw [World.size_alloc] at k_y
  have k_r := Blk.new ((w.alloc (.cells #[.int .i64 k, .int .i64 n, .string s] 27)).alloc (.cells #[.int .i64 (k'), .int .i64 (n'), .string (s')] 27)) 27 #[.int .i64 0, .int .i64 0, .string ⟨#[]⟩]
  rw [World.size_alloc, World.size_alloc] at k_r
  have bb : Below w.heap.size w _ := ((((Below.refl _ _).alloc (Nat.le_refl _) (.cells #[.int .i64 k, .int .i64 n, .string s] 27)).alloc (by simp) (.cells #[.int .i64 (k'), .int .i64 (n'), .string (s')] 27)).alloc (by simp; omega) (.cells #[.int .i64 0, .int .i64 0, .string ⟨#[]⟩] 27))
  generalize (((w.alloc (.cells #[.int .i64 k, .int .i64 n, .string s] 27)).alloc (.cells #[.int .i64 (k'), .int .i64 (n'), .string (s')] 27)).alloc (.cells #[.int .i64 0, .int .i64 0, .string ⟨#[]⟩] 27)) = W0 at *
  refine (H1.out _).mono ?_
  rintro e w1 ⟨rfl, b1⟩
  have k_x := k_x.below b1 k_x.lt
  have k_y := k_y.below b1 k_y.lt
  have k_r := k_r.below b1 k_r.lt
  have bb := bb.trans (b1.mono bb.size)
  have x_x0 : w1.cell? ⟨w.heap.size, 0, none⟩ = some (.int .i64 k) := by rw [k_x.cell]; rfl
  have x_x1 : w1.cell? ⟨w.heap.size, 1, none⟩ = some (.int .i64 n) := by rw [k_x.cell]; rfl
  have x_x2 : w1.cell? ⟨w.heap.size, 2, none⟩ = some (.string s) := by rw [k_x.cell]; rfl
  have l_x := k_x.lt
  have x_y0 : w1.cell? ⟨w.heap.size + 1, 0, none⟩ = some (.int .i64 (k')) := by rw [k_y.cell]; rfl
  have x_y1 : w1.cell? ⟨w.heap.size + 1, 1, none⟩ = some (.int .i64 (n')) := by rw [k_y.cell]; rfl
  have x_y2 : w1.cell? ⟨w.heap.size + 1, 2, none⟩ = some (.string (s')) := by rw [k_y.cell]; rfl
  have l_y := k_y.lt
  have x_r0 : w1.cell? ⟨w.heap.size + 1 + 1, 0, none⟩ = some (.int .i64 0) := by rw [k_r.cell]; rfl
  have x_r1 : w1.cell? ⟨w.heap.size + 1 + 1, 1, none⟩ = some (.int .i64 0) := by rw [k_r.cell]; rfl
  have x_r2 : w1.cell? ⟨w.heap.size + 1 + 1, 2, none⟩ = some (.string ⟨#[]⟩) := by rw [k_r.cell]; rfl
  have l_r := k_r.lt
  go_wp2_with fail
  have k_x := k_x.alloc (.cells #[.int .i64 p, .int .i64 q, .string ⟨#[]⟩] 27)
  have k_y := k_y.alloc (.cells #[.int .i64 p, .int .i64 q, .string ⟨#[]⟩] 27)
  have k_r := k_r.alloc (.cells #[.int .i64 p, .int .i64 q, .string ⟨#[]⟩] 27)
  have k_q := Blk.new w1 27 #[.int .i64 p, .int .i64 q, .string ⟨#[]⟩]
  have bb := bb.alloc bb.size (.cells #[.int .i64 p, .int .i64 q, .string ⟨#[]⟩] 27)
  clear x_x0 x_x1 x_x2 l_x x_y0 x_y1 x_y2 l_y x_r0 x_r1 x_r2 l_r
  generalize w1.alloc (.cells #[.int .i64 p, .int .i64 q, .string ⟨#[]⟩] 27) = V1 at *
  have x_x0 : V1.cell? ⟨w.heap.size, 0, none⟩ = some (.int .i64 k) := by rw [k_x.cell]; rfl
  have x_x1 : V1.cell? ⟨w.heap.size, 1, none⟩ = some (.int .i64 n) := by rw [k_x.cell]; rfl
  have x_x2 : V1.cell? ⟨w.heap.size, 2, none⟩ = some (.string s) := by rw [k_x.cell]; rfl
  have l_x := k_x.lt
  have x_y0 : V1.cell? ⟨w.heap.size + 1, 0, none⟩ = some (.int .i64 (k')) := by rw [k_y.cell]; rfl
  have x_y1 : V1.cell? ⟨w.heap.size + 1, 1, none⟩ = some (.int .i64 (n')) := by rw [k_y.cell]; rfl
  have x_y2 : V1.cell? ⟨w.heap.size + 1, 2, none⟩ = some (.string (s')) := by rw [k_y.cell]; rfl
  have l_y := k_y.lt
  have x_r0 : V1.cell? ⟨w.heap.size + 1 + 1, 0, none⟩ = some (.int .i64 0) := by rw [k_r.cell]; rfl
  have x_r1 : V1.cell? ⟨w.heap.size + 1 + 1, 1, none⟩ = some (.int .i64 0) := by rw [k_r.cell]; rfl
  have x_r2 : V1.cell? ⟨w.heap.size + 1 + 1, 2, none⟩ = some (.string ⟨#[]⟩) := by rw [k_r.cell]; rfl
  have l_r := k_r.lt
  have x_q0 : V1.cell? ⟨w1.heap.size, 0, none⟩ = some (.int .i64 p) := by rw [k_q.cell]; rfl
  have x_q1 : V1.cell? ⟨w1.heap.size, 1, none⟩ = some (.int .i64 q) := by rw [k_q.cell]; rfl
  have x_q2 : V1.cell? ⟨w1.heap.size, 2, none⟩ = some (.string ⟨#[]⟩) := by rw [k_q.cell]; rfl
  have l_q := k_q.lt
  refine (H2.out _).mono ?_
  rintro e w2 ⟨rfl, b2⟩
  clear x_x0 x_x1 x_x2 l_x x_y0 x_y1 x_y2 l_y x_r0 x_r1 x_r2 l_r x_q0 x_q1 x_q2 l_q
  have k_x := k_x.below b2 k_x.lt
  have k_y := k_y.below b2 k_y.lt
  have k_r := k_r.below b2 k_r.lt
  have k_q := k_q.below b2 k_q.lt
  have bb := bb.trans (b2.mono bb.size)
  have x_x0 : w2.cell? ⟨w.heap.size, 0, none⟩ = some (.int .i64 k) := by rw [k_x.cell]; rfl
  have x_x1 : w2.cell? ⟨w.heap.size, 1, none⟩ = some (.int .i64 n) := by rw [k_x.cell]; rfl
  have x_x2 : w2.cell? ⟨w.heap.size, 2, none⟩ = some (.string s) := by rw [k_x.cell]; rfl
  have l_x := k_x.lt
  have x_y0 : w2.cell? ⟨w.heap.size + 1, 0, none⟩ = some (.int .i64 (k')) := by rw [k_y.cell]; rfl
  have x_y1 : w2.cell? ⟨w.heap.size + 1, 1, none⟩ = some (.int .i64 (n')) := by rw [k_y.cell]; rfl
  have x_y2 : w2.cell? ⟨w.heap.size + 1, 2, none⟩ = some (.string (s')) := by rw [k_y.cell]; rfl
  have l_y := k_y.lt
  have x_r0 : w2.cell? ⟨w.heap.size + 1 + 1, 0, none⟩ = some (.int .i64 0) := by rw [k_r.cell]; rfl
  have x_r1 : w2.cell? ⟨w.heap.size + 1 + 1, 1, none⟩ = some (.int .i64 0) := by rw [k_r.cell]; rfl
  have x_r2 : w2.cell? ⟨w.heap.size + 1 + 1, 2, none⟩ = some (.string ⟨#[]⟩) := by rw [k_r.cell]; rfl
  have l_r := k_r.lt
  have x_q0 : w2.cell? ⟨w1.heap.size, 0, none⟩ = some (.int .i64 p) := by rw [k_q.cell]; rfl
  have x_q1 : w2.cell? ⟨w1.heap.size, 1, none⟩ = some (.int .i64 q) := by rw [k_q.cell]; rfl
  have x_q2 : w2.cell? ⟨w1.heap.size, 2, none⟩ = some (.string ⟨#[]⟩) := by rw [k_q.cell]; rfl
  have l_q := k_q.lt
  have z_r0 := k_r.frozen 0
  have z_r1 := k_r.frozen 1
  have z_r2 := k_r.frozen 2
  go_wp2
  exact bodyPost_ret (v := .tuple #[VS 0 0 ⟨#[]⟩, .int .i64 e1]) (by simp [results, Tryd.results28, go_sem, x_r0, x_r1, x_r2, l_r]) rfl ⟨rfl, ((((bb).setCell (p := ⟨w.heap.size + 1 + 1, 0, none⟩) (by first | exact Nat.le_refl _ | (simp; done) | (simp; omega) | omega) _).setCell (p := ⟨w.heap.size + 1 + 1, 1, none⟩) (by first | exact Nat.le_refl _ | (simp; done) | (simp; omega) | omega) _).setCell (p := ⟨w.heap.size + 1 + 1, 2, none⟩) (by first | exact Nat.le_refl _ | (simp; done) | (simp; omega) | omega) _).alloc (by first | exact bb.size | (simp; exact bb.size) | (have := bb.size; simp; omega)) _⟩
set_option maxHeartbeats 8000000 in
set_option maxRecDepth 100000 in
theorem rb_lt_e1 (k n : Int) (s : ByteArray) (k' n' : Int) (s' : ByteArray) (p q e1 : Int) (w : World) (fk : (k == 7) = false) (he : ¬ e1 = 0) (C1 : ∀ W, Calls Tryd.prog 30 #[VS k n s] W (Ret (.tuple #[VN p q, .int .i64 e1]) W)) :
    Calls Tryd.prog 28 #[.string ⟨#[60]⟩, VS k n s, VS k' n' s'] w (Ret (.tuple #[VS 0 0 ⟨#[]⟩, .int .i64 e1]) w) := by
  have H1 := Lib.hid C1
  clear C1
  have q2 : (e1 != 0) = true := by simpa using he
  have q3 : ¬ e1 = 0 := he
  go_enter Tryd.func28, Tryd.ntmps28
  go_wp2_with fail
  have k_x := ((Blk.new w 27 #[.int .i64 k, .int .i64 n, .string s]).alloc (.cells #[.int .i64 (k'), .int .i64 (n'), .string (s')] 27)).alloc (.cells #[.int .i64 0, .int .i64 0, .string ⟨#[]⟩] 27)
  have k_y := (Blk.new (w.alloc (.cells #[.int .i64 k, .int .i64 n, .string s] 27)) 27 #[.int .i64 (k'), .int .i64 (n'), .string (s')]).alloc (.cells #[.int .i64 0, .int .i64 0, .string ⟨#[]⟩] 27)
  rw [World.size_alloc] at k_y
  have k_r := Blk.new ((w.alloc (.cells #[.int .i64 k, .int .i64 n, .string s] 27)).alloc (.cells #[.int .i64 (k'), .int .i64 (n'), .string (s')] 27)) 27 #[.int .i64 0, .int .i64 0, .string ⟨#[]⟩]
  rw [World.size_alloc, World.size_alloc] at k_r
  have bb : Below w.heap.size w _ := ((((Below.refl _ _).alloc (Nat.le_refl _) (.cells #[.int .i64 k, .int .i64 n, .string s] 27)).alloc (by simp) (.cells #[.int .i64 (k'), .int .i64 (n'), .string (s')] 27)).alloc (by simp; omega) (.cells #[.int .i64 0, .int .i64 0, .string ⟨#[]⟩] 27))
  generalize (((w.alloc (.cells #[.int .i64 k, .int .i64 n, .string s] 27)).alloc (.cells #[.int .i64 (k'), .int .i64 (n'), .string (s')] 27)).alloc (.cells #[.int .i64 0, .int .i64 0, .string ⟨#[]⟩] 27)) = W0 at *
  refine (H1.out _).mono ?_
  rintro e w1 ⟨rfl, b1⟩
  have k_x := k_x.below b1 k_x.lt
  have k_y := k_y.below b1 k_y.lt
  have k_r := k_r.below b1 k_r.lt
  have bb := bb.trans (b1.mono bb.size)
  have x_x0 : w1.cell? ⟨w.heap.size, 0, none⟩ = some (.int .i64 k) := by rw [k_x.cell]; rfl
  have x_x1 : w1.cell? ⟨w.heap.size, 1, none⟩ = some (.int .i64 n) := by rw [k_x.cell]; rfl
  have x_x2 : w1.cell? ⟨w.heap.size, 2, none⟩ = some (.string s) := by rw [k_x.cell]; rfl
  have l_x := k_x.lt
  have x_y0 : w1.cell? ⟨w.heap.size + 1, 0, none⟩ = some (.int .i64 (k')) := by rw [k_y.cell]; rfl
  have x_y1 : w1.cell? ⟨w.heap.size + 1, 1, none⟩ = some (.int .i64 (n')) := by rw [k_y.cell]; rfl
  have x_y2 : w1.cell? ⟨w.heap.size + 1, 2, none⟩ = some (.string (s')) := by rw [k_y.cell]; rfl
  have l_y := k_y.lt
  have x_r0 : w1.cell? ⟨w.heap.size + 1 + 1, 0, none⟩ = some (.int .i64 0) := by rw [k_r.cell]; rfl
  have x_r1 : w1.cell? ⟨w.heap.size + 1 + 1, 1, none⟩ = some (.int .i64 0) := by rw [k_r.cell]; rfl
  have x_r2 : w1.cell? ⟨w.heap.size + 1 + 1, 2, none⟩ = some (.string ⟨#[]⟩) := by rw [k_r.cell]; rfl
  have l_r := k_r.lt
  have z_r0 := k_r.frozen 0
  have z_r1 := k_r.frozen 1
  have z_r2 := k_r.frozen 2
  go_wp2
  exact bodyPost_ret (v := .tuple #[VS 0 0 ⟨#[]⟩, .int .i64 e1]) (by simp [results, Tryd.results28, go_sem, x_r0, x_r1, x_r2, l_r]) rfl ⟨rfl, ((((bb).setCell (p := ⟨w.heap.size + 1 + 1, 0, none⟩) (by first | exact Nat.le_refl _ | (simp; done) | (simp; omega) | omega) _).setCell (p := ⟨w.heap.size + 1 + 1, 1, none⟩) (by first | exact Nat.le_refl _ | (simp; done) | (simp; omega) | omega) _).setCell (p := ⟨w.heap.size + 1 + 1, 2, none⟩) (by first | exact Nat.le_refl _ | (simp; done) | (simp; omega) | omega) _).alloc (by first | exact bb.size | (simp; exact bb.size) | (have := bb.size; simp; omega)) _⟩
set_option maxHeartbeats 8000000 in
set_option maxRecDepth 100000 in
theorem rb_lt_e2 (k n : Int) (s : ByteArray) (k' n' : Int) (s' : ByteArray) (p q p' q' e1 : Int) (w : World) (fk : (k == 7) = false) (he : ¬ e1 = 0) (C1 : ∀ W, Calls Tryd.prog 30 #[VS k n s] W (Ret (.tuple #[VN p q, .int .i64 0]) W)) (C2 : ∀ W, Calls Tryd.prog 30 #[VS k' n' s'] W (Ret (.tuple #[VN p' q', .int .i64 e1]) W)) :
    Calls Tryd.prog 28 #[.string ⟨#[60]⟩, VS k n s, VS k' n' s'] w (Ret (.tuple #[VS 0 0 ⟨#[]⟩, .int .i64 e1]) w) := by
  have H1 := Lib.hid C1
  have H2 := Lib.hid C2
  clear C1 C2
  have q2 : (e1 != 0) = true := by simpa using he
  have q3 : ¬ e1 = 0 := he
  go_enter Tryd.func28, Tryd.ntmps28
  go_wp2_with fail
  have k_x := ((Blk.new w 27 #[.int .i64 k, .int .i64 n, .string s]).alloc (.cells #[.int .i64 (k'), .int .i64 (n'), .string (s')] 27)).alloc (.cells #[.int .i64 0, .int .i64 0, .string ⟨#[]⟩] 27)
  have k_y := (Blk.new (w.alloc (.cells #[.int .i64 k, .int .i64 n, .string s] 27)) 27 #[.int .i64 (k'), .int .i64 (n'), .string (s')]).alloc (.cells #[.int .i64 0, .int .i64 0, .string ⟨#[]⟩] 27)
  rw [World.size_alloc] at k_y
  have k_r := Blk.new ((w.alloc (.cells #[.int .i64 k, .int .i64 n, .string s] 27)).alloc (.cells #[.int .i64 (k'), .int .i64 (n'), .string (s')] 27)) 27 #[.int .i64 0, .int .i64 0, .string ⟨#[]⟩]
  rw [World.size_alloc, World.size_alloc] at k_r
  have bb : Below w.heap.size w _ := ((((Below.refl _ _).alloc (Nat.le_refl _) (.cells #[.int .i64 k, .int .i64 n, .string s] 27)).alloc (by simp) (.cells #[.int .i64 (k'), .int .i64 (n'), .string (s')] 27)).alloc (by simp; omega) (.cells #[.int .i64 0, .int .i64 0, .string ⟨#[]⟩] 27))
  generalize (((w.alloc (.cells #[.int .i64 k, .int .i64 n, .string s] 27)).alloc (.cells #[.int .i64 (k'), .int .i64 (n'), .string (s')] 27)).alloc (.cells #[.int .i64 0, .int .i64 0, .string ⟨#[]⟩] 27)) = W0 at *
  refine (H1.out _).mono ?_
  rintro e w1 ⟨rfl, b1⟩
  have k_x := k_x.below b1 k_x.lt
  have k_y := k_y.below b1 k_y.lt
  have k_r := k_r.below b1 k_r.lt
  have bb := bb.trans (b1.mono bb.size)
  have x_x0 : w1.cell? ⟨w.heap.size, 0, none⟩ = some (.int .i64 k) := by rw [k_x.cell]; rfl
  have x_x1 : w1.cell? ⟨w.heap.size, 1, none⟩ = some (.int .i64 n) := by rw [k_x.cell]; rfl
  have x_x2 : w1.cell? ⟨w.heap.size, 2, none⟩ = some (.string s) := by rw [k_x.cell]; rfl
  have l_x := k_x.lt
  have x_y0 : w1.cell? ⟨w.heap.size + 1, 0, none⟩ = some (.int .i64 (k')) := by rw [k_y.cell]; rfl
  have x_y1 : w1.cell? ⟨w.heap.size + 1, 1, none⟩ = some (.int .i64 (n')) := by rw [k_y.cell]; rfl
  have x_y2 : w1.cell? ⟨w.heap.size + 1, 2, none⟩ = some (.string (s')) := by rw [k_y.cell]; rfl
  have l_y := k_y.lt
  have x_r0 : w1.cell? ⟨w.heap.size + 1 + 1, 0, none⟩ = some (.int .i64 0) := by rw [k_r.cell]; rfl
  have x_r1 : w1.cell? ⟨w.heap.size + 1 + 1, 1, none⟩ = some (.int .i64 0) := by rw [k_r.cell]; rfl
  have x_r2 : w1.cell? ⟨w.heap.size + 1 + 1, 2, none⟩ = some (.string ⟨#[]⟩) := by rw [k_r.cell]; rfl
  have l_r := k_r.lt
  go_wp2_with fail
  have k_x := k_x.alloc (.cells #[.int .i64 p, .int .i64 q, .string ⟨#[]⟩] 27)
  have k_y := k_y.alloc (.cells #[.int .i64 p, .int .i64 q, .string ⟨#[]⟩] 27)
  have k_r := k_r.alloc (.cells #[.int .i64 p, .int .i64 q, .string ⟨#[]⟩] 27)
  have k_q := Blk.new w1 27 #[.int .i64 p, .int .i64 q, .string ⟨#[]⟩]
  have bb := bb.alloc bb.size (.cells #[.int .i64 p, .int .i64 q, .string ⟨#[]⟩] 27)
  clear x_x0 x_x1 x_x2 l_x x_y0 x_y1 x_y2 l_y x_r0 x_r1 x_r2 l_r
  generalize w1.alloc (.cells #[.int .i64 p, .int .i64 q, .string ⟨#[]⟩] 27) = V1 at *
  have x_x0 : V1.cell? ⟨w.heap.size, 0, none⟩ = some (.int .i64 k) := by rw [k_x.cell]; rfl
  have x_x1 : V1.cell? ⟨w.heap.size, 1, none⟩ = some (.int .i64 n) := by rw [k_x.cell]; rfl
  have x_x2 : V1.cell? ⟨w.heap.size, 2, none⟩ = some (.string s) := by rw [k_x.cell]; rfl
  have l_x := k_x.lt
  have x_y0 : V1.cell? ⟨w.heap.size + 1, 0, none⟩ = some (.int .i64 (k')) := by rw [k_y.cell]; rfl
  have x_y1 : V1.cell? ⟨w.heap.size + 1, 1, none⟩ = some (.int .i64 (n')) := by rw [k_y.cell]; rfl
  have x_y2 : V1.cell? ⟨w.heap.size + 1, 2, none⟩ = some (.string (s')) := by rw [k_y.cell]; rfl
  have l_y := k_y.lt
  have x_r0 : V1.cell? ⟨w.heap.size + 1 + 1, 0, none⟩ = some (.int .i64 0) := by rw [k_r.cell]; rfl
  have x_r1 : V1.cell? ⟨w.heap.size + 1 + 1, 1, none⟩ = some (.int .i64 0) := by rw [k_r.cell]; rfl
  have x_r2 : V1.cell? ⟨w.heap.size + 1 + 1, 2, none⟩ = some (.string ⟨#[]⟩) := by rw [k_r.cell]; rfl
  have l_r := k_r.lt
  have x_q0 : V1.cell? ⟨w1.heap.size, 0, none⟩ = some (.int .i64 p) := by rw [k_q.cell]; rfl
  have x_q1 : V1.cell? ⟨w1.heap.size, 1, none⟩ = some (.int .i64 q) := by rw [k_q.cell]; rfl
  have x_q2 : V1.cell? ⟨w1.heap.size, 2, none⟩ = some (.string ⟨#[]⟩) := by rw [k_q.cell]; rfl
  have l_q := k_q.lt
  refine (H2.out _).mono ?_
  rintro e w2 ⟨rfl, b2⟩
  clear x_x0 x_x1 x_x2 l_x x_y0 x_y1 x_y2 l_y x_r0 x_r1 x_r2 l_r x_q0 x_q1 x_q2 l_q
  have k_x := k_x.below b2 k_x.lt
  have k_y := k_y.below b2 k_y.lt
  have k_r := k_r.below b2 k_r.lt
  have k_q := k_q.below b2 k_q.lt
  have bb := bb.trans (b2.mono bb.size)
  have x_x0 : w2.cell? ⟨w.heap.size, 0, none⟩ = some (.int .i64 k) := by rw [k_x.cell]; rfl
  have x_x1 : w2.cell? ⟨w.heap.size, 1, none⟩ = some (.int .i64 n) := by rw [k_x.cell]; rfl
  have x_x2 : w2.cell? ⟨w.heap.size, 2, none⟩ = some (.string s) := by rw [k_x.cell]; rfl
  have l_x := k_x.lt
  have x_y0 : w2.cell? ⟨w.heap.size + 1, 0, none⟩ = some (.int .i64 (k')) := by rw [k_y.cell]; rfl
  have x_y1 : w2.cell? ⟨w.heap.size + 1, 1, none⟩ = some (.int .i64 (n')) := by rw [k_y.cell]; rfl
  have x_y2 : w2.cell? ⟨w.heap.size + 1, 2, none⟩ = some (.string (s')) := by rw [k_y.cell]; rfl
  have l_y := k_y.lt
  have x_r0 : w2.cell? ⟨w.heap.size + 1 + 1, 0, none⟩ = some (.int .i64 0) := by rw [k_r.cell]; rfl
  have x_r1 : w2.cell? ⟨w.heap.size + 1 + 1, 1, none⟩ = some (.int .i64 0) := by rw [k_r.cell]; rfl
  have x_r2 : w2.cell? ⟨w.heap.size + 1 + 1, 2, none⟩ = some (.string ⟨#[]⟩) := by rw [k_r.cell]; rfl
  have l_r := k_r.lt
  have x_q0 : w2.cell? ⟨w1.heap.size, 0, none⟩ = some (.int .i64 p) := by rw [k_q.cell]; rfl
  have x_q1 : w2.cell? ⟨w1.heap.size, 1, none⟩ = some (.int .i64 q) := by rw [k_q.cell]; rfl
  have x_q2 : w2.cell? ⟨w1.heap.size, 2, none⟩ = some (.string ⟨#[]⟩) := by rw [k_q.cell]; rfl
  have l_q := k_q.lt
  have z_r0 := k_r.frozen 0
  have z_r1 := k_r.frozen 1
  have z_r2 := k_r.frozen 2
  go_wp2
  exact bodyPost_ret (v := .tuple #[VS 0 0 ⟨#[]⟩, .int .i64 e1]) (by simp [results, Tryd.results28, go_sem, x_r0, x_r1, x_r2, l_r]) rfl ⟨rfl, ((((bb).setCell (p := ⟨w.heap.size + 1 + 1, 0, none⟩) (by first | exact Nat.le_refl _ | (simp; done) | (simp; omega) | omega) _).setCell (p := ⟨w.heap.size + 1 + 1, 1, none⟩) (by first | exact Nat.le_refl _ | (simp; done) | (simp; omega) | omega) _).setCell (p := ⟨w.heap.size + 1 + 1, 2, none⟩) (by first | exact Nat.le_refl _ | (simp; done) | (simp; omega) | omega) _).alloc (by first | exact bb.size | (simp; exact bb.size) | (have := bb.size; simp; omega)) _⟩
set_option maxHeartbeats 8000000 in
set_option maxRecDepth 100000 in
theorem rb_lt_s_e1 (k n : Int) (s : ByteArray) (k' n' : Int) (s' : ByteArray) (p q e1 : Int) (w : World) (fk : (k == 7) = true) (fk' : (k' == 7) = false) (he : ¬ e1 = 0) (C1 : ∀ W, Calls Tryd.prog 30 #[VS k n s] W (Ret (.tuple #[VN p q, .int .i64 e1]) W)) :
    Calls Tryd.prog 28 #[.string ⟨#[60]⟩, VS k n s, VS k' n' s'] w (Ret (.tuple #[VS 0 0 ⟨#[]⟩, .int .i64 e1]) w) := by
  have H1 := Lib.hid C1
  clear C1
  have q2 : (e1 != 0) = true := by simpa using he
  have q3 : ¬ e1 = 0 := he
  go_enter Tryd.func28, Tryd.ntmps28
  go_wp2_with fail
  have k_x := ((Blk.new w 27 #[.int .i64 k, .int .i64 n, .string s]).alloc (.cells #[.int .i64 (k'), .int .i64 (n'), .string (s')] 27)).alloc (.cells #[.int .i64 0, .int .i64 0, .string ⟨#[]⟩] 27)
  have k_y := (Blk.new (w.alloc (.cells #[.int .i64 k, .int .i64 n, .string s] 27)) 27 #[.int .i64 (k'), .int .i64 (n'), .string (s')]).alloc (.cells #[.int .i64 0, .int .i64 0, .string ⟨#[]⟩] 27)
  rw [World.size_alloc] at k_y
  have k_r := Blk.new ((w.alloc (.cells #[.int .i64 k, .int .i64 n, .string s] 27)).alloc (.cells #[.int .i64 (k'), .int .i64 (n'), .string (s')] 27)) 27 #[.int .i64 0, .int .i64 0, .string ⟨#[]⟩]
  rw [World.size_alloc, World.size_alloc] at k_r
  have bb : Below w.heap.size w _ := ((((Below.refl _ _).alloc (Nat.le_refl _) (.cells #[.int .i64 k, .int .i64 n, .string s] 27)).alloc (by simp) (.cells #[.int .i64 (k'), .int .i64 (n'), .string (s')] 27)).alloc (by simp; omega) (.cells #[.int .i64 0, .int .i64 0, .string ⟨#[]⟩] 27))
  generalize (((w.alloc (.cells #[.int .i64 k, .int .i64 n, .string s] 27)).alloc (.cells #[.int .i64 (k'), .int .i64 (n'), .string (s')] 27)).alloc (.cells #[.int .i64 0, .int .i64 0, .string ⟨#[]⟩] 27)) = W0 at *
  refine (H1.out _).mono ?_
  rintro e w1 ⟨rfl, b1⟩
  have k_x := k_x.below b1 k_x.lt
  have k_y := k_y.below b1 k_y.lt
  have k_r := k_r.below b1 k_r.lt
  have bb := bb.trans (b1.mono bb.size)
  have x_x0 : w1.cell? ⟨w.heap.size, 0, none⟩ = some (.int .i64 k) := by rw [k_x.cell]; rfl
  have x_x1 : w1.cell? ⟨w.heap.size, 1, none⟩ = some (.int .i64 n) := by rw [k_x.cell]; rfl
  have x_x2 : w1.cell? ⟨w.heap.size, 2, none⟩ = some (.string s) := by rw [k_x.cell]; rfl
  have l_x := k_x.lt
  have x_y0 : w1.cell? ⟨w.heap.size + 1, 0, none⟩ = some (.int .i64 (k')) := by rw [k_y.cell]; rfl
  have x_y1 : w1.cell? ⟨w.heap.size + 1, 1, none⟩ = some (.int .i64 (n')) := by rw [k_y.cell]; rfl
  have x_y2 : w1.cell? ⟨w.heap.size + 1, 2, none⟩ = some (.string (s')) := by rw [k_y.cell]; rfl
  have l_y := k_y.lt
  have x_r0 : w1.cell? ⟨w.heap.size + 1 + 1, 0, none⟩ = some (.int .i64 0) := by rw [k_r.cell]; rfl
  have x_r1 : w1.cell? ⟨w.heap.size + 1 + 1, 1, none⟩ = some (.int .i64 0) := by rw [k_r.cell]; rfl
  have x_r2 : w1.cell? ⟨w.heap.size + 1 + 1, 2, none⟩ = some (.string ⟨#[]⟩) := by rw [k_r.cell]; rfl
  have l_r := k_r.lt
  have z_r0 := k_r.frozen 0
  have z_r1 := k_r.frozen 1
  have z_r2 := k_r.frozen 2
  go_wp2
  exact bodyPost_ret (v := .tuple #[VS 0 0 ⟨#[]⟩, .int .i64 e1]) (by simp [results, Tryd.results28, go_sem, x_r0, x_r1, x_r2, l_r]) rfl ⟨rfl, ((((bb).setCell (p := ⟨w.heap.size + 1 + 1, 0, none⟩) (by first | exact Nat.le_refl _ | (simp; done) | (simp; omega) | omega) _).setCell (p := ⟨w.heap.size + 1 + 1, 1, none⟩) (by first | exact Nat.le_refl _ | (simp; done) | (simp; omega) | omega) _).setCell (p := ⟨w.heap.size + 1 + 1, 2, none⟩) (by first | exact Nat.le_refl _ | (simp; done) | (simp; omega) | omega) _).alloc (by first | exact bb.size | (simp; exact bb.size) | (have := bb.size; simp; omega)) _⟩
set_option maxHeartbeats 8000000 in
set_option maxRecDepth 100000 in
theorem rb_gt_e1 (k n : Int) (s : ByteArray) (k' n' : Int) (s' : ByteArray) (p q e1 : Int) (w : World) (fk : (k == 7) = false) (he : ¬ e1 = 0) (C1 : ∀ W, Calls Tryd.prog 30 #[VS k n s] W (Ret (.tuple #[VN p q, .int .i64 e1]) W)) :
    Calls Tryd.prog 28 #[.string ⟨#[62]⟩, VS k n s, VS k' n' s'] w (Ret (.tuple #[VS 0 0 ⟨#[]⟩, .int .i64 e1]) w) := by
  have H1 := Lib.hid C1
  clear C1
  have q2 : (e1 != 0) = true := by simpa using he
  have q3 : ¬ e1 = 0 := he
  go_enter Tryd.func28, Tryd.ntmps28
  go_wp2_with fail
  have k_x := ((Blk.new w 27 #[.int .i64 k, .int .i64 n, .string s]).alloc (.cells #[.int .i64 (k'), .int .i64 (n'), .string (s')] 27)).alloc (.cells #[.int .i64 0, .int .i64 0, .string ⟨#[]⟩] 27)
  have k_y := (Blk.new (w.alloc (.cells #[.int .i64 k, .int .i64 n, .string s] 27)) 27 #[.int .i64 (k'), .int .i64 (n'), .string (s')]).alloc (.cells #[.int .i64 0, .int .i64 0, .string ⟨#[]⟩] 27)
  rw [World.size_alloc] at k_y
  have k_r := Blk.new ((w.alloc (.cells #[.int .i64 k, .int .i64 n, .string s] 27)).alloc (.cells #[.int .i64 (k'), .int .i64 (n'), .string (s')] 27)) 27 #[.int .i64 0, .int .i64 0, .string ⟨#[]⟩]
  rw [World.size_alloc, World.size_alloc] at k_r
  have bb : Below w.heap.size w _ := ((((Below.refl _ _).alloc (Nat.le_refl _) (.cells #[.int .i64 k, .int .i64 n, .string s] 27)).alloc (by simp) (.cells #[.int .i64 (k'), .int .i64 (n'), .string (s')] 27)).alloc (by simp; omega) (.cells #[.int .i64 0, .int .i64 0, .string ⟨#[]⟩] 27))
  generalize (((w.alloc (.cells #[.int .i64 k, .int .i64 n, .string s] 27)).alloc (.cells #[.int .i64 (k'), .int .i64 (n'), .string (s')] 27)).alloc (.cells #[.int .i64 0, .int .i64 0, .string ⟨#[]⟩] 27)) = W0 at *
  refine (H1.out _).mono ?_
  rintro e w1 ⟨rfl, b1⟩
  have k_x := k_x.below b1 k_x.lt
  have k_y := k_y.below b1 k_y.lt
  have k_r := k_r.below b1 k_r.lt
  have bb := bb.trans (b1.mono bb.size)
  have x_x0 : w1.cell? ⟨w.heap.size, 0, none⟩ = some (.int .i64 k) := by rw [k_x.cell]; rfl
  have x_x1 : w1.cell? ⟨w.heap.size, 1, none⟩ = some (.int .i64 n) := by rw [k_x.cell]; rfl
  have x_x2 : w1.cell? ⟨w.heap.size, 2, none⟩ = some (.string s) := by rw [k_x.cell]; rfl
  have l_x := k_x.lt
  have x_y0 : w1.cell? ⟨w.heap.size + 1, 0, none⟩ = some (.int .i64 (k')) := by rw [k_y.cell]; rfl
  have x_y1 : w1.cell? ⟨w.heap.size + 1, 1, none⟩ = some (.int .i64 (n')) := by rw [k_y.cell]; rfl
  have x_y2 : w1.cell? ⟨w.heap.size + 1, 2, none⟩ = some (.string (s')) := by rw [k_y.cell]; rfl
  have l_y := k_y.lt
  have x_r0 : w1.cell? ⟨w.heap.size + 1 + 1, 0, none⟩ = some (.int .i64 0) := by rw [k_r.cell]; rfl
  have x_r1 : w1.cell? ⟨w.heap.size + 1 + 1, 1, none⟩ = some (.int .i64 0) := by rw [k_r.cell]; rfl
  have x_r2 : w1.cell? ⟨w.heap.size + 1 + 1, 2, none⟩ = some (.string ⟨#[]⟩) := by rw [k_r.cell]; rfl
  have l_r := k_r.lt
  have z_r0 := k_r.frozen 0
  have z_r1 := k_r.frozen 1
  have z_r2 := k_r.frozen 2
  go_wp2
  exact bodyPost_ret (v := .tuple #[VS 0 0 ⟨#[]⟩, .int .i64 e1]) (by simp [results, Tryd.results28, go_sem, x_r0, x_r1, x_r2, l_r]) rfl ⟨rfl, ((((bb).setCell (p := ⟨w.heap.size + 1 + 1, 0, none⟩) (by first | exact Nat.le_refl _ | (simp; done) | (simp; omega) | omega) _).setCell (p := ⟨w.heap.size + 1 + 1, 1, none⟩) (by first | exact Nat.le_refl _ | (simp; done) | (simp; omega) | omega) _).setCell (p := ⟨w.heap.size + 1 + 1, 2, none⟩) (by first | exact Nat.le_refl _ | (simp; done) | (simp; omega) | omega) _).alloc (by first | exact bb.size | (simp; exact bb.size) | (have := bb.size; simp; omega)) _⟩
set_option maxHeartbeats 8000000 in
set_option maxRecDepth 100000 in
theorem rb_gt_e2 (k n : Int) (s : ByteArray) (k' n' : Int) (s' : ByteArray) (p q p' q' e1 : Int) (w : World) (fk : (k == 7) = false) (he : ¬ e1 = 0) (C1 : ∀ W, Calls Tryd.prog 30 #[VS k n s] W (Ret (.tuple #[VN p q, .int .i64 0]) W)) (C2 : ∀ W, Calls Tryd.prog 30 #[VS k' n' s'] W (Ret (.tuple #[VN p' q', .int .i64 e1]) W)) :
    Calls Tryd.prog 28 #[.string ⟨#[62]⟩, VS k n s, VS k' n' s'] w (Ret (.tuple #[VS 0 0 ⟨#[]⟩, .int .i64 e1]) w) := by
  have H1 := Lib.hid C1
  have H2 := Lib.hid C2
  clear C1 C2
  have q2 : (e1 != 0) = true := by simpa using he
  have q3 : ¬ e1 = 0 := he
  go_enter Tryd.func28, Tryd.ntmps28
  go_wp2_with fail
  have k_x := ((Blk.new w 27 #[.int .i64 k, .int .i64 n, .string s]).alloc (.cells #[.int .i64 (k'), .int .i64 (n'), .string (s')] 27)).alloc (.cells #[.int .i64 0, .int .i64 0, .string ⟨#[]⟩] 27)
  have k_y := (Blk.new (w.alloc (.cells #[.int .i64 k, .int .i64 n, .string s] 27)) 27 #[.int .i64 (k'), .int .i64 (n'), .string (s')]).alloc (.cells #[.int .i64 0, .int .i64 0, .string ⟨#[]⟩] 27)
  rw [World.size_alloc] at k_y
  have k_r := Blk.new ((w.alloc (.cells #[.int .i64 k, .int .i64 n, .string s] 27)).alloc (.cells #[.int .i64 (k'), .int .i64 (n'), .string (s')] 27)) 27 #[.int .i64 0, .int .i64 0, .string ⟨#[]⟩]
  rw [World.size_alloc, World.size_alloc] at k_r
  have bb : Below w.heap.size w _ := ((((Below.refl _ _).alloc (Nat.le_refl _) (.cells #[.int .i64 k, .int .i64 n, .string s] 27)).alloc (by simp) (.cells #[.int .i64 (k'), .int .i64 (n'), .string (s')] 27)).alloc (by simp; omega) (.cells #[.int .i64 0, .int .i64 0, .string ⟨#[]⟩] 27))
  generalize (((w.alloc (.cells #[.int .i64 k, .int .i64 n, .string s] 27)).alloc (.cells #[.int .i64 (k'), .int .i64 (n'), .string (s')] 27)).alloc (.cells #[.int .i64 0, .int .i64 0, .string ⟨#[]⟩] 27)) = W0 at *
  refine (H1.out _).mono ?_
  rintro e w1 ⟨rfl, b1⟩
  have k_x := k_x.below b1 k_x.lt
  have k_y := k_y.below b1 k_y.lt
  have k_r := k_r.below b1 k_r.lt
  have bb := bb.trans (b1.mono bb.size)
  have x_x0 : w1.cell? ⟨w.heap.size, 0, none⟩ = some (.int .i64 k) := by rw [k_x.cell]; rfl
  have x_x1 : w1.cell? ⟨w.heap.size, 1, none⟩ = some (.int .i64 n) := by rw [k_x.cell]; rfl
  have x_x2 : w1.cell? ⟨w.heap.size, 2, none⟩ = some (.string s) := by rw [k_x.cell]; rfl
  have l_x := k_x.lt
  have x_y0 : w1.cell? ⟨w.heap.size + 1, 0, none⟩ = some (.int .i64 (k')) := by rw [k_y.cell]; rfl
  have x_y1 : w1.cell? ⟨w.heap.size + 1, 1, none⟩ = some (.int .i64 (n')) := by rw [k_y.cell]; rfl
  have x_y2 : w1.cell? ⟨w.heap.size + 1, 2, none⟩ = some (.string (s')) := by rw [k_y.cell]; rfl
  have l_y := k_y.lt
  have x_r0 : w1.cell? ⟨w.heap.size + 1 + 1, 0, none⟩ = some (.int .i64 0) := by rw [k_r.cell]; rfl
  have x_r1 : w1.cell? ⟨w.heap.size + 1 + 1, 1, none⟩ = some (.int .i64 0) := by rw [k_r.cell]; rfl
  have x_r2 : w1.cell? ⟨w.heap.size + 1 + 1, 2, none⟩ = some (.string ⟨#[]⟩) := by rw [k_r.cell]; rfl
  have l_r := k_r.lt
  go_wp2_with fail
  have k_x := k_x.alloc (.cells #[.int .i64 p, .int .i64 q, .string ⟨#[]⟩] 27)
  have k_y := k_y.alloc (.cells #[.int .i64 p, .int .i64 q, .string ⟨#[]⟩] 27)
  have k_r := k_r.alloc (.cells #[.int .i64 p, .int .i64 q, .string ⟨#[]⟩] 27)
  have k_q := Blk.new w1 27 #[.int .i64 p, .int .i64 q, .string ⟨#[]⟩]
  have bb := bb.alloc bb.size (.cells #[.int .i64 p, .int .i64 q, .string ⟨#[]⟩] 27)
  clear x_x0 x_x1 x_x2 l_x x_y0 x_y1 x_y2 l_y x_r0 x_r1 x_r2 l_r
  generalize w1.alloc (.cells #[.int .i64 p, .int .i64 q, .string ⟨#[]⟩] 27) = V1 at *
  have x_x0 : V1.cell? ⟨w.heap.size, 0, none⟩ = some (.int .i64 k) := by rw [k_x.cell]; rfl
  have x_x1 : V1.cell? ⟨w.heap.size, 1, none⟩ = some (.int .i64 n) := by rw [k_x.cell]; rfl
  have x_x2 : V1.cell? ⟨w.heap.size, 2, none⟩ = some (.string s) := by rw [k_x.cell]; rfl
  have l_x := k_x.lt
  have x_y0 : V1.cell? ⟨w.heap.size + 1, 0, none⟩ = some (.int .i64 (k')) := by rw [k_y.cell]; rfl
  have x_y1 : V1.cell? ⟨w.heap.size + 1, 1, none⟩ = some (.int .i64 (n')) := by rw [k_y.cell]; rfl
  have x_y2 : V1.cell? ⟨w.heap.size + 1, 2, none⟩ = some (.string (s')) := by rw [k_y.cell]; rfl
  have l_y := k_y.lt
  have x_r0 : V1.cell? ⟨w.heap.size + 1 + 1, 0, none⟩ = some (.int .i64 0) := by rw [k_r.cell]; rfl
  have x_r1 : V1.cell? ⟨w.heap.size + 1 + 1, 1, none⟩ = some (.int .i64 0) := by rw [k_r.cell]; rfl
  have x_r2 : V1.cell? ⟨w.heap.size + 1 + 1, 2, none⟩ = some (.string ⟨#[]⟩) := by rw [k_r.cell]; rfl
  have l_r := k_r.lt
  have x_q0 : V1.cell? ⟨w1.heap.size, 0, none⟩ = some (.int .i64 p) := by rw [k_q.cell]; rfl
  have x_q1 : V1.cell? ⟨w1.heap.size, 1, none⟩ = some (.int .i64 q) := by rw [k_q.cell]; rfl
  have x_q2 : V1.cell? ⟨w1.heap.size, 2, none⟩ = some (.string ⟨#[]⟩) := by rw [k_q.cell]; rfl
  have l_q := k_q.lt
  refine (H2.out _).mono ?_
  rintro e w2 ⟨rfl, b2⟩
  clear x_x0 x_x1 x_x2 l_x x_y0 x_y1 x_y2 l_y x_r0 x_r1 x_r2 l_r x_q0 x_q1 x_q2 l_q
  have k_x := k_x.below b2 k_x.lt
  have k_y := k_y.below b2 k_y.lt
  have k_r := k_r.below b2 k_r.lt
  have k_q := k_q.below b2 k_q.lt
  have bb := bb.trans (b2.mono bb.size)
  have x_x0 : w2.cell? ⟨w.heap.size, 0, none⟩ = some (.int .i64 k) := by rw [k_x.cell]; rfl
  have x_x1 : w2.cell? ⟨w.heap.size, 1, none⟩ = some (.int .i64 n) := by rw [k_x.cell]; rfl
  have x_x2 : w2.cell? ⟨w.heap.size, 2, none⟩ = some (.string s) := by rw [k_x.cell]; rfl
  have l_x := k_x.lt
  have x_y0 : w2.cell? ⟨w.heap.size + 1, 0, none⟩ = some (.int .i64 (k')) := by rw [k_y.cell]; rfl
  have x_y1 : w2.cell? ⟨w.heap.size + 1, 1, none⟩ = some (.int .i64 (n')) := by rw [k_y.cell]; rfl
  have x_y2 : w2.cell? ⟨w.heap.size + 1, 2, none⟩ = some (.string (s')) := by rw [k_y.cell]; rfl
  have l_y := k_y.lt
  have x_r0 : w2.cell? ⟨w.heap.size + 1 + 1, 0, none⟩ = some (.int .i64 0) := by rw [k_r.cell]; rfl
  have x_r1 : w2.cell? ⟨w.heap.size + 1 + 1, 1, none⟩ = some (.int .i64 0) := by rw [k_r.cell]; rfl
  have x_r2 : w2.cell? ⟨w.heap.size + 1 + 1, 2, none⟩ = some (.string ⟨#[]⟩) := by rw [k_r.cell]; rfl
  have l_r := k_r.lt
  have x_q0 : w2.cell? ⟨w1.heap.size, 0, none⟩ = some (.int .i64 p) := by rw [k_q.cell]; rfl
  have x_q1 : w2.cell? ⟨w1.heap.size, 1, none⟩ = some (.int .i64 q) := by rw [k_q.cell]; rfl
  have x_q2 : w2.cell? ⟨w1.heap.size, 2, none⟩ = some (.string ⟨#[]⟩) := by rw [k_q.cell]; rfl
  have l_q := k_q.lt
  have z_r0 := k_r.frozen 0
  have z_r1 := k_r.frozen 1
  have z_r2 := k_r.frozen 2
  go_wp2
  exact bodyPost_ret (v := .tuple #[VS 0 0 ⟨#[]⟩, .int .i64 e1]) (by simp [results, Tryd.results28, go_sem, x_r0, x_r1, x_r2, l_r]) rfl ⟨rfl, ((((bb).setCell (p := ⟨w.heap.size + 1 + 1, 0, none⟩) (by first | exact Nat.le_refl _ | (simp; done) | (simp; omega) | omega) _).setCell (p := ⟨w.heap.size + 1 + 1, 1, none⟩) (by first | exact Nat.le_refl _ | (simp; done) | (simp; omega) | omega) _).setCell (p := ⟨w.heap.size + 1 + 1, 2, none⟩) (by first | exact Nat.le_refl _ | (simp; done) | (simp; omega) | omega) _).alloc (by first | exact bb.size | (simp; exact bb.size) | (have := bb.size; simp; omega)) _⟩
set_option maxHeartbeats 8000000 in
set_option maxRecDepth 100000 in
theorem rb_gt_s_e1 (k n : Int) (s : ByteArray) (k' n' : Int) (s' : ByteArray) (p q e1 : Int) (w : World) (fk : (k == 7) = true) (fk' : (k' == 7) = false) (he : ¬ e1 = 0) (C1 : ∀ W, Calls Tryd.prog 30 #[VS k n s] W (Ret (.tuple #[VN p q, .int .i64 e1]) W)) :
    Calls Tryd.prog 28 #[.string ⟨#[62]⟩, VS k n s, VS k' n' s'] w (Ret (.tuple #[VS 0 0 ⟨#[]⟩, .int .i64 e1]) w) := by
  have H1 := Lib.hid C1
  clear C1
  have q2 : (e1 != 0) = true := by simpa using he
  have q3 : ¬ e1 = 0 := he
  go_enter Tryd.func28, Tryd.ntmps28
  go_wp2_with fail
  have k_x := ((Blk.new w 27 #[.int .i64 k, .int .i64 n, .string s]).alloc (.cells #[.int .i64 (k'), .int .i64 (n'), .string (s')] 27)).alloc (.cells #[.int .i64 0, .int .i64 0, .string ⟨#[]⟩] 27)
  have k_y := (Blk.new (w.alloc (.cells #[.int .i64 k, .int .i64 n, .string s] 27)) 27 #[.int .i64 (k'), .int .i64 (n'), .string (s')]).alloc (.cells #[.int .i64 0, .int .i64 0, .string ⟨#[]⟩] 27)
  rw [World.size_alloc] at k_y
  have k_r := Blk.new ((w.alloc (.cells #[.int .i64 k, .int .i64 n, .string s] 27)).alloc (.cells #[.int .i64 (k'), .int .i64 (n'), .string (s')] 27)) 27 #[.int .i64 0, .int .i64 0, .string ⟨#[]⟩]
  rw [World.size_alloc, World.size_alloc] at k_r
  have bb : Below w.heap.size w _ := ((((Below.refl _ _).alloc (Nat.le_refl _) (.cells #[.int .i64 k, .int .i64 n, .string s] 27)).alloc (by simp) (.cells #[.int .i64 (k'), .int .i64 (n'), .string (s')] 27)).alloc (by simp; omega) (.cells #[.int .i64 0, .int .i64 0, .string ⟨#[]⟩] 27))
  generalize (((w.alloc (.cells #[.int .i64 k, .int .i64 n, .string s] 27)).alloc (.cells #[.int .i64 (k'), .int .i64 (n'), .string (s')] 27)).alloc (.cells #[.int .i64 0, .int .i64 0, .string ⟨#[]⟩] 27)) = W0 at *
  refine (H1.out _).mono ?_
  rintro e w1 ⟨rfl, b1⟩
  have k_x := k_x.below b1 k_x.lt
  have k_y := k_y.below b1 k_y.lt
  have k_r := k_r.below b1 k_r.lt
  have bb := bb.trans (b1.mono bb.size)
  have x_x0 : w1.cell? ⟨w.heap.size, 0, none⟩ = some (.int .i64 k) := by rw [k_x.cell]; rfl
  have x_x1 : w1.cell? ⟨w.heap.size, 1, none⟩ = some (.int .i64 n) := by rw [k_x.cell]; rfl
  have x_x2 : w1.cell? ⟨w.heap.size, 2, none⟩ = some (.string s) := by rw [k_x.cell]; rfl
  have l_x := k_x.lt
  have x_y0 : w1.cell? ⟨w.heap.size + 1, 0, none⟩ = some (.int .i64 (k')) := by rw [k_y.cell]; rfl
  have x_y1 : w1.cell? ⟨w.heap.size + 1, 1, none⟩ = some (.int .i64 (n')) := by rw [k_y.cell]; rfl
  have x_y2 : w1.cell? ⟨w.heap.size + 1, 2, none⟩ = some (.string (s')) := by rw [k_y.cell]; rfl
  have l_y := k_y.lt
  have x_r0 : w1.cell? ⟨w.heap.size + 1 + 1, 0, none⟩ = some (.int .i64 0) := by rw [k_r.cell]; rfl
  have x_r1 : w1.cell? ⟨w.heap.size + 1 + 1, 1, none⟩ = some (.int .i64 0) := by rw [k_r.cell]; rfl
  have x_r2 : w1.cell? ⟨w.heap.size + 1 + 1, 2, none⟩ = some (.string ⟨#[]⟩) := by rw [k_r.cell]; rfl
  have l_r := k_r.lt
  have z_r0 := k_r.frozen 0
  have z_r1 := k_r.frozen 1
  have z_r2 := k_r.frozen 2
  go_wp2
  exact bodyPost_ret (v := .tuple #[VS 0 0 ⟨#[]⟩, .int .i64 e1]) (by simp [results, Tryd.results28, go_sem, x_r0, x_r1, x_r2, l_r]) rfl ⟨rfl, ((((bb).setCell (p := ⟨w.heap.size + 1 + 1, 0, none⟩) (by first | exact Nat.le_refl _ | (simp; done) | (simp; omega) | omega) _).setCell (p := ⟨w.heap.size + 1 + 1, 1, none⟩) (by first | exact Nat.le_refl _ | (simp; done) | (simp; omega) | omega) _).setCell (p := ⟨w.heap.size + 1 + 1, 2, none⟩) (by first | exact Nat.le_refl _ | (simp; done) | (simp; omega) | omega) _).alloc (by first | exact bb.size | (simp; exact bb.size) | (have := bb.size; simp; omega)) _⟩
set_option maxHeartbeats 8000000 in
set_option maxRecDepth 100000 in
theorem rb_le_e1 (k n : Int) (s : ByteArray) (k' n' : Int) (s' : ByteArray) (p q e1 : Int) (w : World) (fk : (k == 7) = false) (he : ¬ e1 = 0) (C1 : ∀ W, Calls Tryd.prog 30 #[VS k n s] W (Ret (.tuple #[VN p q, .int .i64 e1]) W)) :
    Calls Tryd.prog 28 #[.string ⟨#[60, 61]⟩, VS k n s, VS k' n' s'] w (Ret (.tuple #[VS 0 0 ⟨#[]⟩, .int .i64 e1]) w) := by
  have H1 := Lib.hid C1
  clear C1
  have q2 : (e1 != 0) = true := by simpa using he
  have q3 : ¬ e1 = 0 := he
  go_enter Tryd.func28, Tryd.ntmps28
  go_wp2_with fail
  have k_x := ((Blk.new w 27 #[.int .i64 k, .int .i64 n, .string s]).alloc (.cells #[.int .i64 (k'), .int .i64 (n'), .string (s')] 27)).alloc (.cells #[.int .i64 0, .int .i64 0, .string ⟨#[]⟩] 27)
  have k_y := (Blk.new (w.alloc (.cells #[.int .i64 k, .int .i64 n, .string s] 27)) 27 #[.int .i64 (k'), .int .i64 (n'), .string (s')]).alloc (.cells #[.int .i64 0, .int .i64 0, .string ⟨#[]⟩] 27)
  rw [World.size_alloc] at k_y
  have k_r := Blk.new ((w.alloc (.cells #[.int .i64 k, .int .i64 n, .string s] 27)).alloc (.cells #[.int .i64 (k'), .int .i64 (n'), .string (s')] 27)) 27 #[.int .i64 0, .int .i64 0, .string ⟨#[]⟩]
  rw [World.size_alloc, World.size_alloc] at k_r
  have bb : Below w.heap.size w _ := ((((Below.refl _ _).alloc (Nat.le_refl _) (.cells #[.int .i64 k, .int .i64 n, .string s] 27)).alloc (by simp) (.cells #[.int .i64 (k'), .int .i64 (n'), .string (s')] 27)).alloc (by simp; omega) (.cells #[.int .i64 0, .int .i64 0, .string ⟨#[]⟩] 27))
  generalize (((w.alloc (.cells #[.int .i64 k, .int .i64 n, .string s] 27)).alloc (.cells #[.int .i64 (k'), .int .i64 (n'), .string (s')] 27)).alloc (.cells #[.int .i64 0, .int .i64 0, .string ⟨#[]⟩] 27)) = W0 at *
  refine (H1.out _).mono ?_
  rintro e w1 ⟨rfl, b1⟩
  have k_x := k_x.below b1 k_x.lt
  have k_y := k_y.below b1 k_y.lt
  have k_r := k_r.below b1 k_r.lt
  have bb := bb.trans (b1.mono bb.size)
  have x_x0 : w1.cell? ⟨w.heap.size, 0, none⟩ = some (.int .i64 k) := by rw [k_x.cell]; rfl
  have x_x1 : w1.cell? ⟨w.heap.size, 1, none⟩ = some (.int .i64 n) := by rw [k_x.cell]; rfl
  have x_x2 : w1.cell? ⟨w.heap.size, 2, none⟩ = some (.string s) := by rw [k_x.cell]; rfl
  have l_x := k_x.lt
  have x_y0 : w1.cell? ⟨w.heap.size + 1, 0, none⟩ = some (.int .i64 (k')) := by rw [k_y.cell]; rfl
  have x_y1 : w1.cell? ⟨w.heap.size + 1, 1, none⟩ = some (.int .i64 (n')) := by rw [k_y.cell]; rfl
  have x_y2 : w1.cell? ⟨w.heap.size + 1, 2, none⟩ = some (.string (s')) := by rw [k_y.cell]; rfl
  have l_y := k_y.lt
  have x_r0 : w1.cell? ⟨w.heap.size + 1 + 1, 0, none⟩ = some (.int .i64 0) := by rw [k_r.cell]; rfl
  have x_r1 : w1.cell? ⟨w.heap.size + 1 + 1, 1, none⟩ = some (.int .i64 0) := by rw [k_r.cell]; rfl
  have x_r2 : w1.cell? ⟨w.heap.size + 1 + 1, 2, none⟩ = some (.string ⟨#[]⟩) := by rw [k_r.cell]; rfl
  have l_r := k_r.lt
  have z_r0 := k_r.frozen 0
  have z_r1 := k_r.frozen 1
  have z_r2 := k_r.frozen 2
  go_wp2
  exact bodyPost_ret (v := .tuple #[VS 0 0 ⟨#[]⟩, .int .i64 e1]) (by simp [results, Tryd.results28, go_sem, x_r0, x_r1, x_r2, l_r]) rfl ⟨rfl, ((((bb).setCell (p := ⟨w.heap.size + 1 + 1, 0, none⟩) (by first | exact Nat.le_refl _ | (simp; done) | (simp; omega) | omega) _).setCell (p := ⟨w.heap.size + 1 + 1, 1, none⟩) (by first | exact Nat.le_refl _ | (simp; done) | (simp; omega) | omega) _).setCell (p := ⟨w.heap.size + 1 + 1, 2, none⟩) (by first | exact Nat.le_refl _ | (simp; done) | (simp; omega) | omega) _).alloc (by first | exact bb.size | (simp; exact bb.size) | (have := bb.size; simp; omega)) _⟩
set_option maxHeartbeats 8000000 in
set_option maxRecDepth 100000 in
theorem rb_le_e2 (k n : Int) (s : ByteArray) (k' n' : Int) (s' : ByteArray) (p q p' q' e1 : Int) (w : World) (fk : (k == 7) = false) (he : ¬ e1 = 0) (C1 : ∀ W, Calls Tryd.prog 30 #[VS k n s] W (Ret (.tuple #[VN p q, .int .i64 0]) W)) (C2 : ∀ W, Calls Tryd.prog 30 #[VS k' n' s'] W (Ret (.tuple #[VN p' q', .int .i64 e1]) W)) :
    Calls Tryd.prog 28 #[.string ⟨#[60, 61]⟩, VS k n s, VS k' n' s'] w (Ret (.tuple #[VS 0 0 ⟨#[]⟩, .int .i64 e1]) w) := by
  have H1 := Lib.hid C1
  have H2 := Lib.hid C2
  clear C1 C2
  have q2 : (e1 != 0) = true := by simpa using he
  have q3 : ¬ e1 = 0 := he
  go_enter Tryd.func28, Tryd.ntmps28
  go_wp2_with fail
  have k_x := ((Blk.new w 27 #[.int .i64 k, .int .i64 n, .string s]).alloc (.cells #[.int .i64 (k'), .int .i64 (n'), .string (s')] 27)).alloc (.cells #[.int .i64 0, .int .i64 0, .string ⟨#[]⟩] 27)
  have k_y := (Blk.new (w.alloc (.cells #[.int .i64 k, .int .i64 n, .string s] 27)) 27 #[.int .i64 (k'), .int .i64 (n'), .string (s')]).alloc (.cells #[.int .i64 0, .int .i64 0, .string ⟨#[]⟩] 27)
  rw [World.size_alloc] at k_y
  have k_r := Blk.new ((w.alloc (.cells #[.int .i64 k, .int .i64 n, .string s] 27)).alloc (.cells #[.int .i64 (k'), .int .i64 (n'), .string (s')] 27)) 27 #[.int .i64 0, .int .i64 0, .string ⟨#[]⟩]
  rw [World.size_alloc, World.size_alloc] at k_r
  have bb : Below w.heap.size w _ := ((((Below.refl _ _).alloc (Nat.le_refl _) (.cells #[.int .i64 k, .int .i64 n, .string s] 27)).alloc (by simp) (.cells #[.int .i64 (k'), .int .i64 (n'), .string (s')] 27)).alloc (by simp; omega) (.cells #[.int .i64 0, .int .i64 0, .string ⟨#[]⟩] 27))
  generalize (((w.alloc (.cells #[.int .i64 k, .int .i64 n, .string s] 27)).alloc (.cells #[.int .i64 (k'), .int .i64 (n'), .string (s')] 27)).alloc (.cells #[.int .i64 0, .int .i64 0, .string ⟨#[]⟩] 27)) = W0 at *
  refine (H1.out _).mono ?_
  rintro e w1 ⟨rfl, b1⟩
  have k_x := k_x.below b1 k_x.lt
  have k_y := k_y.below b1 k_y.lt
  have k_r := k_r.below b1 k_r.lt
  have bb := bb.trans (b1.mono bb.size)
  have x_x0 : w1.cell? ⟨w.heap.size, 0, none⟩ = some (.int .i64 k) := by rw [k_x.cell]; rfl
  have x_x1 : w1.cell? ⟨w.heap.size, 1, none⟩ = some (.int .i64 n) := by rw [k_x.cell]; rfl
  have x_x2 : w1.cell? ⟨w.heap.size, 2, none⟩ = some (.string s) := by rw [k_x.cell]; rfl
  have l_x := k_x.lt
  have x_y0 : w1.cell? ⟨w.heap.size + 1, 0, none⟩ = some (.int .i64 (k')) := by rw [k_y.cell]; rfl
  have x_y1 : w1.cell? ⟨w.heap.size + 1, 1, none⟩ = some (.int .i64 (n')) := by rw [k_y.cell]; rfl
  have x_y2 : w1.cell? ⟨w.heap.size + 1, 2, none⟩ = some (.string (s')) := by rw [k_y.cell]; rfl
  have l_y := k_y.lt
  have x_r0 : w1.cell? ⟨w.heap.size + 1 + 1, 0, none⟩ = some (.int .i64 0) := by rw [k_r.cell]; rfl
  have x_r1 : w1.cell? ⟨w.heap.size + 1 + 1, 1, none⟩ = some (.int .i64 0) := by rw [k_r.cell]; rfl
  have x_r2 : w1.cell? ⟨w.heap.size + 1 + 1, 2, none⟩ = some (.string ⟨#[]⟩) := by rw [k_r.cell]; rfl
  have l_r := k_r.lt
  go_wp2_with fail
  have k_x := k_x.alloc (.cells #[.int .i64 p, .int .i64 q, .string ⟨#[]⟩] 27)
  have k_y := k_y.alloc (.cells #[.int .i64 p, .int .i64 q, .string ⟨#[]⟩] 27)
  have k_r := k_r.alloc (.cells #[.int .i64 p, .int .i64 q, .string ⟨#[]⟩] 27)
  have k_q := Blk.new w1 27 #[.int .i64 p, .int .i64 q, .string ⟨#[]⟩]
  have bb := bb.alloc bb.size (.cells #[.int .i64 p, .int .i64 q, .string ⟨#[]⟩] 27)
  clear x_x0 x_x1 x_x2 l_x x_y0 x_y1 x_y2 l_y x_r0 x_r1 x_r2 l_r
  generalize w1.alloc (.cells #[.int .i64 p, .int .i64 q, .string ⟨#[]⟩] 27) = V1 at *
  have x_x0 : V1.cell? ⟨w.heap.size, 0, none⟩ = some (.int .i64 k) := by rw [k_x.cell]; rfl
  have x_x1 : V1.cell? ⟨w.heap.size, 1, none⟩ = some (.int .i64 n) := by rw [k_x.cell]; rfl
  have x_x2 : V1.cell? ⟨w.heap.size, 2, none⟩ = some (.string s) := by rw [k_x.cell]; rfl
  have l_x := k_x.lt
  have x_y0 : V1.cell? ⟨w.heap.size + 1, 0, none⟩ = some (.int .i64 (k')) := by rw [k_y.cell]; rfl
  have x_y1 : V1.cell? ⟨w.heap.size + 1, 1, none⟩ = some (.int .i64 (n')) := by rw [k_y.cell]; rfl
  have x_y2 : V1.cell? ⟨w.heap.size + 1, 2, none⟩ = some (.string (s')) := by rw [k_y.cell]; rfl
  have l_y := k_y.lt
  have x_r0 : V1.cell? ⟨w.heap.size + 1 + 1, 0, none⟩ = some (.int .i64 0) := by rw [k_r.cell]; rfl
  have x_r1 : V1.cell? ⟨w.heap.size + 1 + 1, 1, none⟩ = some (.int .i64 0) := by rw [k_r.cell]; rfl
  have x_r2 : V1.cell? ⟨w.heap.size + 1 + 1, 2, none⟩ = some (.string ⟨#[]⟩) := by rw [k_r.cell]; rfl
  have l_r := k_r.lt
  have x_q0 : V1.cell? ⟨w1.heap.size, 0, none⟩ = some (.int .i64 p) := by rw [k_q.cell]; rfl
  have x_q1 : V1.cell? ⟨w1.heap.size, 1, none⟩ = some (.int .i64 q) := by rw [k_q.cell]; rfl
  have x_q2 : V1.cell? ⟨w1.heap.size, 2, none⟩ = some (.string ⟨#[]⟩) := by rw [k_q.cell]; rfl
  have l_q := k_q.lt
  refine (H2.out _).mono ?_
  rintro e w2 ⟨rfl, b2⟩
  clear x_x0 x_x1 x_x2 l_x x_y0 x_y1 x_y2 l_y x_r0 x_r1 x_r2 l_r x_q0 x_q1 x_q2 l_q
  have k_x := k_x.below b2 k_x.lt
  have k_y := k_y.below b2 k_y.lt
  have k_r := k_r.below b2 k_r.lt
  have k_q := k_q.below b2 k_q.lt
  have bb := bb.trans (b2.mono bb.size)
  have x_x0 : w2.cell? ⟨w.heap.size, 0, none⟩ = some (.int .i64 k) := by rw [k_x.cell]; rfl
  have x_x1 : w2.cell? ⟨w.heap.size, 1, none⟩ = some (.int .i64 n) := by rw [k_x.cell]; rfl
  have x_x2 : w2.cell? ⟨w.heap.size, 2, none⟩ = some (.string s) := by rw [k_x.cell]; rfl
  have l_x := k_x.lt
  have x_y0 : w2.cell? ⟨w.heap.size + 1, 0, none⟩ = some (.int .i64 (k')) := by rw [k_y.cell]; rfl
  have x_y1 : w2.cell? ⟨w.heap.size + 1, 1, none⟩ = some (.int .i64 (n')) := by rw [k_y.cell]; rfl
  have x_y2 : w2.cell? ⟨w.heap.size + 1, 2, none⟩ = some (.string (s')) := by rw [k_y.cell]; rfl
  have l_y := k_y.lt
  have x_r0 : w2.cell? ⟨w.heap.size + 1 + 1, 0, none⟩ = some (.int .i64 0) := by rw [k_r.cell]; rfl
  have x_r1 : w2.cell? ⟨w.heap.size + 1 + 1, 1, none⟩ = some (.int .i64 0) := by rw [k_r.cell]; rfl
  have x_r2 : w2.cell? ⟨w.heap.size + 1 + 1, 2, none⟩ = some (.string ⟨#[]⟩) := by rw [k_r.cell]; rfl
  have l_r := k_r.lt
  have x_q0 : w2.cell? ⟨w1.heap.size, 0, none⟩ = some (.int .i64 p) := by rw [k_q.cell]; rfl
  have x_q1 : w2.cell? ⟨w1.heap.size, 1, none⟩ = some (.int .i64 q) := by rw [k_q.cell]; rfl
  have x_q2 : w2.cell? ⟨w1.heap.size, 2, none⟩ = some (.string ⟨#[]⟩) := by rw [k_q.cell]; rfl
  have l_q := k_q.lt
  have z_r0 := k_r.frozen 0
  have z_r1 := k_r.frozen 1
  have z_r2 := k_r.frozen 2
  go_wp2
  exact bodyPost_ret (v := .tuple #[VS 0 0 ⟨#[]⟩, .int .i64 e1]) (by simp [results, Tryd.results28, go_sem, x_r0, x_r1, x_r2, l_r]) rfl ⟨rfl, ((((bb).setCell (p := ⟨w.heap.size + 1 + 1, 0, none⟩) (by first | exact Nat.le_refl _ | (simp; done) | (simp; omega) | omega) _).setCell (p := ⟨w.heap.size + 1 + 1, 1, none⟩) (by first | exact Nat.le_refl _ | (simp; done) | (simp; omega) | omega) _).setCell (p := ⟨w.heap.size + 1 + 1, 2, none⟩) (by first | exact Nat.le_refl _ | (simp; done) | (simp; omega) | omega) _).alloc (by first | exact bb.size | (simp; exact bb.size) | (have := bb.size; simp; omega)) _⟩
set_option maxHeartbeats 8000000 in
set_option maxRecDepth 100000 in
theorem rb_le_s_e1 (k n : Int) (s : ByteArray) (k' n' : Int) (s' : ByteArray) (p q e1 : Int) (w : World) (fk : (k == 7) = true) (fk' : (k' == 7) = false) (he : ¬ e1 = 0) (C1 : ∀ W, Calls Tryd.prog 30 #[VS k n s] W (Ret (.tuple #[VN p q, .int .i64 e1]) W)) :
    Calls Tryd.prog 28 #[.string ⟨#[60, 61]⟩, VS k n s, VS k' n' s'] w (Ret (.tuple #[VS 0 0 ⟨#[]⟩, .int .i64 e1]) w) := by
  have H1 := Lib.hid C1
  clear C1
  have q2 : (e1 != 0) = true := by simpa using he
  have q3 : ¬ e1 = 0 := he
  go_enter Tryd.func28, Tryd.ntmps28
  go_wp2_with fail
  have k_x := ((Blk.new w 27 #[.int .i64 k, .int .i64 n, .string s]).alloc (.cells #[.int .i64 (k'), .int .i64 (n'), .string (s')] 27)).alloc (.cells #[.int .i64 0, .int .i64 0, .string ⟨#[]⟩] 27)
  have k_y := (Blk.new (w.alloc (.cells #[.int .i64 k, .int .i64 n, .string s] 27)) 27 #[.int .i64 (k'), .int .i64 (n'), .string (s')]).alloc (.cells #[.int .i64 0, .int .i64 0, .string ⟨#[]⟩] 27)
  rw [World.size_alloc] at k_y
  have k_r := Blk.new ((w.alloc (.cells #[.int .i64 k, .int .i64 n, .string s] 27)).alloc (.cells #[.int .i64 (k'), .int .i64 (n'), .string (s')] 27)) 27 #[.int .i64 0, .int .i64 0, .string ⟨#[]⟩]
  rw [World.size_alloc, World.size_alloc] at k_r
  have bb : Below w.heap.size w _ := ((((Below.refl _ _).alloc (Nat.le_refl _) (.cells #[.int .i64 k, .int .i64 n, .string s] 27)).alloc (by simp) (.cells #[.int .i64 (k'), .int .i64 (n'), .string (s')] 27)).alloc (by simp; omega) (.cells #[.int .i64 0, .int .i64 0, .string ⟨#[]⟩] 27))
  generalize (((w.alloc (.cells #[.int .i64 k, .int .i64 n, .string s] 27)).alloc (.cells #[.int .i64 (k'), .int .i64 (n'), .string (s')] 27)).alloc (.cells #[.int .i64 0, .int .i64 0, .string ⟨#[]⟩] 27)) = W0 at *
  refine (H1.out _).mono ?_
  rintro e w1 ⟨rfl, b1⟩
  have k_x := k_x.below b1 k_x.lt
  have k_y := k_y.below b1 k_y.lt
  have k_r := k_r.below b1 k_r.lt
  have bb := bb.trans (b1.mono bb.size)
  have x_x0 : w1.cell? ⟨w.heap.size, 0, none⟩ = some (.int .i64 k) := by rw [k_x.cell]; rfl
  have x_x1 : w1.cell? ⟨w.heap.size, 1, none⟩ = some (.int .i64 n) := by rw [k_x.cell]; rfl
  have x_x2 : w1.cell? ⟨w.heap.size, 2, none⟩ = some (.string s) := by rw [k_x.cell]; rfl
  have l_x := k_x.lt
  have x_y0 : w1.cell? ⟨w.heap.size + 1, 0, none⟩ = some (.int .i64 (k')) := by rw [k_y.cell]; rfl
  have x_y1 : w1.cell? ⟨w.heap.size + 1, 1, none⟩ = some (.int .i64 (n')) := by rw [k_y.cell]; rfl
  have x_y2 : w1.cell? ⟨w.heap.size + 1, 2, none⟩ = some (.string (s')) := by rw [k_y.cell]; rfl
  have l_y := k_y.lt
  have x_r0 : w1.cell? ⟨w.heap.size + 1 + 1, 0, none⟩ = some (.int .i64 0) := by rw [k_r.cell]; rfl
  have x_r1 : w1.cell? ⟨w.heap.size + 1 + 1, 1, none⟩ = some (.int .i64 0) := by rw [k_r.cell]; rfl
  have x_r2 : w1.cell? ⟨w.heap.size + 1 + 1, 2, none⟩ = some (.string ⟨#[]⟩) := by rw [k_r.cell]; rfl
  have l_r := k_r.lt
  have z_r0 := k_r.frozen 0
  have z_r1 := k_r.frozen 1
  have z_r2 := k_r.frozen 2
  go_wp2
  exact bodyPost_ret (v := .tuple #[VS 0 0 ⟨#[]⟩, .int .i64 e1]) (by simp [results, Tryd.results28, go_sem, x_r0, x_r1, x_r2, l_r]) rfl ⟨rfl, ((((bb).setCell (p := ⟨w.heap.size + 1 + 1, 0, none⟩) (by first | exact Nat.le_refl _ | (simp; done) | (simp; omega) | omega) _).setCell (p := ⟨w.heap.size + 1 + 1, 1, none⟩) (by first | exact Nat.le_refl _ | (simp; done) | (simp; omega) | omega) _).setCell (p := ⟨w.heap.size + 1 + 1, 2, none⟩) (by first | exact Nat.le_refl _ | (simp; done) | (simp; omega) | omega) _).alloc (by first | exact bb.size | (simp; exact bb.size) | (have := bb.size; simp; omega)) _⟩
set_option maxHeartbeats 8000000 in
set_option maxRecDepth 100000 in
theorem rb_ge_e1 (k n : Int) (s : ByteArray) (k' n' : Int) (s' : ByteArray) (p q e1 : Int) (w : World) (fk : (k == 7) = false) (he : ¬ e1 = 0) (C1 : ∀ W, Calls Tryd.prog 30 #[VS k n s] W (Ret (.tuple #[VN p q, .int .i64 e1]) W)) :
    Calls Tryd.prog 28 #[.string ⟨#[62, 61]⟩, VS k n s, VS k' n' s'] w (Ret (.tuple #[VS 0 0 ⟨#[]⟩, .int .i64 e1]) w) := by
  have H1 := Lib.hid C1
  clear C1
  have q2 : (e1 != 0) = true := by simpa using he
  have q3 : ¬ e1 = 0 := he
  go_enter Tryd.func28, Tryd.ntmps28
  go_wp2_with fail
  have k_x := ((Blk.new w 27 #[.int .i64 k, .int .i64 n, .string s]).alloc (.cells #[.int .i64 (k'), .int .i64 (n'), .string (s')] 27)).alloc (.cells #[.int .i64 0, .int .i64 0, .string ⟨#[]⟩] 27)
  have k_y := (Blk.new (w.alloc (.cells #[.int .i64 k, .int .i64 n, .string s] 27)) 27 #[.int .i64 (k'), .int .i64 (n'), .string (s')]).alloc (.cells #[.int .i64 0, .int .i64 0, .string ⟨#[]⟩] 27)
  rw [World.size_alloc] at k_y
  have k_r := Blk.new ((w.alloc (.cells #[.int .i64 k, .int .i64 n, .string s] 27)).alloc (.cells #[.int .i64 (k'), .int .i64 (n'), .string (s')] 27)) 27 #[.int .i64 0, .int .i64 0, .string ⟨#[]⟩]
  rw [World.size_alloc, World.size_alloc] at k_r
  have bb : Below w.heap.size w _ := ((((Below.refl _ _).alloc (Nat.le_refl _) (.cells #[.int .i64 k, .int .i64 n, .string s] 27)).alloc (by simp) (.cells #[.int .i64 (k'), .int .i64 (n'), .string (s')] 27)).alloc (by simp; omega) (.cells #[.int .i64 0, .int .i64 0, .string ⟨#[]⟩] 27))
  generalize (((w.alloc (.cells #[.int .i64 k, .int .i64 n, .string s] 27)).alloc (.cells #[.int .i64 (k'), .int .i64 (n'), .string (s')] 27)).alloc (.cells #[.int .i64 0, .int .i64 0, .string ⟨#[]⟩] 27)) = W0 at *
  refine (H1.out _).mono ?_
  rintro e w1 ⟨rfl, b1⟩
  have k_x := k_x.below b1 k_x.lt
  have k_y := k_y.below b1 k_y.lt
  have k_r := k_r.below b1 k_r.lt
  have bb := bb.trans (b1.mono bb.size)
  have x_x0 : w1.cell? ⟨w.heap.size, 0, none⟩ = some (.int .i64 k) := by rw [k_x.cell]; rfl
  have x_x1 : w1.cell? ⟨w.heap.size, 1, none⟩ = some (.int .i64 n) := by rw [k_x.cell]; rfl
  have x_x2 : w1.cell? ⟨w.heap.size, 2, none⟩ = some (.string s) := by rw [k_x.cell]; rfl
  have l_x := k_x.lt
  have x_y0 : w1.cell? ⟨w.heap.size + 1, 0, none⟩ = some (.int .i64 (k')) := by rw [k_y.cell]; rfl
  have x_y1 : w1.cell? ⟨w.heap.size + 1, 1, none⟩ = some (.int .i64 (n')) := by rw [k_y.cell]; rfl
  have x_y2 : w1.cell? ⟨w.heap.size + 1, 2, none⟩ = some (.string (s')) := by rw [k_y.cell]; rfl
  have l_y := k_y.lt
  have x_r0 : w1.cell? ⟨w.heap.size + 1 + 1, 0, none⟩ = some (.int .i64 0) := by rw [k_r.cell]; rfl
  have x_r1 : w1.cell? ⟨w.heap.size + 1 + 1, 1, none⟩ = some (.int .i64 0) := by rw [k_r.cell]; rfl
  have x_r2 : w1.cell? ⟨w.heap.size + 1 + 1, 2, none⟩ = some (.string ⟨#[]⟩) := by rw [k_r.cell]; rfl
  have l_r := k_r.lt
  have z_r0 := k_r.frozen 0
  have z_r1 := k_r.frozen 1
  have z_r2 := k_r.frozen 2
  go_wp2
  exact bodyPost_ret (v := .tuple #[VS 0 0 ⟨#[]⟩, .int .i64 e1]) (by simp [results, Tryd.results28, go_sem, x_r0, x_r1, x_r2, l_r]) rfl ⟨rfl, ((((bb).setCell (p := ⟨w.heap.size + 1 + 1, 0, none⟩) (by first | exact Nat.le_refl _ | (simp; done) | (simp; omega) | omega) _).setCell (p := ⟨w.heap.size + 1 + 1, 1, none⟩) (by first | exact Nat.le_refl _ | (simp; done) | (simp; omega) | omega) _).setCell (p := ⟨w.heap.size + 1 + 1, 2, none⟩) (by first | exact Nat.le_refl _ | (simp; done) | (simp; omega) | omega) _).alloc (by first | exact bb.size | (simp; exact bb.size) | (have := bb.size; simp; omega)) _⟩
set_option maxHeartbeats 8000000 in
set_option maxRecDepth 100000 in
theorem rb_ge_e2 (k n : Int) (s : ByteArray) (k' n' : Int) (s' : ByteArray) (p q p' q' e1 : Int) (w : World) (fk : (k == 7) = false) (he : ¬ e1 = 0) (C1 : ∀ W, Calls Tryd.prog 30 #[VS k n s] W (Ret (.tuple #[VN p q, .int .i64 0]) W)) (C2 : ∀ W, Calls Tryd.prog 30 #[VS k' n' s'] W (Ret (.tuple #[VN p' q', .int .i64 e1]) W)) :
    Calls Tryd.prog 28 #[.string ⟨#[62, 61]⟩, VS k n s, VS k' n' s'] w (Ret (.tuple #[VS 0 0 ⟨#[]⟩, .int .i64 e1]) w) := by
  have H1 := Lib.hid C1
  have H2 := Lib.hid C2
  clear C1 C2
  have q2 : (e1 != 0) = true := by simpa using he
  have q3 : ¬ e1 = 0 := he
  go_enter Tryd.func28, Tryd.ntmps28
  go_wp2_with fail
  have k_x := ((Blk.new w 27 #[.int .i64 k, .int .i64 n, .string s]).alloc (.cells #[.int .i64 (k'), .int .i64 (n'), .string (s')] 27)).alloc (.cells #[.int .i64 0, .int .i64 0, .string ⟨#[]⟩] 27)
  have k_y := (Blk.new (w.alloc (.cells #[.int .i64 k, .int .i64 n, .string s] 27)) 27 #[.int .i64 (k'), .int .i64 (n'), .string (s')]).alloc (.cells #[.int .i64 0, .int .i64 0, .string ⟨#[]⟩] 27)
  rw [World.size_alloc] at k_y
  have k_r := Blk.new ((w.alloc (.cells #[.int .i64 k, .int .i64 n, .string s] 27)).alloc (.cells #[.int .i64 (k'), .int .i64 (n'), .string (s')] 27)) 27 #[.int .i64 0, .int .i64 0, .string ⟨#[]⟩]
  rw [World.size_alloc, World.size_alloc] at k_r
  have bb : Below w.heap.size w _ := ((((Below.refl _ _).alloc (Nat.le_refl _) (.cells #[.int .i64 k, .int .i64 n, .string s] 27)).alloc (by simp) (.cells #[.int .i64 (k'), .int .i64 (n'), .string (s')] 27)).alloc (by simp; omega) (.cells #[.int .i64 0, .int .i64 0, .string ⟨#[]⟩] 27))
  generalize (((w.alloc (.cells #[.int .i64 k, .int .i64 n, .string s] 27)).alloc (.cells #[.int .i64 (k'), .int .i64 (n'), .string (s')] 27)).alloc (.cells #[.int .i64 0, .int .i64 0, .string ⟨#[]⟩] 27)) = W0 at *
  refine (H1.out _).mono ?_
  rintro e w1 ⟨rfl, b1⟩
  have k_x := k_x.below b1 k_x.lt
  have k_y := k_y.below b1 k_y.lt
  have k_r := k_r.below b1 k_r.lt
  have bb := bb.trans (b1.mono bb.size)
  have x_x0 : w1.cell? ⟨w.heap.size, 0, none⟩ = some (.int .i64 k) := by rw [k_x.cell]; rfl
  have x_x1 : w1.cell? ⟨w.heap.size, 1, none⟩ = some (.int .i64 n) := by rw [k_x.cell]; rfl
  have x_x2 : w1.cell? ⟨w.heap.size, 2, none⟩ = some (.string s) := by rw [k_x.cell]; rfl
  have l_x := k_x.lt
  have x_y0 : w1.cell? ⟨w.heap.size + 1, 0, none⟩ = some (.int .i64 (k')) := by rw [k_y.cell]; rfl
  have x_y1 : w1.cell? ⟨w.heap.size + 1, 1, none⟩ = some (.int .i64 (n')) := by rw [k_y.cell]; rfl
  have x_y2 : w1.cell? ⟨w.heap.size + 1, 2, none⟩ = some (.string (s')) := by rw [k_y.cell]; rfl
  have l_y := k_y.lt
  have x_r0 : w1.cell? ⟨w.heap.size + 1 + 1, 0, none⟩ = some (.int .i64 0) := by rw [k_r.cell]; rfl
  have x_r1 : w1.cell? ⟨w.heap.size + 1 + 1, 1, none⟩ = some (.int .i64 0) := by rw [k_r.cell]; rfl
  have x_r2 : w1.cell? ⟨w.heap.size + 1 + 1, 2, none⟩ = some (.string ⟨#[]⟩) := by rw [k_r.cell]; rfl
  have l_r := k_r.lt
  go_wp2_with fail
  have k_x := k_x.alloc (.cells #[.int .i64 p, .int .i64 q, .string ⟨#[]⟩] 27)
  have k_y := k_y.alloc (.cells #[.int .i64 p, .int .i64 q, .string ⟨#[]⟩] 27)
  have k_r := k_r.alloc (.cells #[.int .i64 p, .int .i64 q, .string ⟨#[]⟩] 27)
  have k_q := Blk.new w1 27 #[.int .i64 p, .int .i64 q, .string ⟨#[]⟩]
  have bb := bb.alloc bb.size (.cells #[.int .i64 p, .int .i64 q, .string ⟨#[]⟩] 27)
  clear x_x0 x_x1 x_x2 l_x x_y0 x_y1 x_y2 l_y x_r0 x_r1 x_r2 l_r
  generalize w1.alloc (.cells #[.int .i64 p, .int .i64 q, .string ⟨#[]⟩] 27) = V1 at *
  have x_x0 : V1.cell? ⟨w.heap.size, 0, none⟩ = some (.int .i64 k) := by rw [k_x.cell]; rfl
  have x_x1 : V1.cell? ⟨w.heap.size, 1, none⟩ = some (.int .i64 n) := by rw [k_x.cell]; rfl
  have x_x2 : V1.cell? ⟨w.heap.size, 2, none⟩ = some (.string s) := by rw [k_x.cell]; rfl
  have l_x := k_x.lt
  have x_y0 : V1.cell? ⟨w.heap.size + 1, 0, none⟩ = some (.int .i64 (k')) := by rw [k_y.cell]; rfl
  have x_y1 : V1.cell? ⟨w.heap.size + 1, 1, none⟩ = some (.int .i64 (n')) := by rw [k_y.cell]; rfl
  have x_y2 : V1.cell? ⟨w.heap.size + 1, 2, none⟩ = some (.string (s')) := by rw [k_y.cell]; rfl
  have l_y := k_y.lt
  have x_r0 : V1.cell? ⟨w.heap.size + 1 + 1, 0, none⟩ = some (.int .i64 0) := by rw [k_r.cell]; rfl
  have x_r1 : V1.cell? ⟨w.heap.size + 1 + 1, 1, none⟩ = some (.int .i64 0) := by rw [k_r.cell]; rfl
  have x_r2 : V1.cell? ⟨w.heap.size + 1 + 1, 2, none⟩ = some (.string ⟨#[]⟩) := by rw [k_r.cell]; rfl
  have l_r := k_r.lt
  have x_q0 : V1.cell? ⟨w1.heap.size, 0, none⟩ = some (.int .i64 p) := by rw [k_q.cell]; rfl
  have x_q1 : V1.cell? ⟨w1.heap.size, 1, none⟩ = some (.int .i64 q) := by rw [k_q.cell]; rfl
  have x_q2 : V1.cell? ⟨w1.heap.size, 2, none⟩ = some (.string ⟨#[]⟩) := by rw [k_q.cell]; rfl
  have l_q := k_q.lt
  refine (H2.out _).mono ?_
  rintro e w2 ⟨rfl, b2⟩
  clear x_x0 x_x1 x_x2 l_x x_y0 x_y1 x_y2 l_y x_r0 x_r1 x_r2 l_r x_q0 x_q1 x_q2 l_q
  have k_x := k_x.below b2 k_x.lt
  have k_y := k_y.below b2 k_y.lt
  have k_r := k_r.below b2 k_r.lt
  have k_q := k_q.below b2 k_q.lt
  have bb := bb.trans (b2.mono bb.size)
  have x_x0 : w2.cell? ⟨w.heap.size, 0, none⟩ = some (.int .i64 k) := by rw [k_x.cell]; rfl
  have x_x1 : w2.cell? ⟨w.heap.size, 1, none⟩ = some (.int .i64 n) := by rw [k_x.cell]; rfl
  have x_x2 : w2.cell? ⟨w.heap.size, 2, none⟩ = some (.string s) := by rw [k_x.cell]; rfl
  have l_x := k_x.lt
  have x_y0 : w2.cell? ⟨w.heap.size + 1, 0, none⟩ = some (.int .i64 (k')) := by rw [k_y.cell]; rfl
  have x_y1 : w2.cell? ⟨w.heap.size + 1, 1, none⟩ = some (.int .i64 (n')) := by rw [k_y.cell]; rfl
  have x_y2 : w2.cell? ⟨w.heap.size + 1, 2, none⟩ = some (.string (s')) := by rw [k_y.cell]; rfl
  have l_y := k_y.lt
  have x_r0 : w2.cell? ⟨w.heap.size + 1 + 1, 0, none⟩ = some (.int .i64 0) := by rw [k_r.cell]; rfl
  have x_r1 : w2.cell? ⟨w.heap.size + 1 + 1, 1, none⟩ = some (.int .i64 0) := by rw [k_r.cell]; rfl
  have x_r2 : w2.cell? ⟨w.heap.size + 1 + 1, 2, none⟩ = some (.string ⟨#[]⟩) := by rw [k_r.cell]; rfl
  have l_r := k_r.lt
  have x_q0 : w2.cell? ⟨w1.heap.size, 0, none⟩ = some (.int .i64 p) := by rw [k_q.cell]; rfl
  have x_q1 : w2.cell? ⟨w1.heap.size, 1, none⟩ = some (.int .i64 q) := by rw [k_q.cell]; rfl
  have x_q2 : w2.cell? ⟨w1.heap.size, 2, none⟩ = some (.string ⟨#[]⟩) := by rw [k_q.cell]; rfl
  have l_q := k_q.lt
  have z_r0 := k_r.frozen 0
  have z_r1 := k_r.frozen 1
  have z_r2 := k_r.frozen 2
  go_wp2
  exact bodyPost_ret (v := .tuple #[VS 0 0 ⟨#[]⟩, .int .i64 e1]) (by simp [results, Tryd.results28, go_sem, x_r0, x_r1, x_r2, l_r]) rfl ⟨rfl, ((((bb).setCell (p := ⟨w.heap.size + 1 + 1, 0, none⟩) (by first | exact Nat.le_refl _ | (simp; done) | (simp; omega) | omega) _).setCell (p := ⟨w.heap.size + 1 + 1, 1, none⟩) (by first | exact Nat.le_refl _ | (simp; done) | (simp; omega) | omega) _).setCell (p := ⟨w.heap.size + 1 + 1, 2, none⟩) (by first | exact Nat.le_refl _ | (simp; done) | (simp; omega) | omega) _).alloc (by first | exact bb.size | (simp; exact bb.size) | (have := bb.size; simp; omega)) _⟩
set_option maxHeartbeats 8000000 in
set_option maxRecDepth 100000 in
theorem rb_ge_s_e1 (k n : Int) (s : ByteArray) (k' n' : Int) (s' : ByteArray) (p q e1 : Int) (w : World) (fk : (k == 7) = true) (fk' : (k' == 7) = false) (he : ¬ e1 = 0) (C1 : ∀ W, Calls Tryd.prog 30 #[VS k n s] W (Ret (.tuple #[VN p q, .int .i64 e1]) W)) :
    Calls Tryd.prog 28 #[.string ⟨#[62, 61]⟩, VS k n s, VS k' n' s'] w (Ret (.tuple #[VS 0 0 ⟨#[]⟩, .int .i64 e1]) w) := by
  have H1 := Lib.hid C1
  clear C1
  have q2 : (e1 != 0) = true := by simpa using he
  have q3 : ¬ e1 = 0 := he
  go_enter Tryd.func28, Tryd.ntmps28
  go_wp2_with fail
  have k_x := ((Blk.new w 27 #[.int .i64 k, .int .i64 n, .string s]).alloc (.cells #[.int .i64 (k'), .int .i64 (n'), .string (s')] 27)).alloc (.cells #[.int .i64 0, .int .i64 0, .string ⟨#[]⟩] 27)
  have k_y := (Blk.new (w.alloc (.cells #[.int .i64 k, .int .i64 n, .string s] 27)) 27 #[.int .i64 (k'), .int .i64 (n'), .string (s')]).alloc (.cells #[.int .i64 0, .int .i64 0, .string ⟨#[]⟩] 27)
  rw [World.size_alloc] at k_y
  have k_r := Blk.new ((w.alloc (.cells #[.int .i64 k, .int .i64 n, .string s] 27)).alloc (.cells #[.int .i64 (k'), .int .i64 (n'), .string (s')] 27)) 27 #[.int .i64 0, .int .i64 0, .string ⟨#[]⟩]
  rw [World.size_alloc, World.size_alloc] at k_r
  have bb : Below w.heap.size w _ := ((((Below.refl _ _).alloc (Nat.le_refl _) (.cells #[.int .i64 k, .int .i64 n, .string s] 27)).alloc (by simp) (.cells #[.int .i64 (k'), .int .i64 (n'), .string (s')] 27)).alloc (by simp; omega) (.cells #[.int .i64 0, .int .i64 0, .string ⟨#[]⟩] 27))
  generalize (((w.alloc (.cells #[.int .i64 k, .int .i64 n, .string s] 27)).alloc (.cells #[.int .i64 (k'), .int .i64 (n'), .string (s')] 27)).alloc (.cells #[.int .i64 0, .int .i64 0, .string ⟨#[]⟩] 27)) = W0 at *
  refine (H1.out _).mono ?_
  rintro e w1 ⟨rfl, b1⟩
  have k_x := k_x.below b1 k_x.lt
  have k_y := k_y.below b1 k_y.lt
  have k_r := k_r.below b1 k_r.lt
  have bb := bb.trans (b1.mono bb.size)
  have x_x0 : w1.cell? ⟨w.heap.size, 0, none⟩ = some (.int .i64 k) := by rw [k_x.cell]; rfl
  have x_x1 : w1.cell? ⟨w.heap.size, 1, none⟩ = some (.int .i64 n) := by rw [k_x.cell]; rfl
  have x_x2 : w1.cell? ⟨w.heap.size, 2, none⟩ = some (.string s) := by rw [k_x.cell]; rfl
  have l_x := k_x.lt
  have x_y0 : w1.cell? ⟨w.heap.size + 1, 0, none⟩ = some (.int .i64 (k')) := by rw [k_y.cell]; rfl
  have x_y1 : w1.cell? ⟨w.heap.size + 1, 1, none⟩ = some (.int .i64 (n')) := by rw [k_y.cell]; rfl
  have x_y2 : w1.cell? ⟨w.heap.size + 1, 2, none⟩ = some (.string (s')) := by rw [k_y.cell]; rfl
  have l_y := k_y.lt
  have x_r0 : w1.cell? ⟨w.heap.size + 1 + 1, 0, none⟩ = some (.int .i64 0) := by rw [k_r.cell]; rfl
  have x_r1 : w1.cell? ⟨w.heap.size + 1 + 1, 1, none⟩ = some (.int .i64 0) := by rw [k_r.cell]; rfl
  have x_r2 : w1.cell? ⟨w.heap.size + 1 + 1, 2, none⟩ = some (.string ⟨#[]⟩) := by rw [k_r.cell]; rfl
  have l_r := k_r.lt
  have z_r0 := k_r.frozen 0
  have z_r1 := k_r.frozen 1
  have z_r2 := k_r.frozen 2
  go_wp2
  exact bodyPost_ret (v := .tuple #[VS 0 0 ⟨#[]⟩, .int .i64 e1]) (by simp [results, Tryd.results28, go_sem, x_r0, x_r1, x_r2, l_r]) rfl ⟨rfl, ((((bb).setCell (p := ⟨w.heap.size + 1 + 1, 0, none⟩) (by first | exact Nat.le_refl _ | (simp; done) | (simp; omega) | omega) _).setCell (p := ⟨w.heap.size + 1 + 1, 1, none⟩) (by first | exact Nat.le_refl _ | (simp; done) | (simp; omega) | omega) _).setCell (p := ⟨w.heap.size + 1 + 1, 2, none⟩) (by first | exact Nat.le_refl _ | (simp; done) | (simp; omega) | omega) _).alloc (by first | exact bb.size | (simp; exact bb.size) | (have := bb.size; simp; omega)) _⟩
set_option maxHeartbeats 8000000 in
set_option maxRecDepth 100000 in
theorem rb_lt_str (n n' : Int) (u u' : List Nat) (c : Int) (B : Bool) (hc : Hid (Tx.cmpL u u' = c)) (hf : Tx.Fits u) (hf' : Tx.Fits u') (hl : u.length ≤ 4000) (hl' : u'.length ≤ 4000) (HB : Hid ((c = -1 ∧ B = true) ∨ (c = 0 ∧ B = false) ∨ (c = 1 ∧ B = false))) (w : World) :
    Calls Tryd.prog 28 #[.string ⟨#[60]⟩, VS 7 n (Tx.uS u), VS 7 n' (Tx.uS u')] w (Ret (.tuple #[VS 2 (tN B) ⟨#[]⟩, .int .i64 0]) w) := by
  have HL := Lib.hid (list_u u hf hl)
  have HL' := Lib.hid (list_u u' hf' hl')
  have HT := Lib.hid rtruth_any
  go_enter Tryd.func28, Tryd.ntmps28
  go_upto_region 16 with fail
  have k_x := ((Blk.new w 27 #[.int .i64 7, .int .i64 n, .string (Tx.uS u)]).alloc (.cells #[.int .i64 7, .int .i64 (n'), .string (Tx.uS u')] 27)).alloc (.cells #[.int .i64 0, .int .i64 0, .string ⟨#[]⟩] 27)
  have k_y := (Blk.new (w.alloc (.cells #[.int .i64 7, .int .i64 n, .string (Tx.uS u)] 27)) 27 #[.int .i64 7, .int .i64 (n'), .string (Tx.uS u')]).alloc (.cells #[.int .i64 0, .int .i64 0, .string ⟨#[]⟩] 27)
  rw [World.size_alloc] at k_y
  have k_r := Blk.new ((w.alloc (.cells #[.int .i64 7, .int .i64 n, .string (Tx.uS u)] 27)).alloc (.cells #[.int .i64 7, .int .i64 (n'), .string (Tx.uS u')] 27)) 27 #[.int .i64 0, .int .i64 0, .string ⟨#[]⟩]
  rw [World.size_alloc, World.size_alloc] at k_r
  have bb : Below w.heap.size w _ := ((((Below.refl _ _).alloc (Nat.le_refl _) (.cells #[.int .i64 7, .int .i64 n, .string (Tx.uS u)] 27)).alloc (by simp) (.cells #[.int .i64 7, .int .i64 (n'), .string (Tx.uS u')] 27)).alloc (by simp; omega) (.cells #[.int .i64 0, .int .i64 0, .string ⟨#[]⟩] 27))
  generalize (((w.alloc (.cells #[.int .i64 7, .int .i64 n, .string (Tx.uS u)] 27)).alloc (.cells #[.int .i64 7, .int .i64 (n'), .string (Tx.uS u')] 27)).alloc (.cells #[.int .i64 0, .int .i64 0, .string ⟨#[]⟩] 27)) = W0 at *
  go_cut [12] (fun s12 wx => s12 = .int .i64 c ∧ Below w.heap.size w wx ∧ Blk wx (w.heap.size + 2) 27 #[.int .i64 0, .int .i64 0, .string ⟨#[]⟩])
  case first =>
    have k_x := k_x.drew
    have k_y := k_y.drew
    have k_r := k_r.drew
    have bb := bb.drew
    refine wp_region_held_drew (S := (fun W => W.cell? ⟨w.heap.size, 2, none⟩ = some (.string (Tx.uS u)) ∧ W.cell? ⟨w.heap.size + 1, 2, none⟩ = some (.string (Tx.uS u')))) (by kernel_rfl) ⟨by rw [k_x.cell]; rfl, by rw [k_y.cell]; rfl⟩ (fun hHeld => ?_)
    generalize W0.drew = D0 at *
    refine wpAnyH_take (i := 0) (oi := ?oo801) (v := ?vv801) ?hi801 (by kernel_rfl) (by kernel_rfl) (by kernel_rfl) ?hq801 ?hy801 (by assumption) ?hh801
    case hi801 => (simp only [List.getElem?_toArray, List.getElem?_cons_succ, List.getElem?_cons_zero]; rfl)
    case hq801 => exact fun _ _ _ h => h
    case hy801 => exact Or.inl ⟨by rfl, by (intro W hSw; (try dsimp only at hSw); go_simp; (try with_reducible rfl))⟩
    (try simp only [Act.put, List.setIfInBounds_toArray, List.set_cons_zero, List.set_cons_succ])
    refine wpAnyH_take (i := 1) (oi := ?oo802) (v := ?vv802) ?hi802 (by kernel_rfl) (by kernel_rfl) (by kernel_rfl) ?hq802 ?hy802 (by assumption) ?hh802
    case hi802 => (simp only [List.getElem?_toArray, List.getElem?_cons_succ, List.getElem?_cons_zero]; rfl)
    case hq802 => exact fun _ _ _ h => h
    case hy802 => exact Or.inl ⟨by rfl, by (intro W hSw; (try dsimp only at hSw); go_simp; (try with_reducible rfl))⟩
    (try simp only [Act.put, List.setIfInBounds_toArray, List.set_cons_zero, List.set_cons_succ])
    refine wpAnyH_take (i := 3) (oi := ?oo803) (v := ?vv803) ?hi803 (by kernel_rfl) (by kernel_rfl) (by kernel_rfl) ?hq803 ?hy803 (by assumption) ?hh803
    case hi803 => (simp only [List.getElem?_toArray, List.getElem?_cons_succ, List.getElem?_cons_zero]; rfl)
    case hq803 => exact fun _ _ _ h => h
    case hy803 => exact Or.inl ⟨by rfl, by (intro W hSw; (try dsimp only at hSw); go_simp; (try with_reducible rfl))⟩
    (try simp only [Act.put, List.setIfInBounds_toArray, List.set_cons_zero, List.set_cons_succ])
    refine wpAnyH_take (i := 4) (oi := ?oo804) (v := ?vv804) ?hi804 (by kernel_rfl) (by kernel_rfl) (by kernel_rfl) ?hq804 ?hy804 (by assumption) ?hh804
    case hi804 => (simp only [List.getElem?_toArray, List.getElem?_cons_succ, List.getElem?_cons_zero]; rfl)
    case hq804 => exact fun _ _ _ h => h
    case hy804 => exact Or.inl ⟨by rfl, by (intro W hSw; (try dsimp only at hSw); go_simp; (try with_reducible rfl))⟩
    (try simp only [Act.put, List.setIfInBounds_toArray, List.set_cons_zero, List.set_cons_succ])
    refine wpAnyH_ready (rs := [2]) (by kernel_rfl) (by simp) ?_
    refine AllReadyH.cons rfl (fun K hK => ?_) AllReadyH.nil
    go_simp
    go_at_call 47
    refine (HL.out _).mono ?_
    rintro e U1 ⟨a, cap, rfl, hR, bq⟩
    have k_x := k_x.below bq k_x.lt
    have k_y := k_y.below bq k_y.lt
    have k_r := k_r.below bq k_r.lt
    have bb := bb.trans (bq.mono bb.size)
    clear bq
    refine hK.out _ _ ⟨by rw [k_x.cell]; rfl, by rw [k_y.cell]; rfl⟩ (fun hHeld => ?_)
    clear hK K
    (try simp only [Act.put, List.setIfInBounds_toArray, List.set_cons_zero, List.set_cons_succ])
    refine wpAnyH_ready (rs := [5]) (by kernel_rfl) (by simp) ?_
    refine AllReadyH.cons rfl (fun K hK => ?_) AllReadyH.nil
    go_simp
    go_at_call 47
    refine (HL'.out _).mono ?_
    rintro e U2 ⟨a', cap', rfl, hR', bq⟩
    have hR := hR.below bq
    have k_x := k_x.below bq k_x.lt
    have k_y := k_y.below bq k_y.lt
    have k_r := k_r.below bq k_r.lt
    have bb := bb.trans (bq.mono bb.size)
    clear bq
    refine hK.out _ _ ⟨by rw [k_x.cell]; rfl, by rw [k_y.cell]; rfl⟩ (fun hHeld => ?_)
    clear hK K
    (try simp only [Act.put, List.setIfInBounds_toArray, List.set_cons_zero, List.set_cons_succ])
    refine wpAnyH_ready (rs := [6]) (by kernel_rfl) (by simp) ?_
    refine AllReadyH.cons rfl (fun K hK => ?_) AllReadyH.nil
    go_simp
    go_at_call 46
    refine (Tx.refCompare_any _ _ _ _ _ _ _ _ _ hR hR').mono ?_
    rintro e U3 ⟨rfl, dn, rfl⟩
    rw [hc.out]
    have k_x := k_x.drewN dn
    have k_y := k_y.drewN dn
    have k_r := k_r.drewN dn
    have bb := below_drewN bb dn
    refine hK.out _ _ ⟨by rw [k_x.cell]; rfl, by rw [k_y.cell]; rfl⟩ (fun hHeld => ?_)
    clear hK K
    (try simp only [Act.put, List.setIfInBounds_toArray, List.set_cons_zero, List.set_cons_succ])
    refine wpAnyH_take (i := 7) (oi := ?oo805) (v := ?vv805) ?hi805 (by kernel_rfl) (by kernel_rfl) (by kernel_rfl) ?hq805 ?hy805 (by assumption) ?hh805
    case hi805 => (simp only [List.getElem?_toArray, List.getElem?_cons_succ, List.getElem?_cons_zero]; rfl)
    case hq805 => exact fun _ _ _ h => h
    case hy805 => exact Or.inl ⟨by rfl, by (intro W hSw; (try dsimp only at hSw); go_simp; (try with_reducible rfl))⟩
    (try simp only [Act.put, List.setIfInBounds_toArray, List.set_cons_zero, List.set_cons_succ])
    refine wpAnyH_done (by kernel_rfl) ?_ _
    go_wp2_with fail
    go_meet
    exact ⟨rfl, bb, k_r⟩
  case rest =>
  obtain ⟨rfl, bb, k_r⟩ := hcut
  clear hc HL HL'
  have x_r0 := c30 k_r
  have x_r1 := c31 k_r
  have x_r2 := c32 k_r
  have l_r := k_r.lt
  rcases HB.out with ⟨rfl, rfl⟩ | ⟨rfl, rfl⟩ | ⟨rfl, rfl⟩
  · skip
    go_wp2_with fail
    refine (HT.out _ _).mono ?_
    rintro e w1 ⟨rfl, b1⟩
    clear x_r0 x_r1 x_r2 l_r
    have k_r := k_r.below b1 k_r.lt
    have bb := bb.trans (b1.mono bb.size)
    have x_r0 : w1.cell? ⟨w.heap.size + 2, 0, none⟩ = some (.int .i64 0) := by rw [k_r.cell]; rfl
    have x_r1 : w1.cell? ⟨w.heap.size + 2, 1, none⟩ = some (.int .i64 0) := by rw [k_r.cell]; rfl
    have x_r2 : w1.cell? ⟨w.heap.size + 2, 2, none⟩ = some (.string ⟨#[]⟩) := by rw [k_r.cell]; rfl
    have l_r := k_r.lt
    have z_r0 := k_r.frozen 0
    have z_r1 := k_r.frozen 1
    have z_r2 := k_r.frozen 2
    go_wp2
    exact bodyPost_ret (v := (.tuple #[VS 2 (tN true) ⟨#[]⟩, .int .i64 0])) (by simp [results, Tryd.results28, go_sem, x_r0, x_r1, x_r2, l_r]) rfl ⟨rfl, (((bb).setCell (p := ⟨w.heap.size + 2, 0, none⟩) (by first | exact Nat.le_refl _ | (simp; done) | (simp; omega) | omega) _).setCell (p := ⟨w.heap.size + 2, 1, none⟩) (by first | exact Nat.le_refl _ | (simp; done) | (simp; omega) | omega) _).setCell (p := ⟨w.heap.size + 2, 2, none⟩) (by first | exact Nat.le_refl _ | (simp; done) | (simp; omega) | omega) _⟩
  · skip
    go_wp2_with fail
    refine (HT.out _ _).mono ?_
    rintro e w1 ⟨rfl, b1⟩
    clear x_r0 x_r1 x_r2 l_r
    have k_r := k_r.below b1 k_r.lt
    have bb := bb.trans (b1.mono bb.size)
    have x_r0 : w1.cell? ⟨w.heap.size + 2, 0, none⟩ = some (.int .i64 0) := by rw [k_r.cell]; rfl
    have x_r1 : w1.cell? ⟨w.heap.size + 2, 1, none⟩ = some (.int .i64 0) := by rw [k_r.cell]; rfl
    have x_r2 : w1.cell? ⟨w.heap.size + 2, 2, none⟩ = some (.string ⟨#[]⟩) := by rw [k_r.cell]; rfl
    have l_r := k_r.lt
    have z_r0 := k_r.frozen 0
    have z_r1 := k_r.frozen 1
    have z_r2 := k_r.frozen 2
    go_wp2
    exact bodyPost_ret (v := (.tuple #[VS 2 (tN false) ⟨#[]⟩, .int .i64 0])) (by simp [results, Tryd.results28, go_sem, x_r0, x_r1, x_r2, l_r]) rfl ⟨rfl, (((bb).setCell (p := ⟨w.heap.size + 2, 0, none⟩) (by first | exact Nat.le_refl _ | (simp; done) | (simp; omega) | omega) _).setCell (p := ⟨w.heap.size + 2, 1, none⟩) (by first | exact Nat.le_refl _ | (simp; done) | (simp; omega) | omega) _).setCell (p := ⟨w.heap.size + 2, 2, none⟩) (by first | exact Nat.le_refl _ | (simp; done) | (simp; omega) | omega) _⟩
  · skip
    go_wp2_with fail
    refine (HT.out _ _).mono ?_
    rintro e w1 ⟨rfl, b1⟩
    clear x_r0 x_r1 x_r2 l_r
    have k_r := k_r.below b1 k_r.lt
    have bb := bb.trans (b1.mono bb.size)
    have x_r0 : w1.cell? ⟨w.heap.size + 2, 0, none⟩ = some (.int .i64 0) := by rw [k_r.cell]; rfl
    have x_r1 : w1.cell? ⟨w.heap.size + 2, 1, none⟩ = some (.int .i64 0) := by rw [k_r.cell]; rfl
    have x_r2 : w1.cell? ⟨w.heap.size + 2, 2, none⟩ = some (.string ⟨#[]⟩) := by rw [k_r.cell]; rfl
    have l_r := k_r.lt
    have z_r0 := k_r.frozen 0
    have z_r1 := k_r.frozen 1
    have z_r2 := k_r.frozen 2
    go_wp2
    exact bodyPost_ret (v := (.tuple #[VS 2 (tN false) ⟨#[]⟩, .int .i64 0])) (by simp [results, Tryd.results28, go_sem, x_r0, x_r1, x_r2, l_r]) rfl ⟨rfl, (((bb).setCell (p := ⟨w.heap.size + 2, 0, none⟩) (by first | exact Nat.le_refl _ | (simp; done) | (simp; omega) | omega) _).setCell (p := ⟨w.heap.size + 2, 1, none⟩) (by first | exact Nat.le_refl _ | (simp; done) | (simp; omega) | omega) _).setCell (p := ⟨w.heap.size + 2, 2, none⟩) (by first | exact Nat.le_refl _ | (simp; done) | (simp; omega) | omega) _⟩
set_option maxHeartbeats 8000000 in
set_option maxRecDepth 100000 in
theorem rb_gt_str (n n' : Int) (u u' : List Nat) (c : Int) (B : Bool) (hc : Hid (Tx.cmpL u u' = c)) (hf : Tx.Fits u) (hf' : Tx.Fits u') (hl : u.length ≤ 4000) (hl' : u'.length ≤ 4000) (HB : Hid ((c = -1 ∧ B = false) ∨ (c = 0 ∧ B = false) ∨ (c = 1 ∧ B = true))) (w : World) :
    Calls Tryd.prog 28 #[.string ⟨#[62]⟩, VS 7 n (Tx.uS u), VS 7 n' (Tx.uS u')] w (Ret (.tuple #[VS 2 (tN B) ⟨#[]⟩, .int .i64 0]) w) := by
  have HL := Lib.hid (list_u u hf hl)
  have HL' := Lib.hid (list_u u' hf' hl')
  have HT := Lib.hid rtruth_any
  go_enter Tryd.func28, Tryd.ntmps28
  go_upto_region 16 with fail
  have k_x := ((Blk.new w 27 #[.int .i64 7, .int .i64 n, .string (Tx.uS u)]).alloc (.cells #[.int .i64 7, .int .i64 (n'), .string (Tx.uS u')] 27)).alloc (.cells #[.int .i64 0, .int .i64 0, .string ⟨#[]⟩] 27)
  have k_y := (Blk.new (w.alloc (.cells #[.int .i64 7, .int .i64 n, .string (Tx.uS u)] 27)) 27 #[.int .i64 7, .int .i64 (n'), .string (Tx.uS u')]).alloc (.cells #[.int .i64 0, .int .i64 0, .string ⟨#[]⟩] 27)
  rw [World.size_alloc] at k_y
  have k_r := Blk.new ((w.alloc (.cells #[.int .i64 7, .int .i64 n, .string (Tx.uS u)] 27)).alloc (.cells #[.int .i64 7, .int .i64 (n'), .string (Tx.uS u')] 27)) 27 #[.int .i64 0, .int .i64 0, .string ⟨#[]⟩]
  rw [World.size_alloc, World.size_alloc] at k_r
  have bb : Below w.heap.size w _ := ((((Below.refl _ _).alloc (Nat.le_refl _) (.cells #[.int .i64 7, .int .i64 n, .string (Tx.uS u)] 27)).alloc (by simp) (.cells #[.int .i64 7, .int .i64 (n'), .string (Tx.uS u')] 27)).alloc (by simp; omega) (.cells #[.int .i64 0, .int .i64 0, .string ⟨#[]⟩] 27))
  generalize (((w.alloc (.cells #[.int .i64 7, .int .i64 n, .string (Tx.uS u)] 27)).alloc (.cells #[.int .i64 7, .int .i64 (n'), .string (Tx.uS u')] 27)).alloc (.cells #[.int .i64 0, .int .i64 0, .string ⟨#[]⟩] 27)) = W0 at *
  go_cut [12] (fun s12 wx => s12 = .int .i64 c ∧ Below w.heap.size w wx ∧ Blk wx (w.heap.size + 2) 27 #[.int .i64 0, .int .i64 0, .string ⟨#[]⟩])
  case first =>
    have k_x := k_x.drew
    have k_y := k_y.drew
    have k_r := k_r.drew
    have bb := bb.drew
    refine wp_region_held_drew (S := (fun W => W.cell? ⟨w.heap.size, 2, none⟩ = some (.string (Tx.uS u)) ∧ W.cell? ⟨w.heap.size + 1, 2, none⟩ = some (.string (Tx.uS u')))) (by kernel_rfl) ⟨by rw [k_x.cell]; rfl, by rw [k_y.cell]; rfl⟩ (fun hHeld => ?_)
    generalize W0.drew = D0 at *
    refine wpAnyH_take (i := 0) (oi := ?oo801) (v := ?vv801) ?hi801 (by kernel_rfl) (by kernel_rfl) (by kernel_rfl) ?hq801 ?hy801 (by assumption) ?hh801
    case hi801 => (simp only [List.getElem?_toArray, List.getElem?_cons_succ, List.getElem?_cons_zero]; rfl)
    case hq801 => exact fun _ _ _ h => h
    case hy801 => exact Or.inl ⟨by rfl, by (intro W hSw; (try dsimp only at hSw); go_simp; (try with_reducible rfl))⟩
    (try simp only [Act.put, List.setIfInBounds_toArray, List.set_cons_zero, List.set_cons_succ])
    refine wpAnyH_take (i := 1) (oi := ?oo802) (v := ?vv802) ?hi802 (by kernel_rfl) (by kernel_rfl) (by kernel_rfl) ?hq802 ?hy802 (by assumption) ?hh802
    case hi802 => (simp only [List.getElem?_toArray, List.getElem?_cons_succ, List.getElem?_cons_zero]; rfl)
    case hq802 => exact fun _ _ _ h => h
    case hy802 => exact Or.inl ⟨by rfl, by (intro W hSw; (try dsimp only at hSw); go_simp; (try with_reducible rfl))⟩
    (try simp only [Act.put, List.setIfInBounds_toArray, List.set_cons_zero, List.set_cons_succ])
    refine wpAnyH_take (i := 3) (oi := ?oo803) (v := ?vv803) ?hi803 (by kernel_rfl) (by kernel_rfl) (by kernel_rfl) ?hq803 ?hy803 (by assumption) ?hh803
    case hi803 => (simp only [List.getElem?_toArray, List.getElem?_cons_succ, List.getElem?_cons_zero]; rfl)
    case hq803 => exact fun _ _ _ h => h
    case hy803 => exact Or.inl ⟨by rfl, by (intro W hSw; (try dsimp only at hSw); go_simp; (try with_reducible rfl))⟩
    (try simp only [Act.put, List.setIfInBounds_toArray, List.set_cons_zero, List.set_cons_succ])
    refine wpAnyH_take (i := 4) (oi := ?oo804) (v := ?vv804) ?hi804 (by kernel_rfl) (by kernel_rfl) (by kernel_rfl) ?hq804 ?hy804 (by assumption) ?hh804
    case hi804 => (simp only [List.getElem?_toArray, List.getElem?_cons_succ, List.getElem?_cons_zero]; rfl)
    case hq804 => exact fun _ _ _ h => h
    case hy804 => exact Or.inl ⟨by rfl, by (intro W hSw; (try dsimp only at hSw); go_simp; (try with_reducible rfl))⟩
    (try simp only [Act.put, List.setIfInBounds_toArray, List.set_cons_zero, List.set_cons_succ])
    refine wpAnyH_ready (rs := [2]) (by kernel_rfl) (by simp) ?_
    refine AllReadyH.cons rfl (fun K hK => ?_) AllReadyH.nil
    go_simp
    go_at_call 47
    refine (HL.out _).mono ?_
    rintro e U1 ⟨a, cap, rfl, hR, bq⟩
    have k_x := k_x.below bq k_x.lt
    have k_y := k_y.below bq k_y.lt
    have k_r := k_r.below bq k_r.lt
    have bb := bb.trans (bq.mono bb.size)
    clear bq
    refine hK.out _ _ ⟨by rw [k_x.cell]; rfl, by rw [k_y.cell]; rfl⟩ (fun hHeld => ?_)
    clear hK K
    (try simp only [Act.put, List.setIfInBounds_toArray, List.set_cons_zero, List.set_cons_succ])
    refine wpAnyH_ready (rs := [5]) (by kernel_rfl) (by simp) ?_
    refine AllReadyH.cons rfl (fun K hK => ?_) AllReadyH.nil
    go_simp
    go_at_call 47
    refine (HL'.out _).mono ?_
    rintro e U2 ⟨a', cap', rfl, hR', bq⟩
    have hR := hR.below bq
    have k_x := k_x.below bq k_x.lt
    have k_y := k_y.below bq k_y.lt
    have k_r := k_r.below bq k_r.lt
    have bb := bb.trans (bq.mono bb.size)
    clear bq
    refine hK.out _ _ ⟨by rw [k_x.cell]; rfl, by rw [k_y.cell]; rfl⟩ (fun hHeld => ?_)
    clear hK K
    (try simp only [Act.put, List.setIfInBounds_toArray, List.set_cons_zero, List.set_cons_succ])
    refine wpAnyH_ready (rs := [6]) (by kernel_rfl) (by simp) ?_
    refine AllReadyH.cons rfl (fun K hK => ?_) AllReadyH.nil
    go_simp
    go_at_call 46
    refine (Tx.refCompare_any _ _ _ _ _ _ _ _ _ hR hR').mono ?_
    rintro e U3 ⟨rfl, dn, rfl⟩
    rw [hc.out]
    have k_x := k_x.drewN dn
    have k_y := k_y.drewN dn
    have k_r := k_r.drewN dn
    have bb := below_drewN bb dn
    refine hK.out _ _ ⟨by rw [k_x.cell]; rfl, by rw [k_y.cell]; rfl⟩ (fun hHeld => ?_)
    clear hK K
    (try simp only [Act.put, List.setIfInBounds_toArray, List.set_cons_zero, List.set_cons_succ])
    refine wpAnyH_take (i := 7) (oi := ?oo805) (v := ?vv805) ?hi805 (by kernel_rfl) (by kernel_rfl) (by kernel_rfl) ?hq805 ?hy805 (by assumption) ?hh805
    case hi805 => (simp only [List.getElem?_toArray, List.getElem?_cons_succ, List.getElem?_cons_zero]; rfl)
    case hq805 => exact fun _ _ _ h => h
    case hy805 => exact Or.inl ⟨by rfl, by (intro W hSw; (try dsimp only at hSw); go_simp; (try with_reducible rfl))⟩
    (try simp only [Act.put, List.setIfInBounds_toArray, List.set_cons_zero, List.set_cons_succ])
    refine wpAnyH_done (by kernel_rfl) ?_ _
    go_wp2_with fail
    go_meet
    exact ⟨rfl, bb, k_r⟩
  case rest =>
  obtain ⟨rfl, bb, k_r⟩ := hcut
  clear hc HL HL'
  have x_r0 := c30 k_r
  have x_r1 := c31 k_r
  have x_r2 := c32 k_r
  have l_r := k_r.lt
  rcases HB.out with ⟨rfl, rfl⟩ | ⟨rfl, rfl⟩ | ⟨rfl, rfl⟩
  · skip
    go_wp2_with fail
    refine (HT.out _ _).mono ?_
    rintro e w1 ⟨rfl, b1⟩
    clear x_r0 x_r1 x_r2 l_r
    have k_r := k_r.below b1 k_r.lt
    have bb := bb.trans (b1.mono bb.size)
    have x_r0 : w1.cell? ⟨w.heap.size + 2, 0, none⟩ = some (.int .i64 0) := by rw [k_r.cell]; rfl
    have x_r1 : w1.cell? ⟨w.heap.size + 2, 1, none⟩ = some (.int .i64 0) := by rw [k_r.cell]; rfl
    have x_r2 : w1.cell? ⟨w.heap.size + 2, 2, none⟩ = some (.string ⟨#[]⟩) := by rw [k_r.cell]; rfl
    have l_r := k_r.lt
    have z_r0 := k_r.frozen 0
    have z_r1 := k_r.frozen 1
    have z_r2 := k_r.frozen 2
    go_wp2
    exact bodyPost_ret (v := (.tuple #[VS 2 (tN false) ⟨#[]⟩, .int .i64 0])) (by simp [results, Tryd.results28, go_sem, x_r0, x_r1, x_r2, l_r]) rfl ⟨rfl, (((bb).setCell (p := ⟨w.heap.size + 2, 0, none⟩) (by first | exact Nat.le_refl _ | (simp; done) | (simp; omega) | omega) _).setCell (p := ⟨w.heap.size + 2, 1, none⟩) (by first | exact Nat.le_refl _ | (simp; done) | (simp; omega) | omega) _).setCell (p := ⟨w.heap.size + 2, 2, none⟩) (by first | exact Nat.le_refl _ | (simp; done) | (simp; omega) | omega) _⟩
  · skip
    go_wp2_with fail
    refine (HT.out _ _).mono ?_
    rintro e w1 ⟨rfl, b1⟩
    clear x_r0 x_r1 x_r2 l_r
    have k_r := k_r.below b1 k_r.lt
    have bb := bb.trans (b1.mono bb.size)
    have x_r0 : w1.cell? ⟨w.heap.size + 2, 0, none⟩ = some (.int .i64 0) := by rw [k_r.cell]; rfl
    have x_r1 : w1.cell? ⟨w.heap.size + 2, 1, none⟩ = some (.int .i64 0) := by rw [k_r.cell]; rfl
    have x_r2 : w1.cell? ⟨w.heap.size + 2, 2, none⟩ = some (.string ⟨#[]⟩) := by rw [k_r.cell]; rfl
    have l_r := k_r.lt
    have z_r0 := k_r.frozen 0
    have z_r1 := k_r.frozen 1
    have z_r2 := k_r.frozen 2
    go_wp2
    exact bodyPost_ret (v := (.tuple #[VS 2 (tN false) ⟨#[]⟩, .int .i64 0])) (by simp [results, Tryd.results28, go_sem, x_r0, x_r1, x_r2, l_r]) rfl ⟨rfl, (((bb).setCell (p := ⟨w.heap.size + 2, 0, none⟩) (by first | exact Nat.le_refl _ | (simp; done) | (simp; omega) | omega) _).setCell (p := ⟨w.heap.size + 2, 1, none⟩) (by first | exact Nat.le_refl _ | (simp; done) | (simp; omega) | omega) _).setCell (p := ⟨w.heap.size + 2, 2, none⟩) (by first | exact Nat.le_refl _ | (simp; done) | (simp; omega) | omega) _⟩
  · skip
    go_wp2_with fail
    refine (HT.out _ _).mono ?_
    rintro e w1 ⟨rfl, b1⟩
    clear x_r0 x_r1 x_r2 l_r
    have k_r := k_r.below b1 k_r.lt
    have bb := bb.trans (b1.mono bb.size)
    have x_r0 : w1.cell? ⟨w.heap.size + 2, 0, none⟩ = some (.int .i64 0) := by rw [k_r.cell]; rfl
    have x_r1 : w1.cell? ⟨w.heap.size + 2, 1, none⟩ = some (.int .i64 0) := by rw [k_r.cell]; rfl
    have x_r2 : w1.cell? ⟨w.heap.size + 2, 2, none⟩ = some (.string ⟨#[]⟩) := by rw [k_r.cell]; rfl
    have l_r := k_r.lt
    have z_r0 := k_r.frozen 0
    have z_r1 := k_r.frozen 1
    have z_r2 := k_r.frozen 2
    go_wp2
    exact bodyPost_ret (v := (.tuple #[VS 2 (tN true) ⟨#[]⟩, .int .i64 0])) (by simp [results, Tryd.results28, go_sem, x_r0, x_r1, x_r2, l_r]) rfl ⟨rfl, (((bb).setCell (p := ⟨w.heap.size + 2, 0, none⟩) (by first | exact Nat.le_refl _ | (simp; done) | (simp; omega) | omega) _).setCell (p := ⟨w.heap.size + 2, 1, none⟩) (by first | exact Nat.le_refl _ | (simp; done) | (simp; omega) | omega) _).setCell (p := ⟨w.heap.size + 2, 2, none⟩) (by first | exact Nat.le_refl _ | (simp; done) | (simp; omega) | omega) _⟩
set_option maxHeartbeats 8000000 in
set_option maxRecDepth 100000 in
theorem rb_le_str (n n' : Int) (u u' : List Nat) (c : Int) (B : Bool) (hc : Hid (Tx.cmpL u u' = c)) (hf : Tx.Fits u) (hf' : Tx.Fits u') (hl : u.length ≤ 4000) (hl' : u'.length ≤ 4000) (HB : Hid ((c = -1 ∧ B = true) ∨ (c = 0 ∧ B = true) ∨ (c = 1 ∧ B = false))) (w : World) :
    Calls Tryd.prog 28 #[.string ⟨#[60, 61]⟩, VS 7 n (Tx.uS u), VS 7 n' (Tx.uS u')] w (Ret (.tuple #[VS 2 (tN B) ⟨#[]⟩, .int .i64 0]) w) := by
  have HL := Lib.hid (list_u u hf hl)
  have HL' := Lib.hid (list_u u' hf' hl')
  have HT := Lib.hid rtruth_any
  go_enter Tryd.func28, Tryd.ntmps28
  go_upto_region 16 with fail
  have k_x := ((Blk.new w 27 #[.int .i64 7, .int .i64 n, .string (Tx.uS u)]).alloc (.cells #[.int .i64 7, .int .i64 (n'), .string (Tx.uS u')] 27)).alloc (.cells #[.int .i64 0, .int .i64 0, .string ⟨#[]⟩] 27)
  have k_y := (Blk.new (w.alloc (.cells #[.int .i64 7, .int .i64 n, .string (Tx.uS u)] 27)) 27 #[.int .i64 7, .int .i64 (n'), .string (Tx.uS u')]).alloc (.cells #[.int .i64 0, .int .i64 0, .string ⟨#[]⟩] 27)
  rw [World.size_alloc] at k_y
  have k_r := Blk.new ((w.alloc (.cells #[.int .i64 7, .int .i64 n, .string (Tx.uS u)] 27)).alloc (.cells #[.int .i64 7, .int .i64 (n'), .string (Tx.uS u')] 27)) 27 #[.int .i64 0, .int .i64 0, .string ⟨#[]⟩]
  rw [World.size_alloc, World.size_alloc] at k_r
  have bb : Below w.heap.size w _ := ((((Below.refl _ _).alloc (Nat.le_refl _) (.cells #[.int .i64 7, .int .i64 n, .string (Tx.uS u)] 27)).alloc (by simp) (.cells #[.int .i64 7, .int .i64 (n'), .string (Tx.uS u')] 27)).alloc (by simp; omega) (.cells #[.int .i64 0, .int .i64 0, .string ⟨#[]⟩] 27))
  generalize (((w.alloc (.cells #[.int .i64 7, .int .i64 n, .string (Tx.uS u)] 27)).alloc (.cells #[.int .i64 7, .int .i64 (n'), .string (Tx.uS u')] 27)).alloc (.cells #[.int .i64 0, .int .i64 0, .string ⟨#[]⟩] 27)) = W0 at *
  go_cut [12] (fun s12 wx => s12 = .int .i64 c ∧ Below w.heap.size w wx ∧ Blk wx (w.heap.size + 2) 27 #[.int .i64 0, .int .i64 0, .string ⟨#[]⟩])
  case first =>
    have k_x := k_x.drew
    have k_y := k_y.drew
    have k_r := k_r.drew
    have bb := bb.drew
    refine wp_region_held_drew (S := (fun W => W.cell? ⟨w.heap.size, 2, none⟩ = some (.string (Tx.uS u)) ∧ W.cell? ⟨w.heap.size + 1, 2, none⟩ = some (.string (Tx.uS u')))) (by kernel_rfl) ⟨by rw [k_x.cell]; rfl, by rw [k_y.cell]; rfl⟩ (fun hHeld => ?_)
    generalize W0.drew = D0 at *
    refine wpAnyH_take (i := 0) (oi := ?oo801) (v := ?vv801) ?hi801 (by kernel_rfl) (by kernel_rfl) (by kernel_rfl) ?hq801 ?hy801 (by assumption) ?hh801
    case hi801 => (simp only [List.getElem?_toArray, List.getElem?_cons_succ, List.getElem?_cons_zero]; rfl)
    case hq801 => exact fun _ _ _ h => h
    case hy801 => exact Or.inl ⟨by rfl, by (intro W hSw; (try dsimp only at hSw); go_simp; (try with_reducible rfl))⟩
    (try simp only [Act.put, List.setIfInBounds_toArray, List.set_cons_zero, List.set_cons_succ])
    refine wpAnyH_take (i := 1) (oi := ?oo802) (v := ?vv802) ?hi802 (by kernel_rfl) (by kernel_rfl) (by kernel_rfl) ?hq802 ?hy802 (by assumption) ?hh802
    case hi802 => (simp only [List.getElem?_toArray, List.getElem?_cons_succ, List.getElem?_cons_zero]; rfl)
    case hq802 => exact fun _ _ _ h => h
    case hy802 => exact Or.inl ⟨by rfl, by (intro W hSw; (try dsimp only at hSw); go_simp; (try with_reducible rfl))⟩
    (try simp only [Act.put, List.setIfInBounds_toArray, List.set_cons_zero, List.set_cons_succ])
    refine wpAnyH_take (i := 3) (oi := ?oo803) (v := ?vv803) ?hi803 (by kernel_rfl) (by kernel_rfl) (by kernel_rfl) ?hq803 ?hy803 (by assumption) ?hh803
    case hi803 => (simp only [List.getElem?_toArray, List.getElem?_cons_succ, List.getElem?_cons_zero]; rfl)
    case hq803 => exact fun _ _ _ h => h
    case hy803 => exact Or.inl ⟨by rfl, by (intro W hSw; (try dsimp only at hSw); go_simp; (try with_reducible rfl))⟩
    (try simp only [Act.put, List.setIfInBounds_toArray, List.set_cons_zero, List.set_cons_succ])
    refine wpAnyH_take (i := 4) (oi := ?oo804) (v := ?vv804) ?hi804 (by kernel_rfl) (by kernel_rfl) (by kernel_rfl) ?hq804 ?hy804 (by assumption) ?hh804
    case hi804 => (simp only [List.getElem?_toArray, List.getElem?_cons_succ, List.getElem?_cons_zero]; rfl)
    case hq804 => exact fun _ _ _ h => h
    case hy804 => exact Or.inl ⟨by rfl, by (intro W hSw; (try dsimp only at hSw); go_simp; (try with_reducible rfl))⟩
    (try simp only [Act.put, List.setIfInBounds_toArray, List.set_cons_zero, List.set_cons_succ])
    refine wpAnyH_ready (rs := [2]) (by kernel_rfl) (by simp) ?_
    refine AllReadyH.cons rfl (fun K hK => ?_) AllReadyH.nil
    go_simp
    go_at_call 47
    refine (HL.out _).mono ?_
    rintro e U1 ⟨a, cap, rfl, hR, bq⟩
    have k_x := k_x.below bq k_x.lt
    have k_y := k_y.below bq k_y.lt
    have k_r := k_r.below bq k_r.lt
    have bb := bb.trans (bq.mono bb.size)
    clear bq
    refine hK.out _ _ ⟨by rw [k_x.cell]; rfl, by rw [k_y.cell]; rfl⟩ (fun hHeld => ?_)
    clear hK K
    (try simp only [Act.put, List.setIfInBounds_toArray, List.set_cons_zero, List.set_cons_succ])
    refine wpAnyH_ready (rs := [5]) (by kernel_rfl) (by simp) ?_
    refine AllReadyH.cons rfl (fun K hK => ?_) AllReadyH.nil
    go_simp
    go_at_call 47
    refine (HL'.out _).mono ?_
    rintro e U2 ⟨a', cap', rfl, hR', bq⟩
    have hR := hR.below bq
    have k_x := k_x.below bq k_x.lt
    have k_y := k_y.below bq k_y.lt
    have k_r := k_r.below bq k_r.lt
    have bb := bb.trans (bq.mono bb.size)
    clear bq
    refine hK.out _ _ ⟨by rw [k_x.cell]; rfl, by rw [k_y.cell]; rfl⟩ (fun hHeld => ?_)
    clear hK K
    (try simp only [Act.put, List.setIfInBounds_toArray, List.set_cons_zero, List.set_cons_succ])
    refine wpAnyH_ready (rs := [6]) (by kernel_rfl) (by simp) ?_
    refine AllReadyH.cons rfl (fun K hK => ?_) AllReadyH.nil
    go_simp
    go_at_call 46
    refine (Tx.refCompare_any _ _ _ _ _ _ _ _ _ hR hR').mono ?_
    rintro e U3 ⟨rfl, dn, rfl⟩
    rw [hc.out]
    have k_x := k_x.drewN dn
    have k_y := k_y.drewN dn
    have k_r := k_r.drewN dn
    have bb := below_drewN bb dn
    refine hK.out _ _ ⟨by rw [k_x.cell]; rfl, by rw [k_y.cell]; rfl⟩ (fun hHeld => ?_)
    clear hK K
    (try simp only [Act.put, List.setIfInBounds_toArray, List.set_cons_zero, List.set_cons_succ])
    refine wpAnyH_take (i := 7) (oi := ?oo805) (v := ?vv805) ?hi805 (by kernel_rfl) (by kernel_rfl) (by kernel_rfl) ?hq805 ?hy805 (by assumption) ?hh805
    case hi805 => (simp only [List.getElem?_toArray, List.getElem?_cons_succ, List.getElem?_cons_zero]; rfl)
    case hq805 => exact fun _ _ _ h => h
    case hy805 => exact Or.inl ⟨by rfl, by (intro W hSw; (try dsimp only at hSw); go_simp; (try with_reducible rfl))⟩
    (try simp only [Act.put, List.setIfInBounds_toArray, List.set_cons_zero, List.set_cons_succ])
    refine wpAnyH_done (by kernel_rfl) ?_ _
    go_wp2_with fail
    go_meet
    exact ⟨rfl, bb, k_r⟩
  case rest =>
  obtain ⟨rfl, bb, k_r⟩ := hcut
  clear hc HL HL'
  have x_r0 := c30 k_r
  have x_r1 := c31 k_r
  have x_r2 := c32 k_r
  have l_r := k_r.lt
  rcases HB.out with ⟨rfl, rfl⟩ | ⟨rfl, rfl⟩ | ⟨rfl, rfl⟩
  · skip
    go_wp2_with fail
    refine (HT.out _ _).mono ?_
    rintro e w1 ⟨rfl, b1⟩
    clear x_r0 x_r1 x_r2 l_r
    have k_r := k_r.below b1 k_r.lt
    have bb := bb.trans (b1.mono bb.size)
    have x_r0 : w1.cell? ⟨w.heap.size + 2, 0, none⟩ = some (.int .i64 0) := by rw [k_r.cell]; rfl
    have x_r1 : w1.cell? ⟨w.heap.size + 2, 1, none⟩ = some (.int .i64 0) := by rw [k_r.cell]; rfl
    have x_r2 : w1.cell? ⟨w.heap.size + 2, 2, none⟩ = some (.string ⟨#[]⟩) := by rw [k_r.cell]; rfl
    have l_r := k_r.lt
    have z_r0 := k_r.frozen 0
    have z_r1 := k_r.frozen 1
    have z_r2 := k_r.frozen 2
    go_wp2
    exact bodyPost_ret (v := (.tuple #[VS 2 (tN true) ⟨#[]⟩, .int .i64 0])) (by simp [results, Tryd.results28, go_sem, x_r0, x_r1, x_r2, l_r]) rfl ⟨rfl, (((bb).setCell (p := ⟨w.heap.size + 2, 0, none⟩) (by first | exact Nat.le_refl _ | (simp; done) | (simp; omega) | omega) _).setCell (p := ⟨w.heap.size + 2, 1, none⟩) (by first | exact Nat.le_refl _ | (simp; done) | (simp; omega) | omega) _).setCell (p := ⟨w.heap.size + 2, 2, none⟩) (by first | exact Nat.le_refl _ | (simp; done) | (simp; omega) | omega) _⟩
  · skip
    go_wp2_with fail
    refine (HT.out _ _).mono ?_
    rintro e w1 ⟨rfl, b1⟩
    clear x_r0 x_r1 x_r2 l_r
    have k_r := k_r.below b1 k_r.lt
    have bb := bb.trans (b1.mono bb.size)
    have x_r0 : w1.cell? ⟨w.heap.size + 2, 0, none⟩ = some (.int .i64 0) := by rw [k_r.cell]; rfl
    have x_r1 : w1.cell? ⟨w.heap.size + 2, 1, none⟩ = some (.int .i64 0) := by rw [k_r.cell]; rfl
    have x_r2 : w1.cell? ⟨w.heap.size + 2, 2, none⟩ = some (.string ⟨#[]⟩) := by rw [k_r.cell]; rfl
    have l_r := k_r.lt
    have z_r0 := k_r.frozen 0
    have z_r1 := k_r.frozen 1
    have z_r2 := k_r.frozen 2
    go_wp2
    exact bodyPost_ret (v := (.tuple #[VS 2 (tN true) ⟨#[]⟩, .int .i64 0])) (by simp [results, Tryd.results28, go_sem, x_r0, x_r1, x_r2, l_r]) rfl ⟨rfl, (((bb).setCell (p := ⟨w.heap.size + 2, 0, none⟩) (by first | exact Nat.le_refl _ | (simp; done) | (simp; omega) | omega) _).setCell (p := ⟨w.heap.size + 2, 1, none⟩) (by first | exact Nat.le_refl _ | (simp; done) | (simp; omega) | omega) _).setCell (p := ⟨w.heap.size + 2, 2, none⟩) (by first | exact Nat.le_refl _ | (simp; done) | (simp; omega) | omega) _⟩
  · skip
    go_wp2_with fail
    refine (HT.out _ _).mono ?_
    rintro e w1 ⟨rfl, b1⟩
    clear x_r0 x_r1 x_r2 l_r
    have k_r := k_r.below b1 k_r.lt
    have bb := bb.trans (b1.mono bb.size)
    have x_r0 : w1.cell? ⟨w.heap.size + 2, 0, none⟩ = some (.int .i64 0) := by rw [k_r.cell]; rfl
    have x_r1 : w1.cell? ⟨w.heap.size + 2, 1, none⟩ = some (.int .i64 0) := by rw [k_r.cell]; rfl
    have x_r2 : w1.cell? ⟨w.heap.size + 2, 2, none⟩ = some (.string ⟨#[]⟩) := by rw [k_r.cell]; rfl
    have l_r := k_r.lt
    have z_r0 := k_r.frozen 0
    have z_r1 := k_r.frozen 1
    have z_r2 := k_r.frozen 2
    go_wp2
    exact bodyPost_ret (v := (.tuple #[VS 2 (tN false) ⟨#[]⟩, .int .i64 0])) (by simp [results, Tryd.results28, go_sem, x_r0, x_r1, x_r2, l_r]) rfl ⟨rfl, (((bb).setCell (p := ⟨w.heap.size + 2, 0, none⟩) (by first | exact Nat.le_refl _ | (simp; done) | (simp; omega) | omega) _).setCell (p := ⟨w.heap.size + 2, 1, none⟩) (by first | exact Nat.le_refl _ | (simp; done) | (simp; omega) | omega) _).setCell (p := ⟨w.heap.size + 2, 2, none⟩) (by first | exact Nat.le_refl _ | (simp; done) | (simp; omega) | omega) _⟩
set_option maxHeartbeats 8000000 in
set_option maxRecDepth 100000 in
theorem rb_ge_str (n n' : Int) (u u' : List Nat) (c : Int) (B : Bool) (hc : Hid (Tx.cmpL u u' = c)) (hf : Tx.Fits u) (hf' : Tx.Fits u') (hl : u.length ≤ 4000) (hl' : u'.length ≤ 4000) (HB : Hid ((c = -1 ∧ B = false) ∨ (c = 0 ∧ B = true) ∨ (c = 1 ∧ B = true))) (w : World) :
    Calls Tryd.prog 28 #[.string ⟨#[62, 61]⟩, VS 7 n (Tx.uS u), VS 7 n' (Tx.uS u')] w (Ret (.tuple #[VS 2 (tN B) ⟨#[]⟩, .int .i64 0]) w) := by
  have HL := Lib.hid (list_u u hf hl)
  have HL' := Lib.hid (list_u u' hf' hl')
  have HT := Lib.hid rtruth_any
  go_enter Tryd.func28, Tryd.ntmps28
  go_upto_region 16 with fail
  have k_x := ((Blk.new w 27 #[.int .i64 7, .int .i64 n, .string (Tx.uS u)]).alloc (.cells #[.int .i64 7, .int .i64 (n'), .string (Tx.uS u')] 27)).alloc (.cells #[.int .i64 0, .int .i64 0, .string ⟨#[]⟩] 27)
  have k_y := (Blk.new (w.alloc (.cells #[.int .i64 7, .int .i64 n, .string (Tx.uS u)] 27)) 27 #[.int .i64 7, .int .i64 (n'), .string (Tx.uS u')]).alloc (.cells #[.int .i64 0, .int .i64 0, .string ⟨#[]⟩] 27)
  rw [World.size_alloc] at k_y
  have k_r := Blk.new ((w.alloc (.cells #[.int .i64 7, .int .i64 n, .string (Tx.uS u)] 27)).alloc (.cells #[.int .i64 7, .int .i64 (n'), .string (Tx.uS u')] 27)) 27 #[.int .i64 0, .int .i64 0, .string ⟨#[]⟩]
  rw [World.size_alloc, World.size_alloc] at k_r
  have bb : Below w.heap.size w _ := ((((Below.refl _ _).alloc (Nat.le_refl _) (.cells #[.int .i64 7, .int .i64 n, .string (Tx.uS u)] 27)).alloc (by simp) (.cells #[.int .i64 7, .int .i64 (n'), .string (Tx.uS u')] 27)).alloc (by simp; omega) (.cells #[.int .i64 0, .int .i64 0, .string ⟨#[]⟩] 27))
  generalize (((w.alloc (.cells #[.int .i64 7, .int .i64 n, .string (Tx.uS u)] 27)).alloc (.cells #[.int .i64 7, .int .i64 (n'), .string (Tx.uS u')] 27)).alloc (.cells #[.int .i64 0, .int .i64 0, .string ⟨#[]⟩] 27)) = W0 at *
  go_cut [12] (fun s12 wx => s12 = .int .i64 c ∧ Below w.heap.size w wx ∧ Blk wx (w.heap.size + 2) 27 #[.int .i64 0, .int .i64 0, .string ⟨#[]⟩])
  case first =>
    have k_x := k_x.drew
    have k_y := k_y.drew
    have k_r := k_r.drew
    have bb := bb.drew
    refine wp_region_held_drew (S := (fun W => W.cell? ⟨w.heap.size, 2, none⟩ = some (.string (Tx.uS u)) ∧ W.cell? ⟨w.heap.size + 1, 2, none⟩ = some (.string (Tx.uS u')))) (by kernel_rfl) ⟨by rw [k_x.cell]; rfl, by rw [k_y.cell]; rfl⟩ (fun hHeld => ?_)
    generalize W0.drew = D0 at *
    refine wpAnyH_take (i := 0) (oi := ?oo801) (v := ?vv801) ?hi801 (by kernel_rfl) (by kernel_rfl) (by kernel_rfl) ?hq801 ?hy801 (by assumption) ?hh801
    case hi801 => (simp only [List.getElem?_toArray, List.getElem?_cons_succ, List.getElem?_cons_zero]; rfl)
    case hq801 => exact fun _ _ _ h => h
    case hy801 => exact Or.inl ⟨by rfl, by (intro W hSw; (try dsimp only at hSw); go_simp; (try with_reducible rfl))⟩
    (try simp only [Act.put, List.setIfInBounds_toArray, List.set_cons_zero, List.set_cons_succ])
    refine wpAnyH_take (i := 1) (oi := ?oo802) (v := ?vv802) ?hi802 (by kernel_rfl) (by kernel_rfl) (by kernel_rfl) ?hq802 ?hy802 (by assumption) ?hh802
    case hi802 => (simp only [List.getElem?_toArray, List.getElem?_cons_succ, List.getElem?_cons_zero]; rfl)
    case hq802 => exact fun _ _ _ h => h
    case hy802 => exact Or.inl ⟨by rfl, by (intro W hSw; (try dsimp only at hSw); go_simp; (try with_reducible rfl))⟩
    (try simp only [Act.put, List.setIfInBounds_toArray, List.set_cons_zero, List.set_cons_succ])
    refine wpAnyH_take (i := 3) (oi := ?oo803) (v := ?vv803) ?hi803 (by kernel_rfl) (by kernel_rfl) (by kernel_rfl) ?hq803 ?hy803 (by assumption) ?hh803
    case hi803 => (simp only [List.getElem?_toArray, List.getElem?_cons_succ, List.getElem?_cons_zero]; rfl)
    case hq803 => exact fun _ _ _ h => h
    case hy803 => exact Or.inl ⟨by rfl, by (intro W hSw; (try dsimp only at hSw); go_simp; (try with_reducible rfl))⟩
    (try simp only [Act.put, List.setIfInBounds_toArray, List.set_cons_zero, List.set_cons_succ])
    refine wpAnyH_take (i := 4) (oi := ?oo804) (v := ?vv804) ?hi804 (by kernel_rfl) (by kernel_rfl) (by kernel_rfl) ?hq804 ?hy804 (by assumption) ?hh804
    case hi804 => (simp only [List.getElem?_toArray, List.getElem?_cons_succ, List.getElem?_cons_zero]; rfl)
    case hq804 => exact fun _ _ _ h => h
    case hy804 => exact Or.inl ⟨by rfl, by (intro W hSw; (try dsimp only at hSw); go_simp; (try with_reducible rfl))⟩
    (try simp only [Act.put, List.setIfInBounds_toArray, List.set_cons_zero, List.set_cons_succ])
    refine wpAnyH_ready (rs := [2]) (by kernel_rfl) (by simp) ?_
    refine AllReadyH.cons rfl (fun K hK => ?_) AllReadyH.nil
    go_simp
    go_at_call 47
    refine (HL.out _).mono ?_
    rintro e U1 ⟨a, cap, rfl, hR, bq⟩
    have k_x := k_x.below bq k_x.lt
    have k_y := k_y.below bq k_y.lt
    have k_r := k_r.below bq k_r.lt
    have bb := bb.trans (bq.mono bb.size)
    clear bq
    refine hK.out _ _ ⟨by rw [k_x.cell]; rfl, by rw [k_y.cell]; rfl⟩ (fun hHeld => ?_)
    clear hK K
    (try simp only [Act.put, List.setIfInBounds_toArray, List.set_cons_zero, List.set_cons_succ])
    refine wpAnyH_ready (rs := [5]) (by kernel_rfl) (by simp) ?_
    refine AllReadyH.cons rfl (fun K hK => ?_) AllReadyH.nil
    go_simp
    go_at_call 47
    refine (HL'.out _).mono ?_
    rintro e U2 ⟨a', cap', rfl, hR', bq⟩
    have hR := hR.below bq
    have k_x := k_x.below bq k_x.lt
    have k_y := k_y.below bq k_y.lt
    have k_r := k_r.below bq k_r.lt
    have bb := bb.trans (bq.mono bb.size)
    clear bq
    refine hK.out _ _ ⟨by rw [k_x.cell]; rfl, by rw [k_y.cell]; rfl⟩ (fun hHeld => ?_)
    clear hK K
    (try simp only [Act.put, List.setIfInBounds_toArray, List.set_cons_zero, List.set_cons_succ])
    refine wpAnyH_ready (rs := [6]) (by kernel_rfl) (by simp) ?_
    refine AllReadyH.cons rfl (fun K hK => ?_) AllReadyH.nil
    go_simp
    go_at_call 46
    refine (Tx.refCompare_any _ _ _ _ _ _ _ _ _ hR hR').mono ?_
    rintro e U3 ⟨rfl, dn, rfl⟩
    rw [hc.out]
    have k_x := k_x.drewN dn
    have k_y := k_y.drewN dn
    have k_r := k_r.drewN dn
    have bb := below_drewN bb dn
    refine hK.out _ _ ⟨by rw [k_x.cell]; rfl, by rw [k_y.cell]; rfl⟩ (fun hHeld => ?_)
    clear hK K
    (try simp only [Act.put, List.setIfInBounds_toArray, List.set_cons_zero, List.set_cons_succ])
    refine wpAnyH_take (i := 7) (oi := ?oo805) (v := ?vv805) ?hi805 (by kernel_rfl) (by kernel_rfl) (by kernel_rfl) ?hq805 ?hy805 (by assumption) ?hh805
    case hi805 => (simp only [List.getElem?_toArray, List.getElem?_cons_succ, List.getElem?_cons_zero]; rfl)
    case hq805 => exact fun _ _ _ h => h
    case hy805 => exact Or.inl ⟨by rfl, by (intro W hSw; (try dsimp only at hSw); go_simp; (try with_reducible rfl))⟩
    (try simp only [Act.put, List.setIfInBounds_toArray, List.set_cons_zero, List.set_cons_succ])
    refine wpAnyH_done (by kernel_rfl) ?_ _
    go_wp2_with fail
    go_meet
    exact ⟨rfl, bb, k_r⟩
  case rest =>
  obtain ⟨rfl, bb, k_r⟩ := hcut
  clear hc HL HL'
  have x_r0 := c30 k_r
  have x_r1 := c31 k_r
  have x_r2 := c32 k_r
  have l_r := k_r.lt
  rcases HB.out with ⟨rfl, rfl⟩ | ⟨rfl, rfl⟩ | ⟨rfl, rfl⟩
  · skip
    go_wp2_with fail
    refine (HT.out _ _).mono ?_
    rintro e w1 ⟨rfl, b1⟩
    clear x_r0 x_r1 x_r2 l_r
    have k_r := k_r.below b1 k_r.lt
    have bb := bb.trans (b1.mono bb.size)
    have x_r0 : w1.cell? ⟨w.heap.size + 2, 0, none⟩ = some (.int .i64 0) := by rw [k_r.cell]; rfl
    have x_r1 : w1.cell? ⟨w.heap.size + 2, 1, none⟩ = some (.int .i64 0) := by rw [k_r.cell]; rfl
    have x_r2 : w1.cell? ⟨w.heap.size + 2, 2, none⟩ = some (.string ⟨#[]⟩) := by rw [k_r.cell]; rfl
    have l_r := k_r.lt
    have z_r0 := k_r.frozen 0
    have z_r1 := k_r.frozen 1
    have z_r2 := k_r.frozen 2
    go_wp2
    exact bodyPost_ret (v := (.tuple #[VS 2 (tN false) ⟨#[]⟩, .int .i64 0])) (by simp [results, Tryd.results28, go_sem, x_r0, x_r1, x_r2, l_r]) rfl ⟨rfl, (((bb).setCell (p := ⟨w.heap.size + 2, 0, none⟩) (by first | exact Nat.le_refl _ | (simp; done) | (simp; omega) | omega) _).setCell (p := ⟨w.heap.size + 2, 1, none⟩) (by first | exact Nat.le_refl _ | (simp; done) | (simp; omega) | omega) _).setCell (p := ⟨w.heap.size + 2, 2, none⟩) (by first | exact Nat.le_refl _ | (simp; done) | (simp; omega) | omega) _⟩
  · skip
    go_wp2_with fail
    refine (HT.out _ _).mono ?_
    rintro e w1 ⟨rfl, b1⟩
    clear x_r0 x_r1 x_r2 l_r
    have k_r := k_r.below b1 k_r.lt
    have bb := bb.trans (b1.mono bb.size)
    have x_r0 : w1.cell? ⟨w.heap.size + 2, 0, none⟩ = some (.int .i64 0) := by rw [k_r.cell]; rfl
    have x_r1 : w1.cell? ⟨w.heap.size + 2, 1, none⟩ = some (.int .i64 0) := by rw [k_r.cell]; rfl
    have x_r2 : w1.cell? ⟨w.heap.size + 2, 2, none⟩ = some (.string ⟨#[]⟩) := by rw [k_r.cell]; rfl
    have l_r := k_r.lt
    have z_r0 := k_r.frozen 0
    have z_r1 := k_r.frozen 1
    have z_r2 := k_r.frozen 2
    go_wp2
    exact bodyPost_ret (v := (.tuple #[VS 2 (tN true) ⟨#[]⟩, .int .i64 0])) (by simp [results, Tryd.results28, go_sem, x_r0, x_r1, x_r2, l_r]) rfl ⟨rfl, (((bb).setCell (p := ⟨w.heap.size + 2, 0, none⟩) (by first | exact Nat.le_refl _ | (simp; done) | (simp; omega) | omega) _).setCell (p := ⟨w.heap.size + 2, 1, none⟩) (by first | exact Nat.le_refl _ | (simp; done) | (simp; omega) | omega) _).setCell (p := ⟨w.heap.size + 2, 2, none⟩) (by first | exact Nat.le_refl _ | (simp; done) | (simp; omega) | omega) _⟩
  · skip
    go_wp2_with fail
    refine (HT.out _ _).mono ?_
    rintro e w1 ⟨rfl, b1⟩
    clear x_r0 x_r1 x_r2 l_r
    have k_r := k_r.below b1 k_r.lt
    have bb := bb.trans (b1.mono bb.size)
    have x_r0 : w1.cell? ⟨w.heap.size + 2, 0, none⟩ = some (.int .i64 0) := by rw [k_r.cell]; rfl
    have x_r1 : w1.cell? ⟨w.heap.size + 2, 1, none⟩ = some (.int .i64 0) := by rw [k_r.cell]; rfl
    have x_r2 : w1.cell? ⟨w.heap.size + 2, 2, none⟩ = some (.string ⟨#[]⟩) := by rw [k_r.cell]; rfl
    have l_r := k_r.lt
    have z_r0 := k_r.frozen 0
    have z_r1 := k_r.frozen 1
    have z_r2 := k_r.frozen 2
    go_wp2
    exact bodyPost_ret (v := (.tuple #[VS 2 (tN true) ⟨#[]⟩, .int .i64 0])) (by simp [results, Tryd.results28, go_sem, x_r0, x_r1, x_r2, l_r]) rfl ⟨rfl, (((bb).setCell (p := ⟨w.heap.size + 2, 0, none⟩) (by first | exact Nat.le_refl _ | (simp; done) | (simp; omega) | omega) _).setCell (p := ⟨w.heap.size + 2, 1, none⟩) (by first | exact Nat.le_refl _ | (simp; done) | (simp; omega) | omega) _).setCell (p := ⟨w.heap.size + 2, 2, none⟩) (by first | exact Nat.le_refl _ | (simp; done) | (simp; omega) | omega) _⟩
set_option maxHeartbeats 4000000 in
theorem rreck_rem (d1 : Int) (m1 : Bool) (z1 d2 : Int) (m2 : Bool) (z2 d : Int) (m : Bool) (z pk pn : Int) (w : World)
    (CD : ∀ W, Calls Tryd.prog 65 #[RV d1 m1 z1, RV d2 m2 z2] W (Ret (RV d m z) W)) (CV : ∀ W, Calls Tryd.prog 66 #[RV d m z] W (Ret (VN pk pn) W)) :
    Calls Tryd.prog 48 #[.string ⟨#[37]⟩, RV d1 m1 z1, RV d2 m2 z2] w (Ret (.tuple #[VN pk pn, .int .i64 0]) w) := by
  have HD := Lib.hid CD
  have HV := Lib.hid CV
  clear CD CV
  go_enter Tryd.func48, Tryd.ntmps48
  go_wp2_with fail
  have k_a := ((Blk.new w 58 #[.int .u8 d1, .bool m1, .int .i64 z1]).alloc (.cells #[.int .u8 d2, .bool m2, .int .i64 z2] 58)).alloc (.cells #[.int .i64 0, .int .i64 0, .string ⟨#[]⟩] 27)
  have k_b := (Blk.new (w.alloc (.cells #[.int .u8 d1, .bool m1, .int .i64 z1] 58)) 58 #[.int .u8 d2, .bool m2, .int .i64 z2]).alloc (.cells #[.int .i64 0, .int .i64 0, .string ⟨#[]⟩] 27)
  rw [World.size_alloc] at k_b
  have k_r := Blk.new ((w.alloc (.cells #[.int .u8 d1, .bool m1, .int .i64 z1] 58)).alloc (.cells #[.int .u8 d2, .bool m2, .int .i64 z2] 58)) 27 #[.int .i64 0, .int .i64 0, .string ⟨#[]⟩]
  rw [World.size_alloc, World.size_alloc] at k_r
  have bb : Below w.heap.size w _ := ((((Below.refl _ _).alloc (Nat.le_refl _) (.cells #[.int .u8 d1, .bool m1, .int .i64 z1] 58)).alloc (by simp) (.cells #[.int .u8 d2, .bool m2, .int .i64 z2] 58)).alloc (by simp; omega) (.cells #[.int .i64 0, .int .i64 0, .string ⟨#[]⟩] 27))
  generalize (((w.alloc (.cells #[.int .u8 d1, .bool m1, .int .i64 z1] 58)).alloc (.cells #[.int .u8 d2, .bool m2, .int .i64 z2] 58)).alloc (.cells #[.int .i64 0, .int .i64 0, .string ⟨#[]⟩] 27)) = W0 at *
  refine (HD.out _).mono ?_
  rintro e w1 ⟨rfl, b1⟩
  have k_a := k_a.below b1 k_a.lt
  have k_b := k_b.below b1 k_b.lt
  have k_r := k_r.below b1 k_r.lt
  have bb := bb.trans (b1.mono bb.size)
  have x_a0 : w1.cell? ⟨w.heap.size, 0, none⟩ = some (.int .u8 d1) := by rw [k_a.cell]; rfl
  have x_a1 : w1.cell? ⟨w.heap.size, 1, none⟩ = some (.bool m1) := by rw [k_a.cell]; rfl
  have x_a2 : w1.cell? ⟨w.heap.size, 2, none⟩ = some (.int .i64 z1) := by rw [k_a.cell]; rfl
  have l_a := k_a.lt
  have x_b0 : w1.cell? ⟨w.heap.size + 1, 0, none⟩ = some (.int .u8 d2) := by rw [k_b.cell]; rfl
  have x_b1 : w1.cell? ⟨w.heap.size + 1, 1, none⟩ = some (.bool m2) := by rw [k_b.cell]; rfl
  have x_b2 : w1.cell? ⟨w.heap.size + 1, 2, none⟩ = some (.int .i64 z2) := by rw [k_b.cell]; rfl
  have l_b := k_b.lt
  have x_r0 : w1.cell? ⟨w.heap.size + 1 + 1, 0, none⟩ = some (.int .i64 0) := by rw [k_r.cell]; rfl
  have x_r1 : w1.cell? ⟨w.heap.size + 1 + 1, 1, none⟩ = some (.int .i64 0) := by rw [k_r.cell]; rfl
  have x_r2 : w1.cell? ⟨w.heap.size + 1 + 1, 2, none⟩ = some (.string ⟨#[]⟩) := by rw [k_r.cell]; rfl
  have l_r := k_r.lt
  go_wp2_with fail
  refine (HV.out _).mono ?_
  rintro e w2 ⟨rfl, b2⟩
  clear x_a0 x_a1 x_a2 l_a x_b0 x_b1 x_b2 l_b x_r0 x_r1 x_r2 l_r
  have k_a := k_a.below b2 k_a.lt
  have k_b := k_b.below b2 k_b.lt
  have k_r := k_r.below b2 k_r.lt
  have bb := bb.trans (b2.mono bb.size)
  have x_a0 : w2.cell? ⟨w.heap.size, 0, none⟩ = some (.int .u8 d1) := by rw [k_a.cell]; rfl
  have x_a1 : w2.cell? ⟨w.heap.size, 1, none⟩ = some (.bool m1) := by rw [k_a.cell]; rfl
  have x_a2 : w2.cell? ⟨w.heap.size, 2, none⟩ = some (.int .i64 z1) := by rw [k_a.cell]; rfl
  have l_a := k_a.lt
  have x_b0 : w2.cell? ⟨w.heap.size + 1, 0, none⟩ = some (.int .u8 d2) := by rw [k_b.cell]; rfl
  have x_b1 : w2.cell? ⟨w.heap.size + 1, 1, none⟩ = some (.bool m2) := by rw [k_b.cell]; rfl
  have x_b2 : w2.cell? ⟨w.heap.size + 1, 2, none⟩ = some (.int .i64 z2) := by rw [k_b.cell]; rfl
  have l_b := k_b.lt
  have x_r0 : w2.cell? ⟨w.heap.size + 1 + 1, 0, none⟩ = some (.int .i64 0) := by rw [k_r.cell]; rfl
  have x_r1 : w2.cell? ⟨w.heap.size + 1 + 1, 1, none⟩ = some (.int .i64 0) := by rw [k_r.cell]; rfl
  have x_r2 : w2.cell? ⟨w.heap.size + 1 + 1, 2, none⟩ = some (.string ⟨#[]⟩) := by rw [k_r.cell]; rfl
  have l_r := k_r.lt
  have z_r0 := k_r.frozen 0
  have z_r1 := k_r.frozen 1
  have z_r2 := k_r.frozen 2
  go_wp2
  exact bodyPost_ret (v := (.tuple #[VN pk pn, .int .i64 0])) (by simp [results, Tryd.results48, go_sem, x_r0, x_r1, x_r2, l_r]) rfl ⟨rfl, (((bb).setCell (p := ⟨w.heap.size + 1 + 1, 0, none⟩) (by first | exact Nat.le_refl _ | (simp; done) | (simp; omega) | omega) _).setCell (p := ⟨w.heap.size + 1 + 1, 1, none⟩) (by first | exact Nat.le_refl _ | (simp; done) | (simp; omega) | omega) _).setCell (p := ⟨w.heap.size + 1 + 1, 2, none⟩) (by first | exact Nat.le_refl _ | (simp; done) | (simp; omega) | omega) _⟩
set_option maxHeartbeats 4000000 in
theorem rreck_q (d1 : Int) (m1 : Bool) (z1 d2 : Int) (m2 : Bool) (z2 : Int) (w : World) :
    Calls Tryd.prog 48 #[.string ⟨#[63]⟩, RV d1 m1 z1, RV d2 m2 z2] w (Ret (.tuple #[VS 0 0 ⟨#[]⟩, .int .i64 2]) w) := by
  go_enter Tryd.func48, Tryd.ntmps48
  go_wp2
  exact bodyPost_ret (v := (.tuple #[VS 0 0 ⟨#[]⟩, .int .i64 2])) (by simp [results, Tryd.results48, go_sem]) rfl ⟨rfl, (((Below.refl _ _).alloc (Nat.le_refl _) _).alloc (by simp) _).alloc (by simp; omega) _⟩
end Go.Proofs.YtjkboelcpihphaaDoor
