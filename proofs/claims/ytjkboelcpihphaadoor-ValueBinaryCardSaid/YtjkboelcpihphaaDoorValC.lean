/- Contracts of value.Strict, join, compare, reckon and Binary, given those of what they call. -/
import Derived.Test.YtjkboelcpihphaaDoorValB
set_option linter.unusedVariables false
set_option linter.unusedSimpArgs false
namespace Go.Proofs.YtjkboelcpihphaaDoor
open Go.RowKit
variable (k n : Int) (s : ByteArray) (k' n' : Int) (s' : ByteArray)

set_option maxHeartbeats 4000000 in
set_option maxRecDepth 100000 in
theorem strict_nn (w : World) (r : Bool) (C1 : ∀ W, Calls Tryd.prog 38 #[VS k n s] W (Ret (.bool true) W)) (C2 : ∀ W, Calls Tryd.prog 38 #[VS k' n' s'] W (Ret (.bool true) W)) (C3 : ∀ W, Calls Tryd.prog 41 #[VS k n s, VS k' n' s'] W (Ret (.bool r) W)) : Calls Tryd.prog 22 #[VS k n s, VS k' n' s'] w (Ret (.bool r) w) := by
  have H1 := Lib.hid C1
  have H2 := Lib.hid C2
  have H3 := Lib.hid C3
  clear C1 C2 C3
  go_enter Tryd.func22, Tryd.ntmps22
  go_wp2_with fail
  have k_a := (Blk.new w 27 #[.int .i64 k, .int .i64 n, .string s]).alloc (.cells #[.int .i64 (k'), .int .i64 (n'), .string (s')] 27)
  have k_b := Blk.new (w.alloc (.cells #[.int .i64 k, .int .i64 n, .string s] 27)) 27 #[.int .i64 (k'), .int .i64 (n'), .string (s')]
  rw [World.size_alloc] at k_b
  have bb : Below w.heap.size w _ := (((Below.refl _ _).alloc (Nat.le_refl _) (.cells #[.int .i64 k, .int .i64 n, .string s] 27)).alloc (by simp) (.cells #[.int .i64 (k'), .int .i64 (n'), .string (s')] 27))
  generalize ((w.alloc (.cells #[.int .i64 k, .int .i64 n, .string s] 27)).alloc (.cells #[.int .i64 (k'), .int .i64 (n'), .string (s')] 27)) = W0 at *
  refine (H1.out _).mono ?_
  rintro e w1 ⟨rfl, b1⟩
  have k_a := k_a.below b1 k_a.lt
  have k_b := k_b.below b1 k_b.lt
  have bb := bb.trans (b1.mono bb.size)
  have x_a0 : w1.cell? ⟨w.heap.size, 0, none⟩ = some (.int .i64 k) := by rw [k_a.cell]; rfl
  have x_a1 : w1.cell? ⟨w.heap.size, 1, none⟩ = some (.int .i64 n) := by rw [k_a.cell]; rfl
  have x_a2 : w1.cell? ⟨w.heap.size, 2, none⟩ = some (.string s) := by rw [k_a.cell]; rfl
  have l_a := k_a.lt
  have x_b0 : w1.cell? ⟨w.heap.size + 1, 0, none⟩ = some (.int .i64 (k')) := by rw [k_b.cell]; rfl
  have x_b1 : w1.cell? ⟨w.heap.size + 1, 1, none⟩ = some (.int .i64 (n')) := by rw [k_b.cell]; rfl
  have x_b2 : w1.cell? ⟨w.heap.size + 1, 2, none⟩ = some (.string (s')) := by rw [k_b.cell]; rfl
  have l_b := k_b.lt
  go_wp2_with fail
  refine (H2.out _).mono ?_
  rintro e w2 ⟨rfl, b2⟩
  clear x_a0 x_a1 x_a2 l_a x_b0 x_b1 x_b2 l_b
  have k_a := k_a.below b2 k_a.lt
  have k_b := k_b.below b2 k_b.lt
  have bb := bb.trans (b2.mono bb.size)
  have x_a0 : w2.cell? ⟨w.heap.size, 0, none⟩ = some (.int .i64 k) := by rw [k_a.cell]; rfl
  have x_a1 : w2.cell? ⟨w.heap.size, 1, none⟩ = some (.int .i64 n) := by rw [k_a.cell]; rfl
  have x_a2 : w2.cell? ⟨w.heap.size, 2, none⟩ = some (.string s) := by rw [k_a.cell]; rfl
  have l_a := k_a.lt
  have x_b0 : w2.cell? ⟨w.heap.size + 1, 0, none⟩ = some (.int .i64 (k')) := by rw [k_b.cell]; rfl
  have x_b1 : w2.cell? ⟨w.heap.size + 1, 1, none⟩ = some (.int .i64 (n')) := by rw [k_b.cell]; rfl
  have x_b2 : w2.cell? ⟨w.heap.size + 1, 2, none⟩ = some (.string (s')) := by rw [k_b.cell]; rfl
  have l_b := k_b.lt
  go_wp2_with fail
  refine (H3.out _).mono ?_
  rintro e w3 ⟨rfl, b3⟩
  clear x_a0 x_a1 x_a2 l_a x_b0 x_b1 x_b2 l_b
  have k_a := k_a.below b3 k_a.lt
  have k_b := k_b.below b3 k_b.lt
  have bb := bb.trans (b3.mono bb.size)
  have x_a0 : w3.cell? ⟨w.heap.size, 0, none⟩ = some (.int .i64 k) := by rw [k_a.cell]; rfl
  have x_a1 : w3.cell? ⟨w.heap.size, 1, none⟩ = some (.int .i64 n) := by rw [k_a.cell]; rfl
  have x_a2 : w3.cell? ⟨w.heap.size, 2, none⟩ = some (.string s) := by rw [k_a.cell]; rfl
  have l_a := k_a.lt
  have x_b0 : w3.cell? ⟨w.heap.size + 1, 0, none⟩ = some (.int .i64 (k')) := by rw [k_b.cell]; rfl
  have x_b1 : w3.cell? ⟨w.heap.size + 1, 1, none⟩ = some (.int .i64 (n')) := by rw [k_b.cell]; rfl
  have x_b2 : w3.cell? ⟨w.heap.size + 1, 2, none⟩ = some (.string (s')) := by rw [k_b.cell]; rfl
  have l_b := k_b.lt
  go_wp2_with fail
  go_ret
  exact ⟨rfl, bb⟩
set_option maxHeartbeats 4000000 in
set_option maxRecDepth 100000 in
theorem strict_x (w : World) (C1 : ∀ W, Calls Tryd.prog 38 #[VS k n s] W (Ret (.bool false) W)) : Calls Tryd.prog 22 #[VS k n s, VS k' n' s'] w (Ret ((.bool (veq k n s k' n' s'))) w) := by
  have H1 := Lib.hid C1
  clear C1
  go_enter Tryd.func22, Tryd.ntmps22
  go_wp2_with fail
  have k_a := (Blk.new w 27 #[.int .i64 k, .int .i64 n, .string s]).alloc (.cells #[.int .i64 (k'), .int .i64 (n'), .string (s')] 27)
  have k_b := Blk.new (w.alloc (.cells #[.int .i64 k, .int .i64 n, .string s] 27)) 27 #[.int .i64 (k'), .int .i64 (n'), .string (s')]
  rw [World.size_alloc] at k_b
  have bb : Below w.heap.size w _ := (((Below.refl _ _).alloc (Nat.le_refl _) (.cells #[.int .i64 k, .int .i64 n, .string s] 27)).alloc (by simp) (.cells #[.int .i64 (k'), .int .i64 (n'), .string (s')] 27))
  generalize ((w.alloc (.cells #[.int .i64 k, .int .i64 n, .string s] 27)).alloc (.cells #[.int .i64 (k'), .int .i64 (n'), .string (s')] 27)) = W0 at *
  refine (H1.out _).mono ?_
  rintro e w1 ⟨rfl, b1⟩
  have k_a := k_a.below b1 k_a.lt
  have k_b := k_b.below b1 k_b.lt
  have bb := bb.trans (b1.mono bb.size)
  have x_a0 : w1.cell? ⟨w.heap.size, 0, none⟩ = some (.int .i64 k) := by rw [k_a.cell]; rfl
  have x_a1 : w1.cell? ⟨w.heap.size, 1, none⟩ = some (.int .i64 n) := by rw [k_a.cell]; rfl
  have x_a2 : w1.cell? ⟨w.heap.size, 2, none⟩ = some (.string s) := by rw [k_a.cell]; rfl
  have l_a := k_a.lt
  have x_b0 : w1.cell? ⟨w.heap.size + 1, 0, none⟩ = some (.int .i64 (k')) := by rw [k_b.cell]; rfl
  have x_b1 : w1.cell? ⟨w.heap.size + 1, 1, none⟩ = some (.int .i64 (n')) := by rw [k_b.cell]; rfl
  have x_b2 : w1.cell? ⟨w.heap.size + 1, 2, none⟩ = some (.string (s')) := by rw [k_b.cell]; rfl
  have l_b := k_b.lt
  by_cases e1 : k = k'
  case neg =>
    have t : (k == k') = false := by simpa using e1
    have HX := Lib.hid (show veq k n s k' n' s' = false by unfold veq; simp [t])
    go_wp2_with fail
    go_ret
    exact ⟨by rw [HX.out]; rfl, bb⟩
  case pos =>
    subst e1
    by_cases e2 : n = n'
    case neg =>
      have t : (n == n') = false := by simpa using e2
      have HX := Lib.hid (show veq k n s k n' s' = false by unfold veq; simp [t])
      go_wp2_with fail
      go_ret
      exact ⟨by rw [HX.out]; rfl, bb⟩
    case pos =>
      subst e2
      by_cases e3 : s.toList = s'.toList
      case neg =>
        have t : (s.toList == s'.toList) = false := by simpa using e3
        have HX := Lib.hid (show veq k n s k n s' = false by unfold veq; simp [t])
        go_wp2_with fail
        go_ret
        exact ⟨by rw [HX.out]; rfl, bb⟩
      case pos =>
        have t : (s.toList == s'.toList) = true := by simpa using e3
        have HX := Lib.hid (show veq k n s k n s' = true by unfold veq; simp [t])
        clear e3
        go_wp2_with fail
        go_ret
        exact ⟨by rw [HX.out]; rfl, bb⟩
set_option maxHeartbeats 4000000 in
set_option maxRecDepth 100000 in
theorem strict_nx (w : World) (C1 : ∀ W, Calls Tryd.prog 38 #[VS k n s] W (Ret (.bool true) W)) (C2 : ∀ W, Calls Tryd.prog 38 #[VS k' n' s'] W (Ret (.bool false) W)) : Calls Tryd.prog 22 #[VS k n s, VS k' n' s'] w (Ret ((.bool (veq k n s k' n' s'))) w) := by
  have H1 := Lib.hid C1
  have H2 := Lib.hid C2
  clear C1 C2
  go_enter Tryd.func22, Tryd.ntmps22
  go_wp2_with fail
  have k_a := (Blk.new w 27 #[.int .i64 k, .int .i64 n, .string s]).alloc (.cells #[.int .i64 (k'), .int .i64 (n'), .string (s')] 27)
  have k_b := Blk.new (w.alloc (.cells #[.int .i64 k, .int .i64 n, .string s] 27)) 27 #[.int .i64 (k'), .int .i64 (n'), .string (s')]
  rw [World.size_alloc] at k_b
  have bb : Below w.heap.size w _ := (((Below.refl _ _).alloc (Nat.le_refl _) (.cells #[.int .i64 k, .int .i64 n, .string s] 27)).alloc (by simp) (.cells #[.int .i64 (k'), .int .i64 (n'), .string (s')] 27))
  generalize ((w.alloc (.cells #[.int .i64 k, .int .i64 n, .string s] 27)).alloc (.cells #[.int .i64 (k'), .int .i64 (n'), .string (s')] 27)) = W0 at *
  refine (H1.out _).mono ?_
  rintro e w1 ⟨rfl, b1⟩
  have k_a := k_a.below b1 k_a.lt
  have k_b := k_b.below b1 k_b.lt
  have bb := bb.trans (b1.mono bb.size)
  have x_a0 : w1.cell? ⟨w.heap.size, 0, none⟩ = some (.int .i64 k) := by rw [k_a.cell]; rfl
  have x_a1 : w1.cell? ⟨w.heap.size, 1, none⟩ = some (.int .i64 n) := by rw [k_a.cell]; rfl
  have x_a2 : w1.cell? ⟨w.heap.size, 2, none⟩ = some (.string s) := by rw [k_a.cell]; rfl
  have l_a := k_a.lt
  have x_b0 : w1.cell? ⟨w.heap.size + 1, 0, none⟩ = some (.int .i64 (k')) := by rw [k_b.cell]; rfl
  have x_b1 : w1.cell? ⟨w.heap.size + 1, 1, none⟩ = some (.int .i64 (n')) := by rw [k_b.cell]; rfl
  have x_b2 : w1.cell? ⟨w.heap.size + 1, 2, none⟩ = some (.string (s')) := by rw [k_b.cell]; rfl
  have l_b := k_b.lt
  go_wp2_with fail
  refine (H2.out _).mono ?_
  rintro e w2 ⟨rfl, b2⟩
  clear x_a0 x_a1 x_a2 l_a x_b0 x_b1 x_b2 l_b
  have k_a := k_a.below b2 k_a.lt
  have k_b := k_b.below b2 k_b.lt
  have bb := bb.trans (b2.mono bb.size)
  have x_a0 : w2.cell? ⟨w.heap.size, 0, none⟩ = some (.int .i64 k) := by rw [k_a.cell]; rfl
  have x_a1 : w2.cell? ⟨w.heap.size, 1, none⟩ = some (.int .i64 n) := by rw [k_a.cell]; rfl
  have x_a2 : w2.cell? ⟨w.heap.size, 2, none⟩ = some (.string s) := by rw [k_a.cell]; rfl
  have l_a := k_a.lt
  have x_b0 : w2.cell? ⟨w.heap.size + 1, 0, none⟩ = some (.int .i64 (k')) := by rw [k_b.cell]; rfl
  have x_b1 : w2.cell? ⟨w.heap.size + 1, 1, none⟩ = some (.int .i64 (n')) := by rw [k_b.cell]; rfl
  have x_b2 : w2.cell? ⟨w.heap.size + 1, 2, none⟩ = some (.string (s')) := by rw [k_b.cell]; rfl
  have l_b := k_b.lt
  by_cases e1 : k = k'
  case neg =>
    have t : (k == k') = false := by simpa using e1
    have HX := Lib.hid (show veq k n s k' n' s' = false by unfold veq; simp [t])
    go_wp2_with fail
    go_ret
    exact ⟨by rw [HX.out]; rfl, bb⟩
  case pos =>
    subst e1
    by_cases e2 : n = n'
    case neg =>
      have t : (n == n') = false := by simpa using e2
      have HX := Lib.hid (show veq k n s k n' s' = false by unfold veq; simp [t])
      go_wp2_with fail
      go_ret
      exact ⟨by rw [HX.out]; rfl, bb⟩
    case pos =>
      subst e2
      by_cases e3 : s.toList = s'.toList
      case neg =>
        have t : (s.toList == s'.toList) = false := by simpa using e3
        have HX := Lib.hid (show veq k n s k n s' = false by unfold veq; simp [t])
        go_wp2_with fail
        go_ret
        exact ⟨by rw [HX.out]; rfl, bb⟩
      case pos =>
        have t : (s.toList == s'.toList) = true := by simpa using e3
        have HX := Lib.hid (show veq k n s k n s' = true by unfold veq; simp [t])
        clear e3
        go_wp2_with fail
        go_ret
        exact ⟨by rw [HX.out]; rfl, bb⟩
set_option maxHeartbeats 4000000 in
set_option maxRecDepth 100000 in
theorem join_e1 (w : World) (X : ByteArray) (e1 : Int) (he : ¬ e1 = 0) (C1 : ∀ W, Below w.heap.size w W → Calls Tryd.prog 14 #[VS k n s] W (Ret (.tuple #[.string X, .int .i64 e1]) W)) : Calls Tryd.prog 35 #[VS k n s, VS k' n' s'] w (Ret (.tuple #[VS 0 0 ⟨#[]⟩, .int .i64 e1]) w) := by
  have H1 := Lib.hid C1
  clear C1
  have t1 : (e1 != 0) = true := by simpa using he
  have t2 : ¬ e1 = 0 := he
  go_enter Tryd.func35, Tryd.ntmps35
  go_wp2_with fail
  have k_a := ((Blk.new w 27 #[.int .i64 k, .int .i64 n, .string s]).alloc (.cells #[.int .i64 (k'), .int .i64 (n'), .string (s')] 27)).alloc (.cells #[.int .i64 0, .int .i64 0, .string ⟨#[]⟩] 27)
  have k_b := (Blk.new (w.alloc (.cells #[.int .i64 k, .int .i64 n, .string s] 27)) 27 #[.int .i64 (k'), .int .i64 (n'), .string (s')]).alloc (.cells #[.int .i64 0, .int .i64 0, .string ⟨#[]⟩] 27)
  rw [World.size_alloc] at k_b
  have k_r := Blk.new ((w.alloc (.cells #[.int .i64 k, .int .i64 n, .string s] 27)).alloc (.cells #[.int .i64 (k'), .int .i64 (n'), .string (s')] 27)) 27 #[.int .i64 0, .int .i64 0, .string ⟨#[]⟩]
  rw [World.size_alloc, World.size_alloc] at k_r
  have bb : Below w.heap.size w _ := ((((Below.refl _ _).alloc (Nat.le_refl _) (.cells #[.int .i64 k, .int .i64 n, .string s] 27)).alloc (by simp) (.cells #[.int .i64 (k'), .int .i64 (n'), .string (s')] 27)).alloc (by simp; omega) (.cells #[.int .i64 0, .int .i64 0, .string ⟨#[]⟩] 27))
  generalize (((w.alloc (.cells #[.int .i64 k, .int .i64 n, .string s] 27)).alloc (.cells #[.int .i64 (k'), .int .i64 (n'), .string (s')] 27)).alloc (.cells #[.int .i64 0, .int .i64 0, .string ⟨#[]⟩] 27)) = W0 at *
  refine (H1.out _ bb).mono ?_
  rintro e w1 ⟨rfl, b1⟩
  have k_a := k_a.below b1 k_a.lt
  have k_b := k_b.below b1 k_b.lt
  have k_r := k_r.below b1 k_r.lt
  have bb := bb.trans (b1.mono bb.size)
  have x_a0 : w1.cell? ⟨w.heap.size, 0, none⟩ = some (.int .i64 k) := by rw [k_a.cell]; rfl
  have x_a1 : w1.cell? ⟨w.heap.size, 1, none⟩ = some (.int .i64 n) := by rw [k_a.cell]; rfl
  have x_a2 : w1.cell? ⟨w.heap.size, 2, none⟩ = some (.string s) := by rw [k_a.cell]; rfl
  have l_a := k_a.lt
  have x_b0 : w1.cell? ⟨w.heap.size + 1, 0, none⟩ = some (.int .i64 (k')) := by rw [k_b.cell]; rfl
  have x_b1 : w1.cell? ⟨w.heap.size + 1, 1, none⟩ = some (.int .i64 (n')) := by rw [k_b.cell]; rfl
  have x_b2 : w1.cell? ⟨w.heap.size + 1, 2, none⟩ = some (.string (s')) := by rw [k_b.cell]; rfl
  have l_b := k_b.lt
  have x_r0 : w1.cell? ⟨w.heap.size + 1 + 1, 0, none⟩ = some (.int .i64 0) := by rw [k_r.cell]; rfl
  have x_r1 : w1.cell? ⟨w.heap.size + 1 + 1, 1, none⟩ = some (.int .i64 0) := by rw [k_r.cell]; rfl
  have x_r2 : w1.cell? ⟨w.heap.size + 1 + 1, 2, none⟩ = some (.string ⟨#[]⟩) := by rw [k_r.cell]; rfl
  have l_r := k_r.lt
  have z_r0 := k_r.frozen 0
  have z_r1 := k_r.frozen 1
  have z_r2 := k_r.frozen 2
  go_wp2
  exact bodyPost_ret (v := .tuple #[VS 0 0 ⟨#[]⟩, .int .i64 e1]) (by simp [results, Tryd.results35, go_sem, x_r0, x_r1, x_r2, l_r]) rfl ⟨rfl, (((bb).setCell (p := ⟨w.heap.size + 1 + 1, 0, none⟩) (by first | exact Nat.le_refl _ | (simp; done) | (simp; omega) | omega) _).setCell (p := ⟨w.heap.size + 1 + 1, 1, none⟩) (by first | exact Nat.le_refl _ | (simp; done) | (simp; omega) | omega) _).setCell (p := ⟨w.heap.size + 1 + 1, 2, none⟩) (by first | exact Nat.le_refl _ | (simp; done) | (simp; omega) | omega) _⟩
set_option maxHeartbeats 4000000 in
set_option maxRecDepth 100000 in
theorem join_e2 (w : World) (X Y : ByteArray) (e1 : Int) (he : ¬ e1 = 0) (C1 : ∀ W, Below w.heap.size w W → Calls Tryd.prog 14 #[VS k n s] W (Ret (.tuple #[.string X, .int .i64 0]) W)) (C2 : ∀ W, Below w.heap.size w W → Calls Tryd.prog 14 #[VS k' n' s'] W (Ret (.tuple #[.string Y, .int .i64 e1]) W)) : Calls Tryd.prog 35 #[VS k n s, VS k' n' s'] w (Ret (.tuple #[VS 0 0 ⟨#[]⟩, .int .i64 e1]) w) := by
  have H1 := Lib.hid C1
  have H2 := Lib.hid C2
  clear C1 C2
  have t1 : (e1 != 0) = true := by simpa using he
  have t2 : ¬ e1 = 0 := he
  go_enter Tryd.func35, Tryd.ntmps35
  go_wp2_with fail
  have k_a := ((Blk.new w 27 #[.int .i64 k, .int .i64 n, .string s]).alloc (.cells #[.int .i64 (k'), .int .i64 (n'), .string (s')] 27)).alloc (.cells #[.int .i64 0, .int .i64 0, .string ⟨#[]⟩] 27)
  have k_b := (Blk.new (w.alloc (.cells #[.int .i64 k, .int .i64 n, .string s] 27)) 27 #[.int .i64 (k'), .int .i64 (n'), .string (s')]).alloc (.cells #[.int .i64 0, .int .i64 0, .string ⟨#[]⟩] 27)
  rw [World.size_alloc] at k_b
  have k_r := Blk.new ((w.alloc (.cells #[.int .i64 k, .int .i64 n, .string s] 27)).alloc (.cells #[.int .i64 (k'), .int .i64 (n'), .string (s')] 27)) 27 #[.int .i64 0, .int .i64 0, .string ⟨#[]⟩]
  rw [World.size_alloc, World.size_alloc] at k_r
  have bb : Below w.heap.size w _ := ((((Below.refl _ _).alloc (Nat.le_refl _) (.cells #[.int .i64 k, .int .i64 n, .string s] 27)).alloc (by simp) (.cells #[.int .i64 (k'), .int .i64 (n'), .string (s')] 27)).alloc (by simp; omega) (.cells #[.int .i64 0, .int .i64 0, .string ⟨#[]⟩] 27))
  generalize (((w.alloc (.cells #[.int .i64 k, .int .i64 n, .string s] 27)).alloc (.cells #[.int .i64 (k'), .int .i64 (n'), .string (s')] 27)).alloc (.cells #[.int .i64 0, .int .i64 0, .string ⟨#[]⟩] 27)) = W0 at *
  refine (H1.out _ bb).mono ?_
  rintro e w1 ⟨rfl, b1⟩
  have k_a := k_a.below b1 k_a.lt
  have k_b := k_b.below b1 k_b.lt
  have k_r := k_r.below b1 k_r.lt
  have bb := bb.trans (b1.mono bb.size)
  have x_a0 : w1.cell? ⟨w.heap.size, 0, none⟩ = some (.int .i64 k) := by rw [k_a.cell]; rfl
  have x_a1 : w1.cell? ⟨w.heap.size, 1, none⟩ = some (.int .i64 n) := by rw [k_a.cell]; rfl
  have x_a2 : w1.cell? ⟨w.heap.size, 2, none⟩ = some (.string s) := by rw [k_a.cell]; rfl
  have l_a := k_a.lt
  have x_b0 : w1.cell? ⟨w.heap.size + 1, 0, none⟩ = some (.int .i64 (k')) := by rw [k_b.cell]; rfl
  have x_b1 : w1.cell? ⟨w.heap.size + 1, 1, none⟩ = some (.int .i64 (n')) := by rw [k_b.cell]; rfl
  have x_b2 : w1.cell? ⟨w.heap.size + 1, 2, none⟩ = some (.string (s')) := by rw [k_b.cell]; rfl
  have l_b := k_b.lt
  have x_r0 : w1.cell? ⟨w.heap.size + 1 + 1, 0, none⟩ = some (.int .i64 0) := by rw [k_r.cell]; rfl
  have x_r1 : w1.cell? ⟨w.heap.size + 1 + 1, 1, none⟩ = some (.int .i64 0) := by rw [k_r.cell]; rfl
  have x_r2 : w1.cell? ⟨w.heap.size + 1 + 1, 2, none⟩ = some (.string ⟨#[]⟩) := by rw [k_r.cell]; rfl
  have l_r := k_r.lt
  go_wp2_with fail
  refine (H2.out _ bb).mono ?_
  rintro e w2 ⟨rfl, b2⟩
  clear x_a0 x_a1 x_a2 l_a x_b0 x_b1 x_b2 l_b x_r0 x_r1 x_r2 l_r
  have k_a := k_a.below b2 k_a.lt
  have k_b := k_b.below b2 k_b.lt
  have k_r := k_r.below b2 k_r.lt
  have bb := bb.trans (b2.mono bb.size)
  have x_a0 : w2.cell? ⟨w.heap.size, 0, none⟩ = some (.int .i64 k) := by rw [k_a.cell]; rfl
  have x_a1 : w2.cell? ⟨w.heap.size, 1, none⟩ = some (.int .i64 n) := by rw [k_a.cell]; rfl
  have x_a2 : w2.cell? ⟨w.heap.size, 2, none⟩ = some (.string s) := by rw [k_a.cell]; rfl
  have l_a := k_a.lt
  have x_b0 : w2.cell? ⟨w.heap.size + 1, 0, none⟩ = some (.int .i64 (k')) := by rw [k_b.cell]; rfl
  have x_b1 : w2.cell? ⟨w.heap.size + 1, 1, none⟩ = some (.int .i64 (n')) := by rw [k_b.cell]; rfl
  have x_b2 : w2.cell? ⟨w.heap.size + 1, 2, none⟩ = some (.string (s')) := by rw [k_b.cell]; rfl
  have l_b := k_b.lt
  have x_r0 : w2.cell? ⟨w.heap.size + 1 + 1, 0, none⟩ = some (.int .i64 0) := by rw [k_r.cell]; rfl
  have x_r1 : w2.cell? ⟨w.heap.size + 1 + 1, 1, none⟩ = some (.int .i64 0) := by rw [k_r.cell]; rfl
  have x_r2 : w2.cell? ⟨w.heap.size + 1 + 1, 2, none⟩ = some (.string ⟨#[]⟩) := by rw [k_r.cell]; rfl
  have l_r := k_r.lt
  have z_r0 := k_r.frozen 0
  have z_r1 := k_r.frozen 1
  have z_r2 := k_r.frozen 2
  go_wp2
  exact bodyPost_ret (v := .tuple #[VS 0 0 ⟨#[]⟩, .int .i64 e1]) (by simp [results, Tryd.results35, go_sem, x_r0, x_r1, x_r2, l_r]) rfl ⟨rfl, (((bb).setCell (p := ⟨w.heap.size + 1 + 1, 0, none⟩) (by first | exact Nat.le_refl _ | (simp; done) | (simp; omega) | omega) _).setCell (p := ⟨w.heap.size + 1 + 1, 1, none⟩) (by first | exact Nat.le_refl _ | (simp; done) | (simp; omega) | omega) _).setCell (p := ⟨w.heap.size + 1 + 1, 2, none⟩) (by first | exact Nat.le_refl _ | (simp; done) | (simp; omega) | omega) _⟩
set_option maxHeartbeats 4000000 in
set_option maxRecDepth 100000 in
theorem join_ok (w : World) (X Y Z : ByteArray) (C1 : ∀ W, Below w.heap.size w W → Calls Tryd.prog 14 #[VS k n s] W (Ret (.tuple #[.string X, .int .i64 0]) W)) (C2 : ∀ W, Below w.heap.size w W → Calls Tryd.prog 14 #[VS k' n' s'] W (Ret (.tuple #[.string Y, .int .i64 0]) W)) (C3 : ∀ W, Calls Tryd.prog 51 #[.string X, .string Y] W fun e w' => e = .returned (.tuple #[.string Z, .bool true]) ∧ W = w') : Calls Tryd.prog 35 #[VS k n s, VS k' n' s'] w (Ret (.tuple #[VS 7 0 Z, .int .i64 0]) w) := by
  have H1 := Lib.hid C1
  have H2 := Lib.hid C2
  have H3 := Lib.hid C3
  clear C1 C2 C3
  go_enter Tryd.func35, Tryd.ntmps35
  go_wp2_with fail
  have k_a := ((Blk.new w 27 #[.int .i64 k, .int .i64 n, .string s]).alloc (.cells #[.int .i64 (k'), .int .i64 (n'), .string (s')] 27)).alloc (.cells #[.int .i64 0, .int .i64 0, .string ⟨#[]⟩] 27)
  have k_b := (Blk.new (w.alloc (.cells #[.int .i64 k, .int .i64 n, .string s] 27)) 27 #[.int .i64 (k'), .int .i64 (n'), .string (s')]).alloc (.cells #[.int .i64 0, .int .i64 0, .string ⟨#[]⟩] 27)
  rw [World.size_alloc] at k_b
  have k_r := Blk.new ((w.alloc (.cells #[.int .i64 k, .int .i64 n, .string s] 27)).alloc (.cells #[.int .i64 (k'), .int .i64 (n'), .string (s')] 27)) 27 #[.int .i64 0, .int .i64 0, .string ⟨#[]⟩]
  rw [World.size_alloc, World.size_alloc] at k_r
  have bb : Below w.heap.size w _ := ((((Below.refl _ _).alloc (Nat.le_refl _) (.cells #[.int .i64 k, .int .i64 n, .string s] 27)).alloc (by simp) (.cells #[.int .i64 (k'), .int .i64 (n'), .string (s')] 27)).alloc (by simp; omega) (.cells #[.int .i64 0, .int .i64 0, .string ⟨#[]⟩] 27))
  generalize (((w.alloc (.cells #[.int .i64 k, .int .i64 n, .string s] 27)).alloc (.cells #[.int .i64 (k'), .int .i64 (n'), .string (s')] 27)).alloc (.cells #[.int .i64 0, .int .i64 0, .string ⟨#[]⟩] 27)) = W0 at *
  refine (H1.out _ bb).mono ?_
  rintro e w1 ⟨rfl, b1⟩
  have k_a := k_a.below b1 k_a.lt
  have k_b := k_b.below b1 k_b.lt
  have k_r := k_r.below b1 k_r.lt
  have bb := bb.trans (b1.mono bb.size)
  have x_a0 : w1.cell? ⟨w.heap.size, 0, none⟩ = some (.int .i64 k) := by rw [k_a.cell]; rfl
  have x_a1 : w1.cell? ⟨w.heap.size, 1, none⟩ = some (.int .i64 n) := by rw [k_a.cell]; rfl
  have x_a2 : w1.cell? ⟨w.heap.size, 2, none⟩ = some (.string s) := by rw [k_a.cell]; rfl
  have l_a := k_a.lt
  have x_b0 : w1.cell? ⟨w.heap.size + 1, 0, none⟩ = some (.int .i64 (k')) := by rw [k_b.cell]; rfl
  have x_b1 : w1.cell? ⟨w.heap.size + 1, 1, none⟩ = some (.int .i64 (n')) := by rw [k_b.cell]; rfl
  have x_b2 : w1.cell? ⟨w.heap.size + 1, 2, none⟩ = some (.string (s')) := by rw [k_b.cell]; rfl
  have l_b := k_b.lt
  have x_r0 : w1.cell? ⟨w.heap.size + 1 + 1, 0, none⟩ = some (.int .i64 0) := by rw [k_r.cell]; rfl
  have x_r1 : w1.cell? ⟨w.heap.size + 1 + 1, 1, none⟩ = some (.int .i64 0) := by rw [k_r.cell]; rfl
  have x_r2 : w1.cell? ⟨w.heap.size + 1 + 1, 2, none⟩ = some (.string ⟨#[]⟩) := by rw [k_r.cell]; rfl
  have l_r := k_r.lt
  go_wp2_with fail
  refine (H2.out _ bb).mono ?_
  rintro e w2 ⟨rfl, b2⟩
  clear x_a0 x_a1 x_a2 l_a x_b0 x_b1 x_b2 l_b x_r0 x_r1 x_r2 l_r
  have k_a := k_a.below b2 k_a.lt
  have k_b := k_b.below b2 k_b.lt
  have k_r := k_r.below b2 k_r.lt
  have bb := bb.trans (b2.mono bb.size)
  have x_a0 : w2.cell? ⟨w.heap.size, 0, none⟩ = some (.int .i64 k) := by rw [k_a.cell]; rfl
  have x_a1 : w2.cell? ⟨w.heap.size, 1, none⟩ = some (.int .i64 n) := by rw [k_a.cell]; rfl
  have x_a2 : w2.cell? ⟨w.heap.size, 2, none⟩ = some (.string s) := by rw [k_a.cell]; rfl
  have l_a := k_a.lt
  have x_b0 : w2.cell? ⟨w.heap.size + 1, 0, none⟩ = some (.int .i64 (k')) := by rw [k_b.cell]; rfl
  have x_b1 : w2.cell? ⟨w.heap.size + 1, 1, none⟩ = some (.int .i64 (n')) := by rw [k_b.cell]; rfl
  have x_b2 : w2.cell? ⟨w.heap.size + 1, 2, none⟩ = some (.string (s')) := by rw [k_b.cell]; rfl
  have l_b := k_b.lt
  have x_r0 : w2.cell? ⟨w.heap.size + 1 + 1, 0, none⟩ = some (.int .i64 0) := by rw [k_r.cell]; rfl
  have x_r1 : w2.cell? ⟨w.heap.size + 1 + 1, 1, none⟩ = some (.int .i64 0) := by rw [k_r.cell]; rfl
  have x_r2 : w2.cell? ⟨w.heap.size + 1 + 1, 2, none⟩ = some (.string ⟨#[]⟩) := by rw [k_r.cell]; rfl
  have l_r := k_r.lt
  go_wp2_with fail
  refine (H3.out _).mono ?_
  rintro e w3 ⟨rfl, rfl⟩
  have z_r0 := k_r.frozen 0
  have z_r1 := k_r.frozen 1
  have z_r2 := k_r.frozen 2
  go_wp2
  exact bodyPost_ret (v := .tuple #[VS 7 0 Z, .int .i64 0]) (by simp [results, Tryd.results35, go_sem, x_r0, x_r1, x_r2, l_r]) rfl ⟨rfl, (((bb).setCell (p := ⟨w.heap.size + 1 + 1, 0, none⟩) (by first | exact Nat.le_refl _ | (simp; done) | (simp; omega) | omega) _).setCell (p := ⟨w.heap.size + 1 + 1, 1, none⟩) (by first | exact Nat.le_refl _ | (simp; done) | (simp; omega) | omega) _).setCell (p := ⟨w.heap.size + 1 + 1, 2, none⟩) (by first | exact Nat.le_refl _ | (simp; done) | (simp; omega) | omega) _⟩
set_option maxHeartbeats 4000000 in
set_option maxRecDepth 100000 in
theorem join_no (w : World) (X Y : ByteArray) (C1 : ∀ W, Below w.heap.size w W → Calls Tryd.prog 14 #[VS k n s] W (Ret (.tuple #[.string X, .int .i64 0]) W)) (C2 : ∀ W, Below w.heap.size w W → Calls Tryd.prog 14 #[VS k' n' s'] W (Ret (.tuple #[.string Y, .int .i64 0]) W)) (C3 : ∀ W, Calls Tryd.prog 51 #[.string X, .string Y] W fun e w' => e = .returned (.tuple #[.string ⟨#[]⟩, .bool false]) ∧ W = w') : Calls Tryd.prog 35 #[VS k n s, VS k' n' s'] w (Ret (.tuple #[VS 0 0 ⟨#[]⟩, .int .i64 2]) w) := by
  have H1 := Lib.hid C1
  have H2 := Lib.hid C2
  have H3 := Lib.hid C3
  clear C1 C2 C3
  go_enter Tryd.func35, Tryd.ntmps35
  go_wp2_with fail
  have k_a := ((Blk.new w 27 #[.int .i64 k, .int .i64 n, .string s]).alloc (.cells #[.int .i64 (k'), .int .i64 (n'), .string (s')] 27)).alloc (.cells #[.int .i64 0, .int .i64 0, .string ⟨#[]⟩] 27)
  have k_b := (Blk.new (w.alloc (.cells #[.int .i64 k, .int .i64 n, .string s] 27)) 27 #[.int .i64 (k'), .int .i64 (n'), .string (s')]).alloc (.cells #[.int .i64 0, .int .i64 0, .string ⟨#[]⟩] 27)
  rw [World.size_alloc] at k_b
  have k_r := Blk.new ((w.alloc (.cells #[.int .i64 k, .int .i64 n, .string s] 27)).alloc (.cells #[.int .i64 (k'), .int .i64 (n'), .string (s')] 27)) 27 #[.int .i64 0, .int .i64 0, .string ⟨#[]⟩]
  rw [World.size_alloc, World.size_alloc] at k_r
  have bb : Below w.heap.size w _ := ((((Below.refl _ _).alloc (Nat.le_refl _) (.cells #[.int .i64 k, .int .i64 n, .string s] 27)).alloc (by simp) (.cells #[.int .i64 (k'), .int .i64 (n'), .string (s')] 27)).alloc (by simp; omega) (.cells #[.int .i64 0, .int .i64 0, .string ⟨#[]⟩] 27))
  generalize (((w.alloc (.cells #[.int .i64 k, .int .i64 n, .string s] 27)).alloc (.cells #[.int .i64 (k'), .int .i64 (n'), .string (s')] 27)).alloc (.cells #[.int .i64 0, .int .i64 0, .string ⟨#[]⟩] 27)) = W0 at *
  refine (H1.out _ bb).mono ?_
  rintro e w1 ⟨rfl, b1⟩
  have k_a := k_a.below b1 k_a.lt
  have k_b := k_b.below b1 k_b.lt
  have k_r := k_r.below b1 k_r.lt
  have bb := bb.trans (b1.mono bb.size)
  have x_a0 : w1.cell? ⟨w.heap.size, 0, none⟩ = some (.int .i64 k) := by rw [k_a.cell]; rfl
  have x_a1 : w1.cell? ⟨w.heap.size, 1, none⟩ = some (.int .i64 n) := by rw [k_a.cell]; rfl
  have x_a2 : w1.cell? ⟨w.heap.size, 2, none⟩ = some (.string s) := by rw [k_a.cell]; rfl
  have l_a := k_a.lt
  have x_b0 : w1.cell? ⟨w.heap.size + 1, 0, none⟩ = some (.int .i64 (k')) := by rw [k_b.cell]; rfl
  have x_b1 : w1.cell? ⟨w.heap.size + 1, 1, none⟩ = some (.int .i64 (n')) := by rw [k_b.cell]; rfl
  have x_b2 : w1.cell? ⟨w.heap.size + 1, 2, none⟩ = some (.string (s')) := by rw [k_b.cell]; rfl
  have l_b := k_b.lt
  have x_r0 : w1.cell? ⟨w.heap.size + 1 + 1, 0, none⟩ = some (.int .i64 0) := by rw [k_r.cell]; rfl
  have x_r1 : w1.cell? ⟨w.heap.size + 1 + 1, 1, none⟩ = some (.int .i64 0) := by rw [k_r.cell]; rfl
  have x_r2 : w1.cell? ⟨w.heap.size + 1 + 1, 2, none⟩ = some (.string ⟨#[]⟩) := by rw [k_r.cell]; rfl
  have l_r := k_r.lt
  go_wp2_with fail
  refine (H2.out _ bb).mono ?_
  rintro e w2 ⟨rfl, b2⟩
  clear x_a0 x_a1 x_a2 l_a x_b0 x_b1 x_b2 l_b x_r0 x_r1 x_r2 l_r
  have k_a := k_a.below b2 k_a.lt
  have k_b := k_b.below b2 k_b.lt
  have k_r := k_r.below b2 k_r.lt
  have bb := bb.trans (b2.mono bb.size)
  have x_a0 : w2.cell? ⟨w.heap.size, 0, none⟩ = some (.int .i64 k) := by rw [k_a.cell]; rfl
  have x_a1 : w2.cell? ⟨w.heap.size, 1, none⟩ = some (.int .i64 n) := by rw [k_a.cell]; rfl
  have x_a2 : w2.cell? ⟨w.heap.size, 2, none⟩ = some (.string s) := by rw [k_a.cell]; rfl
  have l_a := k_a.lt
  have x_b0 : w2.cell? ⟨w.heap.size + 1, 0, none⟩ = some (.int .i64 (k')) := by rw [k_b.cell]; rfl
  have x_b1 : w2.cell? ⟨w.heap.size + 1, 1, none⟩ = some (.int .i64 (n')) := by rw [k_b.cell]; rfl
  have x_b2 : w2.cell? ⟨w.heap.size + 1, 2, none⟩ = some (.string (s')) := by rw [k_b.cell]; rfl
  have l_b := k_b.lt
  have x_r0 : w2.cell? ⟨w.heap.size + 1 + 1, 0, none⟩ = some (.int .i64 0) := by rw [k_r.cell]; rfl
  have x_r1 : w2.cell? ⟨w.heap.size + 1 + 1, 1, none⟩ = some (.int .i64 0) := by rw [k_r.cell]; rfl
  have x_r2 : w2.cell? ⟨w.heap.size + 1 + 1, 2, none⟩ = some (.string ⟨#[]⟩) := by rw [k_r.cell]; rfl
  have l_r := k_r.lt
  go_wp2_with fail
  refine (H3.out _).mono ?_
  rintro e w3 ⟨rfl, rfl⟩
  have z_r0 := k_r.frozen 0
  have z_r1 := k_r.frozen 1
  have z_r2 := k_r.frozen 2
  go_wp2
  exact bodyPost_ret (v := .tuple #[VS 0 0 ⟨#[]⟩, .int .i64 2]) (by simp [results, Tryd.results35, go_sem, x_r0, x_r1, x_r2, l_r]) rfl ⟨rfl, (((bb).setCell (p := ⟨w.heap.size + 1 + 1, 0, none⟩) (by first | exact Nat.le_refl _ | (simp; done) | (simp; omega) | omega) _).setCell (p := ⟨w.heap.size + 1 + 1, 1, none⟩) (by first | exact Nat.le_refl _ | (simp; done) | (simp; omega) | omega) _).setCell (p := ⟨w.heap.size + 1 + 1, 2, none⟩) (by first | exact Nat.le_refl _ | (simp; done) | (simp; omega) | omega) _⟩
end Go.Proofs.YtjkboelcpihphaaDoor
