/- Contracts of the reference's number, Number and Text (layer 3), and of value.Property. -/
import Derived.Test.YtjkboelcpihphaaDoorValH
set_option linter.unusedVariables false
set_option linter.unusedSimpArgs false
namespace Go.Proofs.YtjkboelcpihphaaDoor
open Go.RowKit

/-- The tables of package utf8 read as they were laid. -/
def Ut (w : World) : Prop := Lib.Utf8Tabs 0 1 w ∧ 2 ≤ w.heap.size
theorem Ut.below {w W : World} (h : Ut w) (b : Below w.heap.size w W) : Ut W := ⟨Tx.tabs_below h.1 b (by have := h.2; show 0 < _; omega) (by have := h.2; show 1 < _; omega), Nat.le_trans h.2 b.size⟩
theorem uT_eq (b : ByteArray) : uT b = Tx.uS (Tx.unitsOf b) := rfl
theorem units_u (b : ByteArray) (W : World) (hU : Ut W) (hs : b.size ≤ 1000) : Calls Tryd.prog 50 #[.string b] W fun e w' => ∃ a cap, e = .returned (.slice a (Tx.unitsOf b).length cap) ∧ Tx.SliceR .i64 w' a (Tx.unitsOf b).length cap (Tx.ints (Tx.unitsOf b)) ∧ Below W.heap.size W w' := by
  refine (Tx.units_any b W (by omega) hU.1 hU.2).mono ?_
  rintro e w' ⟨v, rfl, hown, hb⟩
  have hlI : (Tx.ints (Tx.unitsOf b)).length = (Tx.unitsOf b).length := Tx.ints_length _
  rw [← hlI] at hown
  obtain ⟨a, cap, rfl, hR, _⟩ := Tx.sliceR_own hown
  rw [hlI] at hR
  exact ⟨a, cap, by rw [hlI], hR, hb⟩
theorem str_u (b : ByteArray) (a : Option Addr) (cap : Nat) (W : World) (hR : Tx.SliceR .i64 W a (Tx.unitsOf b).length cap (Tx.ints (Tx.unitsOf b))) (hs : b.size ≤ 1000) :
    Calls Tryd.prog 13 #[.slice a (Tx.unitsOf b).length cap] W (Ret (.string (uT b)) W) :=
  Tx.str_any a _ cap (Tx.unitsOf b) W hR (Tx.decUnits_fits _ _ _) (by have := Tx.decUnits_length b b.size 0; unfold Tx.unitsOf; omega)

set_option maxHeartbeats 2000000 in
theorem rnum_0 (n : Int) (s : ByteArray) (w : World) : Calls Tryd.prog 42 #[VS 0 n s] w (Ret (.bool false) w) := by
  go_enter Tryd.func42, Tryd.ntmps42
  go_wp2
  go_ret
  exact ⟨rfl, (Below.refl _ _).alloc (Nat.le_refl _) _⟩
set_option maxHeartbeats 2000000 in
theorem rnum_1 (n : Int) (s : ByteArray) (w : World) : Calls Tryd.prog 42 #[VS 1 n s] w (Ret (.bool false) w) := by
  go_enter Tryd.func42, Tryd.ntmps42
  go_wp2
  go_ret
  exact ⟨rfl, (Below.refl _ _).alloc (Nat.le_refl _) _⟩
set_option maxHeartbeats 2000000 in
theorem rnum_2 (n : Int) (s : ByteArray) (w : World) : Calls Tryd.prog 42 #[VS 2 n s] w (Ret (.bool false) w) := by
  go_enter Tryd.func42, Tryd.ntmps42
  go_wp2
  go_ret
  exact ⟨rfl, (Below.refl _ _).alloc (Nat.le_refl _) _⟩
set_option maxHeartbeats 2000000 in
theorem rnum_3 (n : Int) (s : ByteArray) (w : World) : Calls Tryd.prog 42 #[VS 3 n s] w (Ret (.bool true) w) := by
  go_enter Tryd.func42, Tryd.ntmps42
  go_wp2
  go_ret
  exact ⟨rfl, (Below.refl _ _).alloc (Nat.le_refl _) _⟩
set_option maxHeartbeats 2000000 in
theorem rnum_4 (n : Int) (s : ByteArray) (w : World) : Calls Tryd.prog 42 #[VS 4 n s] w (Ret (.bool true) w) := by
  go_enter Tryd.func42, Tryd.ntmps42
  go_wp2
  go_ret
  exact ⟨rfl, (Below.refl _ _).alloc (Nat.le_refl _) _⟩
set_option maxHeartbeats 2000000 in
theorem rnum_5 (n : Int) (s : ByteArray) (w : World) : Calls Tryd.prog 42 #[VS 5 n s] w (Ret (.bool true) w) := by
  go_enter Tryd.func42, Tryd.ntmps42
  go_wp2
  go_ret
  exact ⟨rfl, (Below.refl _ _).alloc (Nat.le_refl _) _⟩
set_option maxHeartbeats 2000000 in
theorem rnum_6 (n : Int) (s : ByteArray) (w : World) : Calls Tryd.prog 42 #[VS 6 n s] w (Ret (.bool true) w) := by
  go_enter Tryd.func42, Tryd.ntmps42
  go_wp2
  go_ret
  exact ⟨rfl, (Below.refl _ _).alloc (Nat.le_refl _) _⟩
set_option maxHeartbeats 2000000 in
theorem rnum_7 (n : Int) (s : ByteArray) (w : World) : Calls Tryd.prog 42 #[VS 7 n s] w (Ret (.bool false) w) := by
  go_enter Tryd.func42, Tryd.ntmps42
  go_wp2
  go_ret
  exact ⟨rfl, (Below.refl _ _).alloc (Nat.le_refl _) _⟩
set_option maxHeartbeats 2000000 in
theorem rnum_8 (n : Int) (s : ByteArray) (w : World) : Calls Tryd.prog 42 #[VS 8 n s] w (Ret (.bool false) w) := by
  go_enter Tryd.func42, Tryd.ntmps42
  go_wp2
  go_ret
  exact ⟨rfl, (Below.refl _ _).alloc (Nat.le_refl _) _⟩
set_option maxHeartbeats 2000000 in
theorem rnum_9 (n : Int) (s : ByteArray) (w : World) : Calls Tryd.prog 42 #[VS 9 n s] w (Ret (.bool false) w) := by
  go_enter Tryd.func42, Tryd.ntmps42
  go_wp2
  go_ret
  exact ⟨rfl, (Below.refl _ _).alloc (Nat.le_refl _) _⟩
set_option maxHeartbeats 2000000 in
theorem rnum_10 (n : Int) (s : ByteArray) (w : World) : Calls Tryd.prog 42 #[VS 10 n s] w (Ret (.bool false) w) := by
  go_enter Tryd.func42, Tryd.ntmps42
  go_wp2
  go_ret
  exact ⟨rfl, (Below.refl _ _).alloc (Nat.le_refl _) _⟩
theorem rnum_any (k n : Int) (s : ByteArray) (w : World) (h0 : 0 ≤ k) (h1 : k ≤ 10) : Calls Tryd.prog 42 #[VS k n s] w (Ret (.bool (isN k)) w) := by
  have h : k = 0 ∨ k = 1 ∨ k = 2 ∨ k = 3 ∨ k = 4 ∨ k = 5 ∨ k = 6 ∨ k = 7 ∨ k = 8 ∨ k = 9 ∨ k = 10 := by omega
  rcases h with rfl | rfl | rfl | rfl | rfl | rfl | rfl | rfl | rfl | rfl | rfl
  · exact rnum_0 n s w
  · exact rnum_1 n s w
  · exact rnum_2 n s w
  · exact rnum_3 n s w
  · exact rnum_4 n s w
  · exact rnum_5 n s w
  · exact rnum_6 n s w
  · exact rnum_7 n s w
  · exact rnum_8 n s w
  · exact rnum_9 n s w
  · exact rnum_10 n s w
set_option maxHeartbeats 2000000 in
theorem rnumber_0 (n : Int) (s : ByteArray) (w : World) : Calls Tryd.prog 30 #[VS 0 n s] w (Ret (NF (4, 0, 0)) w) := by
  go_enter Tryd.func30, Tryd.ntmps30
  go_wp2
  exact bodyPost_ret (v := NF (4, 0, 0)) (by simp [results, Tryd.results30, go_sem]) rfl ⟨rfl, ((Below.refl _ _).alloc (Nat.le_refl _) _).alloc (by simp) _⟩
set_option maxHeartbeats 2000000 in
theorem rnumber_1 (n : Int) (s : ByteArray) (w : World) : Calls Tryd.prog 30 #[VS 1 n s] w (Ret (NF (3, n, 0)) w) := by
  go_enter Tryd.func30, Tryd.ntmps30
  go_wp2
  exact bodyPost_ret (v := NF (3, n, 0)) (by simp [results, Tryd.results30, go_sem]) rfl ⟨rfl, ((Below.refl _ _).alloc (Nat.le_refl _) _).alloc (by simp) _⟩
set_option maxHeartbeats 2000000 in
theorem rnumber_2 (n : Int) (s : ByteArray) (w : World) : Calls Tryd.prog 30 #[VS 2 n s] w (Ret (NF (3, n, 0)) w) := by
  go_enter Tryd.func30, Tryd.ntmps30
  go_wp2
  exact bodyPost_ret (v := NF (3, n, 0)) (by simp [results, Tryd.results30, go_sem]) rfl ⟨rfl, ((Below.refl _ _).alloc (Nat.le_refl _) _).alloc (by simp) _⟩
set_option maxHeartbeats 2000000 in
theorem rnumber_3 (n : Int) (w : World) : Calls Tryd.prog 30 #[VS 3 n ⟨#[]⟩] w (Ret (NF (3, n, 0)) w) := by
  go_enter Tryd.func30, Tryd.ntmps30
  go_wp2_with fail
  refine (rnum_3 _ _ _).mono ?_
  rintro e w1 ⟨rfl, b1⟩
  obtain ⟨hc, hf⟩ := bcell b1
  have hz : w.heap.size + 1 < w1.heap.size := by have := b1.size; simp at this; omega
  go_wp2
  exact bodyPost_ret (v := NF (3, n, 0)) (by simp [results, Tryd.results30, go_sem, hc]) rfl ⟨rfl, ((((((Below.refl _ _).alloc (Nat.le_refl _) _).alloc (by simp) _).trans (b1.mono (by simp; omega))).setCell (p := ⟨w.heap.size + 1, 0, none⟩) (by simp) _).setCell (p := ⟨w.heap.size + 1, 1, none⟩) (by simp) _).setCell (p := ⟨w.heap.size + 1, 2, none⟩) (by simp) _⟩
set_option maxHeartbeats 2000000 in
theorem rnumber_4 (n : Int) (w : World) : Calls Tryd.prog 30 #[VS 4 n ⟨#[]⟩] w (Ret (NF (4, n, 0)) w) := by
  go_enter Tryd.func30, Tryd.ntmps30
  go_wp2_with fail
  refine (rnum_4 _ _ _).mono ?_
  rintro e w1 ⟨rfl, b1⟩
  obtain ⟨hc, hf⟩ := bcell b1
  have hz : w.heap.size + 1 < w1.heap.size := by have := b1.size; simp at this; omega
  go_wp2
  exact bodyPost_ret (v := NF (4, n, 0)) (by simp [results, Tryd.results30, go_sem, hc]) rfl ⟨rfl, ((((((Below.refl _ _).alloc (Nat.le_refl _) _).alloc (by simp) _).trans (b1.mono (by simp; omega))).setCell (p := ⟨w.heap.size + 1, 0, none⟩) (by simp) _).setCell (p := ⟨w.heap.size + 1, 1, none⟩) (by simp) _).setCell (p := ⟨w.heap.size + 1, 2, none⟩) (by simp) _⟩
set_option maxHeartbeats 2000000 in
theorem rnumber_5 (n : Int) (w : World) : Calls Tryd.prog 30 #[VS 5 n ⟨#[]⟩] w (Ret (NF (5, n, 0)) w) := by
  go_enter Tryd.func30, Tryd.ntmps30
  go_wp2_with fail
  refine (rnum_5 _ _ _).mono ?_
  rintro e w1 ⟨rfl, b1⟩
  obtain ⟨hc, hf⟩ := bcell b1
  have hz : w.heap.size + 1 < w1.heap.size := by have := b1.size; simp at this; omega
  go_wp2
  exact bodyPost_ret (v := NF (5, n, 0)) (by simp [results, Tryd.results30, go_sem, hc]) rfl ⟨rfl, ((((((Below.refl _ _).alloc (Nat.le_refl _) _).alloc (by simp) _).trans (b1.mono (by simp; omega))).setCell (p := ⟨w.heap.size + 1, 0, none⟩) (by simp) _).setCell (p := ⟨w.heap.size + 1, 1, none⟩) (by simp) _).setCell (p := ⟨w.heap.size + 1, 2, none⟩) (by simp) _⟩
set_option maxHeartbeats 2000000 in
theorem rnumber_6 (n : Int) (w : World) : Calls Tryd.prog 30 #[VS 6 n ⟨#[]⟩] w (Ret (NF (6, n, 0)) w) := by
  go_enter Tryd.func30, Tryd.ntmps30
  go_wp2_with fail
  refine (rnum_6 _ _ _).mono ?_
  rintro e w1 ⟨rfl, b1⟩
  obtain ⟨hc, hf⟩ := bcell b1
  have hz : w.heap.size + 1 < w1.heap.size := by have := b1.size; simp at this; omega
  go_wp2
  exact bodyPost_ret (v := NF (6, n, 0)) (by simp [results, Tryd.results30, go_sem, hc]) rfl ⟨rfl, ((((((Below.refl _ _).alloc (Nat.le_refl _) _).alloc (by simp) _).trans (b1.mono (by simp; omega))).setCell (p := ⟨w.heap.size + 1, 0, none⟩) (by simp) _).setCell (p := ⟨w.heap.size + 1, 1, none⟩) (by simp) _).setCell (p := ⟨w.heap.size + 1, 2, none⟩) (by simp) _⟩
set_option maxHeartbeats 2000000 in
theorem rnumber_8 (n : Int) (s : ByteArray) (w : World) : Calls Tryd.prog 30 #[VS 8 n s] w (Ret (NF (0, 0, 1)) w) := by
  go_enter Tryd.func30, Tryd.ntmps30
  go_wp2
  exact bodyPost_ret (v := NF (0, 0, 1)) (by simp [results, Tryd.results30, go_sem]) rfl ⟨rfl, ((Below.refl _ _).alloc (Nat.le_refl _) _).alloc (by simp) _⟩
set_option maxHeartbeats 2000000 in
theorem rnumber_7 (n : Int) (s : ByteArray) (w : World) : Calls Tryd.prog 30 #[VS 7 n s] w (Ret (NF (0, 0, 2)) w) := by
  go_enter Tryd.func30, Tryd.ntmps30
  go_wp2_with fail
  refine (rnum_7 _ _ _).mono ?_
  rintro e w1 ⟨rfl, b1⟩
  obtain ⟨hc, hf⟩ := bcell b1
  have hz : w.heap.size + 1 < w1.heap.size := by have := b1.size; simp at this; omega
  go_wp2
  exact bodyPost_ret (v := NF (0, 0, 2)) (by simp [results, Tryd.results30, go_sem, hc]) rfl ⟨rfl, ((((((Below.refl _ _).alloc (Nat.le_refl _) _).alloc (by simp) _).trans (b1.mono (by simp; omega))).setCell (p := ⟨w.heap.size + 1, 0, none⟩) (by simp) _).setCell (p := ⟨w.heap.size + 1, 1, none⟩) (by simp) _).setCell (p := ⟨w.heap.size + 1, 2, none⟩) (by simp) _⟩
set_option maxHeartbeats 2000000 in
theorem rnumber_9 (n : Int) (s : ByteArray) (w : World) : Calls Tryd.prog 30 #[VS 9 n s] w (Ret (NF (0, 0, 2)) w) := by
  go_enter Tryd.func30, Tryd.ntmps30
  go_wp2_with fail
  refine (rnum_9 _ _ _).mono ?_
  rintro e w1 ⟨rfl, b1⟩
  obtain ⟨hc, hf⟩ := bcell b1
  have hz : w.heap.size + 1 < w1.heap.size := by have := b1.size; simp at this; omega
  go_wp2
  exact bodyPost_ret (v := NF (0, 0, 2)) (by simp [results, Tryd.results30, go_sem, hc]) rfl ⟨rfl, ((((((Below.refl _ _).alloc (Nat.le_refl _) _).alloc (by simp) _).trans (b1.mono (by simp; omega))).setCell (p := ⟨w.heap.size + 1, 0, none⟩) (by simp) _).setCell (p := ⟨w.heap.size + 1, 1, none⟩) (by simp) _).setCell (p := ⟨w.heap.size + 1, 2, none⟩) (by simp) _⟩
set_option maxHeartbeats 2000000 in
theorem rnumber_10 (n : Int) (s : ByteArray) (w : World) : Calls Tryd.prog 30 #[VS 10 n s] w (Ret (NF (0, 0, 2)) w) := by
  go_enter Tryd.func30, Tryd.ntmps30
  go_wp2_with fail
  refine (rnum_10 _ _ _).mono ?_
  rintro e w1 ⟨rfl, b1⟩
  obtain ⟨hc, hf⟩ := bcell b1
  have hz : w.heap.size + 1 < w1.heap.size := by have := b1.size; simp at this; omega
  go_wp2
  exact bodyPost_ret (v := NF (0, 0, 2)) (by simp [results, Tryd.results30, go_sem, hc]) rfl ⟨rfl, ((((((Below.refl _ _).alloc (Nat.le_refl _) _).alloc (by simp) _).trans (b1.mono (by simp; omega))).setCell (p := ⟨w.heap.size + 1, 0, none⟩) (by simp) _).setCell (p := ⟨w.heap.size + 1, 1, none⟩) (by simp) _).setCell (p := ⟨w.heap.size + 1, 2, none⟩) (by simp) _⟩
theorem rnumber_any (k n : Int) (s : ByteArray) (w : World) (h : IsV k n s) : Calls Tryd.prog 30 #[VS k n s] w (Ret (NF (convF k n)) w) := by
  have h0 := h.lo
  have h1 := h.hi
  have hc : k = 0 ∨ k = 1 ∨ k = 2 ∨ k = 3 ∨ k = 4 ∨ k = 5 ∨ k = 6 ∨ k = 7 ∨ k = 8 ∨ k = 9 ∨ k = 10 := by omega
  rcases hc with rfl | rfl | rfl | rfl | rfl | rfl | rfl | rfl | rfl | rfl | rfl
  · exact rnumber_0 n s w
  · exact rnumber_1 n s w
  · exact rnumber_2 n s w
  · obtain rfl := h.str (by decide)
    exact rnumber_3 n w
  · obtain rfl := h.str (by decide)
    exact rnumber_4 n w
  · obtain rfl := h.str (by decide)
    exact rnumber_5 n w
  · obtain rfl := h.str (by decide)
    exact rnumber_6 n w
  · exact rnumber_7 n s w
  · exact rnumber_8 n s w
  · exact rnumber_9 n s w
  · exact rnumber_10 n s w
set_option maxHeartbeats 2000000 in
theorem rtext_7 (n : Int) (s : ByteArray) (w : World) : Calls Tryd.prog 31 #[VS 7 n s] w (Ret (TF (s, 0)) w) := by
  go_enter Tryd.func31, Tryd.ntmps31
  go_wp2
  go_ret2
  exact ⟨rfl, ((Below.refl _ _).alloc (Nat.le_refl _) _)⟩
set_option maxHeartbeats 2000000 in
theorem rtext_8 (n : Int) (s : ByteArray) (w : World) : Calls Tryd.prog 31 #[VS 8 n s] w (Ret (TF (⟨#[]⟩, 1)) w) := by
  go_enter Tryd.func31, Tryd.ntmps31
  go_wp2
  go_ret2
  exact ⟨rfl, ((Below.refl _ _).alloc (Nat.le_refl _) _)⟩
set_option maxHeartbeats 2000000 in
theorem rtext_9 (n : Int) (s : ByteArray) (w : World) : Calls Tryd.prog 31 #[VS 9 n s] w (Ret (TF (⟨#[]⟩, 2)) w) := by
  go_enter Tryd.func31, Tryd.ntmps31
  go_wp2
  go_ret2
  exact ⟨rfl, ((Below.refl _ _).alloc (Nat.le_refl _) _)⟩
set_option maxHeartbeats 2000000 in
theorem rtext_10 (n : Int) (s : ByteArray) (w : World) : Calls Tryd.prog 31 #[VS 10 n s] w (Ret (TF (⟨#[]⟩, 2)) w) := by
  go_enter Tryd.func31, Tryd.ntmps31
  go_wp2
  go_ret2
  exact ⟨rfl, ((Below.refl _ _).alloc (Nat.le_refl _) _)⟩
set_option maxHeartbeats 2000000 in
theorem rtext_0 (n : Int) (s : ByteArray) (w : World) (hU : Ut w) : Calls Tryd.prog 31 #[VS 0 n s] w (Ret (TF (uT ⟨#[117, 110, 100, 101, 102, 105, 110, 101, 100]⟩, 0)) w) := by
  have HT := Lib.hid hU
  have HU := Lib.hid (fun (W : World) (hW : Ut W) => units_u ⟨#[117, 110, 100, 101, 102, 105, 110, 101, 100]⟩ W hW (by decide))
  have HS := Lib.hid (fun a cap (W : World) hR => str_u ⟨#[117, 110, 100, 101, 102, 105, 110, 101, 100]⟩ a cap W hR (by decide))
  clear hU
  generalize uT ⟨#[117, 110, 100, 101, 102, 105, 110, 101, 100]⟩ = S at *
  generalize Tx.unitsOf ⟨#[117, 110, 100, 101, 102, 105, 110, 101, 100]⟩ = U at *
  go_enter Tryd.func31, Tryd.ntmps31
  go_wp2_with fail
  have bb := (Below.refl w.heap.size w).alloc (Nat.le_refl _) (.cells #[.int .i64 0, .int .i64 n, .string s] 27)
  refine (HU.out _ (HT.out.below bb)).mono ?_
  rintro e w3 ⟨a, cap, rfl, hR, b3⟩
  have bb := bb.trans (b3.mono bb.size)
  have HR := Lib.hid hR
  clear hR
  go_wp2_with fail
  refine (HS.out a cap _ HR.out).mono ?_
  rintro e w4 ⟨rfl, b4⟩
  have bb := bb.trans (b4.mono bb.size)
  go_wp2_with fail
  go_ret2
  exact ⟨rfl, bb⟩
set_option maxHeartbeats 2000000 in
theorem rtext_1 (n : Int) (s : ByteArray) (w : World) (hU : Ut w) : Calls Tryd.prog 31 #[VS 1 n s] w (Ret (TF (uT ⟨#[110, 117, 108, 108]⟩, 0)) w) := by
  have HT := Lib.hid hU
  have HU := Lib.hid (fun (W : World) (hW : Ut W) => units_u ⟨#[110, 117, 108, 108]⟩ W hW (by decide))
  have HS := Lib.hid (fun a cap (W : World) hR => str_u ⟨#[110, 117, 108, 108]⟩ a cap W hR (by decide))
  clear hU
  generalize uT ⟨#[110, 117, 108, 108]⟩ = S at *
  generalize Tx.unitsOf ⟨#[110, 117, 108, 108]⟩ = U at *
  go_enter Tryd.func31, Tryd.ntmps31
  go_wp2_with fail
  have bb := (Below.refl w.heap.size w).alloc (Nat.le_refl _) (.cells #[.int .i64 1, .int .i64 n, .string s] 27)
  refine (HU.out _ (HT.out.below bb)).mono ?_
  rintro e w3 ⟨a, cap, rfl, hR, b3⟩
  have bb := bb.trans (b3.mono bb.size)
  have HR := Lib.hid hR
  clear hR
  go_wp2_with fail
  refine (HS.out a cap _ HR.out).mono ?_
  rintro e w4 ⟨rfl, b4⟩
  have bb := bb.trans (b4.mono bb.size)
  go_wp2_with fail
  go_ret2
  exact ⟨rfl, bb⟩
set_option maxHeartbeats 2000000 in
theorem rtext_2t (n : Int) (s : ByteArray) (w : World) (h : (n == 0) = false) (hU : Ut w) : Calls Tryd.prog 31 #[VS 2 n s] w (Ret (TF (uT ⟨#[116, 114, 117, 101]⟩, 0)) w) := by
  have h2 : (n != 0) = true := by simpa using h
  have HT := Lib.hid hU
  have HU := Lib.hid (fun (W : World) (hW : Ut W) => units_u ⟨#[116, 114, 117, 101]⟩ W hW (by decide))
  have HS := Lib.hid (fun a cap (W : World) hR => str_u ⟨#[116, 114, 117, 101]⟩ a cap W hR (by decide))
  clear hU
  generalize uT ⟨#[116, 114, 117, 101]⟩ = S at *
  generalize Tx.unitsOf ⟨#[116, 114, 117, 101]⟩ = U at *
  go_enter Tryd.func31, Tryd.ntmps31
  go_wp2_with fail
  have bb := (Below.refl w.heap.size w).alloc (Nat.le_refl _) (.cells #[.int .i64 2, .int .i64 n, .string s] 27)
  refine (HU.out _ (HT.out.below bb)).mono ?_
  rintro e w3 ⟨a, cap, rfl, hR, b3⟩
  have bb := bb.trans (b3.mono bb.size)
  have HR := Lib.hid hR
  clear hR
  go_wp2_with fail
  refine (HS.out a cap _ HR.out).mono ?_
  rintro e w4 ⟨rfl, b4⟩
  have bb := bb.trans (b4.mono bb.size)
  go_wp2_with fail
  go_ret2
  exact ⟨rfl, bb⟩
set_option maxHeartbeats 2000000 in
theorem rtext_2f (n : Int) (s : ByteArray) (w : World) (hU : Ut w) : Calls Tryd.prog 31 #[VS 2 0 s] w (Ret (TF (uT ⟨#[102, 97, 108, 115, 101]⟩, 0)) w) := by
  have HT := Lib.hid hU
  have HU := Lib.hid (fun (W : World) (hW : Ut W) => units_u ⟨#[102, 97, 108, 115, 101]⟩ W hW (by decide))
  have HS := Lib.hid (fun a cap (W : World) hR => str_u ⟨#[102, 97, 108, 115, 101]⟩ a cap W hR (by decide))
  clear hU
  generalize uT ⟨#[102, 97, 108, 115, 101]⟩ = S at *
  generalize Tx.unitsOf ⟨#[102, 97, 108, 115, 101]⟩ = U at *
  go_enter Tryd.func31, Tryd.ntmps31
  go_wp2_with fail
  have bb := (Below.refl w.heap.size w).alloc (Nat.le_refl _) (.cells #[.int .i64 2, .int .i64 0, .string s] 27)
  refine (HU.out _ (HT.out.below bb)).mono ?_
  rintro e w3 ⟨a, cap, rfl, hR, b3⟩
  have bb := bb.trans (b3.mono bb.size)
  have HR := Lib.hid hR
  clear hR
  go_wp2_with fail
  refine (HS.out a cap _ HR.out).mono ?_
  rintro e w4 ⟨rfl, b4⟩
  have bb := bb.trans (b4.mono bb.size)
  go_wp2_with fail
  go_ret2
  exact ⟨rfl, bb⟩
set_option maxHeartbeats 2000000 in
theorem rtext_3 (n : Int) (w : World) (h : IsNum 3 n) (hT : Tb w) (hU : Ut w) : Calls Tryd.prog 31 #[VS 3 n ⟨#[]⟩] w (Ret (TF (uT (textS 3 n), 0)) w) := by
  have hs := textS_size h
  have HT := Lib.hid hU
  have HTT := Lib.hid hT
  have HU := Lib.hid (fun (W : World) (hW : Ut W) => units_u (textS 3 n) W hW (by omega))
  have HS := Lib.hid (fun a cap (W : World) hR => str_u (textS 3 n) a cap W hR (by omega))
  have HO := Lib.hid (fun W => ofR_any 3 n W h.lo h.hi)
  have HX := Lib.hid (fun (W : World) (hW : Tb W) => refText_of 3 n W h hW.all)
  clear hU hT hs h
  generalize uT (textS 3 n) = S at *
  generalize Tx.unitsOf (textS 3 n) = U at *
  generalize textS 3 n = X at *
  go_enter Tryd.func31, Tryd.ntmps31
  go_wp2_with fail
  have bb := (Below.refl w.heap.size w).alloc (Nat.le_refl _) (.cells #[.int .i64 3, .int .i64 n, .string ⟨#[]⟩] 27)
  refine (HO.out _).mono ?_
  rintro e w1 ⟨rfl, hw1⟩
  have bb := (bb.alloc bb.size (VC 3 n)).alloc (by simp; omega) (OC 3 n)
  rw [← hw1] at bb
  clear hw1
  generalize (ofR 3 n).1 = d at *
  generalize (ofR 3 n).2.1 = m at *
  generalize (ofR 3 n).2.2 = z at *
  go_wp2_with fail
  refine (HX.out _ (HTT.out.below bb)).mono ?_
  rintro e w2 ⟨rfl, b2⟩
  have bb := bb.trans (b2.mono bb.size)
  go_wp2_with fail
  refine (HU.out _ (HT.out.below bb)).mono ?_
  rintro e w3 ⟨a, cap, rfl, hR, b3⟩
  have bb := bb.trans (b3.mono bb.size)
  have HR := Lib.hid hR
  clear hR
  go_wp2_with fail
  refine (HS.out a cap _ HR.out).mono ?_
  rintro e w4 ⟨rfl, b4⟩
  have bb := bb.trans (b4.mono bb.size)
  go_wp2_with fail
  go_ret2
  exact ⟨rfl, bb⟩
set_option maxHeartbeats 2000000 in
theorem rtext_4 (n : Int) (w : World) (h : IsNum 4 n) (hT : Tb w) (hU : Ut w) : Calls Tryd.prog 31 #[VS 4 n ⟨#[]⟩] w (Ret (TF (uT (textS 4 n), 0)) w) := by
  have hs := textS_size h
  have HT := Lib.hid hU
  have HTT := Lib.hid hT
  have HU := Lib.hid (fun (W : World) (hW : Ut W) => units_u (textS 4 n) W hW (by omega))
  have HS := Lib.hid (fun a cap (W : World) hR => str_u (textS 4 n) a cap W hR (by omega))
  have HO := Lib.hid (fun W => ofR_any 4 n W h.lo h.hi)
  have HX := Lib.hid (fun (W : World) (hW : Tb W) => refText_of 4 n W h hW.all)
  clear hU hT hs h
  generalize uT (textS 4 n) = S at *
  generalize Tx.unitsOf (textS 4 n) = U at *
  generalize textS 4 n = X at *
  go_enter Tryd.func31, Tryd.ntmps31
  go_wp2_with fail
  have bb := (Below.refl w.heap.size w).alloc (Nat.le_refl _) (.cells #[.int .i64 4, .int .i64 n, .string ⟨#[]⟩] 27)
  refine (HO.out _).mono ?_
  rintro e w1 ⟨rfl, hw1⟩
  have bb := (bb.alloc bb.size (VC 4 n)).alloc (by simp; omega) (OC 4 n)
  rw [← hw1] at bb
  clear hw1
  generalize (ofR 4 n).1 = d at *
  generalize (ofR 4 n).2.1 = m at *
  generalize (ofR 4 n).2.2 = z at *
  go_wp2_with fail
  refine (HX.out _ (HTT.out.below bb)).mono ?_
  rintro e w2 ⟨rfl, b2⟩
  have bb := bb.trans (b2.mono bb.size)
  go_wp2_with fail
  refine (HU.out _ (HT.out.below bb)).mono ?_
  rintro e w3 ⟨a, cap, rfl, hR, b3⟩
  have bb := bb.trans (b3.mono bb.size)
  have HR := Lib.hid hR
  clear hR
  go_wp2_with fail
  refine (HS.out a cap _ HR.out).mono ?_
  rintro e w4 ⟨rfl, b4⟩
  have bb := bb.trans (b4.mono bb.size)
  go_wp2_with fail
  go_ret2
  exact ⟨rfl, bb⟩
set_option maxHeartbeats 2000000 in
theorem rtext_5 (n : Int) (w : World) (h : IsNum 5 n) (hT : Tb w) (hU : Ut w) : Calls Tryd.prog 31 #[VS 5 n ⟨#[]⟩] w (Ret (TF (uT (textS 5 n), 0)) w) := by
  have hs := textS_size h
  have HT := Lib.hid hU
  have HTT := Lib.hid hT
  have HU := Lib.hid (fun (W : World) (hW : Ut W) => units_u (textS 5 n) W hW (by omega))
  have HS := Lib.hid (fun a cap (W : World) hR => str_u (textS 5 n) a cap W hR (by omega))
  have HO := Lib.hid (fun W => ofR_any 5 n W h.lo h.hi)
  have HX := Lib.hid (fun (W : World) (hW : Tb W) => refText_of 5 n W h hW.all)
  clear hU hT hs h
  generalize uT (textS 5 n) = S at *
  generalize Tx.unitsOf (textS 5 n) = U at *
  generalize textS 5 n = X at *
  go_enter Tryd.func31, Tryd.ntmps31
  go_wp2_with fail
  have bb := (Below.refl w.heap.size w).alloc (Nat.le_refl _) (.cells #[.int .i64 5, .int .i64 n, .string ⟨#[]⟩] 27)
  refine (HO.out _).mono ?_
  rintro e w1 ⟨rfl, hw1⟩
  have bb := (bb.alloc bb.size (VC 5 n)).alloc (by simp; omega) (OC 5 n)
  rw [← hw1] at bb
  clear hw1
  generalize (ofR 5 n).1 = d at *
  generalize (ofR 5 n).2.1 = m at *
  generalize (ofR 5 n).2.2 = z at *
  go_wp2_with fail
  refine (HX.out _ (HTT.out.below bb)).mono ?_
  rintro e w2 ⟨rfl, b2⟩
  have bb := bb.trans (b2.mono bb.size)
  go_wp2_with fail
  refine (HU.out _ (HT.out.below bb)).mono ?_
  rintro e w3 ⟨a, cap, rfl, hR, b3⟩
  have bb := bb.trans (b3.mono bb.size)
  have HR := Lib.hid hR
  clear hR
  go_wp2_with fail
  refine (HS.out a cap _ HR.out).mono ?_
  rintro e w4 ⟨rfl, b4⟩
  have bb := bb.trans (b4.mono bb.size)
  go_wp2_with fail
  go_ret2
  exact ⟨rfl, bb⟩
set_option maxHeartbeats 2000000 in
theorem rtext_6 (n : Int) (w : World) (h : IsNum 6 n) (hT : Tb w) (hU : Ut w) : Calls Tryd.prog 31 #[VS 6 n ⟨#[]⟩] w (Ret (TF (uT (textS 6 n), 0)) w) := by
  have hs := textS_size h
  have HT := Lib.hid hU
  have HTT := Lib.hid hT
  have HU := Lib.hid (fun (W : World) (hW : Ut W) => units_u (textS 6 n) W hW (by omega))
  have HS := Lib.hid (fun a cap (W : World) hR => str_u (textS 6 n) a cap W hR (by omega))
  have HO := Lib.hid (fun W => ofR_any 6 n W h.lo h.hi)
  have HX := Lib.hid (fun (W : World) (hW : Tb W) => refText_of 6 n W h hW.all)
  clear hU hT hs h
  generalize uT (textS 6 n) = S at *
  generalize Tx.unitsOf (textS 6 n) = U at *
  generalize textS 6 n = X at *
  go_enter Tryd.func31, Tryd.ntmps31
  go_wp2_with fail
  have bb := (Below.refl w.heap.size w).alloc (Nat.le_refl _) (.cells #[.int .i64 6, .int .i64 n, .string ⟨#[]⟩] 27)
  refine (HO.out _).mono ?_
  rintro e w1 ⟨rfl, hw1⟩
  have bb := (bb.alloc bb.size (VC 6 n)).alloc (by simp; omega) (OC 6 n)
  rw [← hw1] at bb
  clear hw1
  generalize (ofR 6 n).1 = d at *
  generalize (ofR 6 n).2.1 = m at *
  generalize (ofR 6 n).2.2 = z at *
  go_wp2_with fail
  refine (HX.out _ (HTT.out.below bb)).mono ?_
  rintro e w2 ⟨rfl, b2⟩
  have bb := bb.trans (b2.mono bb.size)
  go_wp2_with fail
  refine (HU.out _ (HT.out.below bb)).mono ?_
  rintro e w3 ⟨a, cap, rfl, hR, b3⟩
  have bb := bb.trans (b3.mono bb.size)
  have HR := Lib.hid hR
  clear hR
  go_wp2_with fail
  refine (HS.out a cap _ HR.out).mono ?_
  rintro e w4 ⟨rfl, b4⟩
  have bb := bb.trans (b4.mono bb.size)
  go_wp2_with fail
  go_ret2
  exact ⟨rfl, bb⟩
theorem rtext_any (k n : Int) (s : ByteArray) (w : World) (h : IsV k n s) (hT : Tb w) (hU : Ut w) : Calls Tryd.prog 31 #[VS k n s] w (Ret (TF (textF k n s)) w) := by
  have h0 := h.lo
  have h1 := h.hi
  have hc : k = 0 ∨ k = 1 ∨ k = 2 ∨ k = 3 ∨ k = 4 ∨ k = 5 ∨ k = 6 ∨ k = 7 ∨ k = 8 ∨ k = 9 ∨ k = 10 := by omega
  rcases hc with rfl | rfl | rfl | rfl | rfl | rfl | rfl | rfl | rfl | rfl | rfl
  · exact rtext_0 n s w hU
  · exact rtext_1 n s w hU
  · by_cases hn : n = 0
    · subst hn; exact rtext_2f 0 s w hU
    · have hb : (n == 0) = false := by simpa using hn
      have := rtext_2t n s w hb hU
      show Calls _ _ _ _ (Ret (TF (uT (if (n == 0) = true then _ else _), 0)) w)
      rw [if_neg (by simpa using hn)]
      exact this
  · obtain rfl := h.str (by decide)
    exact rtext_3 n w (h.num (by decide) (by decide)) hT hU
  · obtain rfl := h.str (by decide)
    exact rtext_4 n w (h.num (by decide) (by decide)) hT hU
  · obtain rfl := h.str (by decide)
    exact rtext_5 n w (h.num (by decide) (by decide)) hT hU
  · obtain rfl := h.str (by decide)
    exact rtext_6 n w (h.num (by decide) (by decide)) hT hU
  · exact rtext_7 n s w
  · exact rtext_8 n s w
  · exact rtext_9 n s w
  · exact rtext_10 n s w
set_option maxHeartbeats 2000000 in
theorem prop_8 (n : Int) (s : ByteArray) (w : World) : Calls Tryd.prog 32 #[VS 8 n s] w (Ret (.tuple #[VS 8 n s, .int .i64 0]) w) := by
  go_enter Tryd.func32, Tryd.ntmps32
  go_wp2
  exact bodyPost_ret (v := .tuple #[VS 8 n s, .int .i64 0]) (by simp [results, Tryd.results32, go_sem]) rfl ⟨rfl, ((Below.refl _ _).alloc (Nat.le_refl _) _).alloc (by simp) _⟩
set_option maxHeartbeats 2000000 in
theorem prop_x (k n : Int) (s t : ByteArray) (e : Int) (w : World) (h : (k == 8) = false) (C : ∀ W, Below w.heap.size w W → Calls Tryd.prog 14 #[VS k n s] W (Ret (.tuple #[.string t, .int .i64 e]) W)) : Calls Tryd.prog 32 #[VS k n s] w (Ret (.tuple #[VS 7 0 t, .int .i64 e]) w) := by
  have HC := Lib.hid C
  clear C
  go_enter Tryd.func32, Tryd.ntmps32
  go_wp2_with fail
  refine (HC.out _ (((Below.refl _ _).alloc (Nat.le_refl _) _).alloc (by simp) _)).mono ?_
  rintro e w1 ⟨rfl, b1⟩
  obtain ⟨hc, hf⟩ := bcell b1
  have hz : w.heap.size + 1 < w1.heap.size := by have := b1.size; simp at this; omega
  go_wp2_with fail
  all_goals (first | (exact bodyPost_ret (v := .tuple #[VS 7 0 t, .int .i64 e]) (by simp [results, Tryd.results32, go_sem, hc]) rfl ⟨rfl, ((((((Below.refl _ _).alloc (Nat.le_refl _) _).alloc (by simp) _).trans (b1.mono (by simp; omega))).setCell (p := ⟨w.heap.size + 1, 0, none⟩) (by simp) _).setCell (p := ⟨w.heap.size + 1, 1, none⟩) (by simp) _).setCell (p := ⟨w.heap.size + 1, 2, none⟩) (by simp) _⟩) | (exact bodyPost_ret (v := .tuple #[VS 7 0 t, .int .i64 e]) (by simp [results, Tryd.results32, go_sem, hc]) rfl ⟨rfl, (((((((Below.refl _ _).alloc (Nat.le_refl _) _).alloc (by simp) _).trans (b1.mono (by simp; omega))).setCell (p := ⟨w.heap.size + 1, 0, none⟩) (by simp) _).setCell (p := ⟨w.heap.size + 1, 1, none⟩) (by simp) _).setCell (p := ⟨w.heap.size + 1, 2, none⟩) (by simp) _).alloc (by have := b1.size; simp at this ⊢; omega) _⟩))
end Go.Proofs.YtjkboelcpihphaaDoor
