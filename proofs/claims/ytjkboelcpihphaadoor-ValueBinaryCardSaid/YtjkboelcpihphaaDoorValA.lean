/- Contracts of package value's small functions: Truth, Object, Symbol, Ref, IsObj, Nullish, Key, Same, True; and when values are the same. -/
import Derived.Test.YtjkboelcpihphaaDoorNum3
import Derived.Test.YtjkboelcpihphaaDoorWld
import Derived.Laws.StructEq
set_option linter.unusedVariables false
set_option linter.unusedSimpArgs false
namespace Go.Proofs.YtjkboelcpihphaaDoor
open Go.RowKit

/-- A value: kind, number, units. -/
abbrev VS (k n : Int) (s : ByteArray) : Value := .agg #[.int .i64 k, .int .i64 n, .string s]
abbrev SC (k n : Int) (s : ByteArray) : Obj := .cells #[.int .i64 k, .int .i64 n, .string s] 27
theorem ba_ext {a b : ByteArray} (h : a.toList = b.toList) : a = b := by
  have : a.data.toList = b.data.toList := by rw [← ByteArray.toList_eq, ← ByteArray.toList_eq, h]
  exact ByteArray.ext (Array.toList_inj.1 this)
def tN (b : Bool) : Int := if b then 1 else 0

set_option maxHeartbeats 400000 in
theorem truth_any (b : Bool) (w : World) : Calls Tryd.prog 17 #[.bool b] w (Ret (VS 2 (tN b) ⟨#[]⟩) w) := by
  cases b
  · go_enter Tryd.func17, Tryd.ntmps17
    go_wp2
    exact bodyPost_ret (v := VS 2 0 ⟨#[]⟩) (by simp [results, Tryd.results17, go_sem]) rfl ⟨rfl, (Below.refl _ _).alloc (Nat.le_refl _) _⟩
  · go_enter Tryd.func17, Tryd.ntmps17
    go_wp2
    exact bodyPost_ret (v := VS 2 1 ⟨#[]⟩) (by simp [results, Tryd.results17, go_sem]) rfl ⟨rfl, (Below.refl _ _).alloc (Nat.le_refl _) _⟩
set_option maxHeartbeats 400000 in
theorem key_any (k n : Int) (s : ByteArray) (w : World) (h : (k == 6) = false) : Calls Tryd.prog 27 #[VS k n s] w (Ret (VS k n s) w) := by
  go_enter Tryd.func27, Tryd.ntmps27
  go_wp2
  exact bodyPost_ret (v := VS k n s) (by simp [results, Tryd.results27, go_sem]) rfl ⟨rfl, ((Below.refl _ _).alloc (Nat.le_refl _) _).alloc (by simp) _⟩
set_option maxHeartbeats 400000 in
theorem key_nz (n : Int) (s : ByteArray) (w : World) : Calls Tryd.prog 27 #[VS 6 n s] w (Ret (VS 3 0 ⟨#[]⟩) w) := by
  go_enter Tryd.func27, Tryd.ntmps27
  go_wp2
  exact bodyPost_ret (v := VS 3 0 ⟨#[]⟩) (by simp [results, Tryd.results27, go_sem]) rfl ⟨rfl, ((Below.refl _ _).alloc (Nat.le_refl _) _).alloc (by simp) _⟩
set_option maxHeartbeats 400000 in
theorem is_no (k n : Int) (s : ByteArray) (w : World) (h : k < 3 ∨ 6 < k) : Calls Tryd.prog 38 #[VS k n s] w (Ret (.bool false) w) := by
  by_cases h3 : k < 3
  · have t1 : decide (3 ≤ k) = false := by simp; omega
    clear h
    go_enter Tryd.func38, Tryd.ntmps38
    go_wp2
    go_ret
    exact ⟨rfl, (Below.refl _ _).alloc (Nat.le_refl _) _⟩
  · have t1 : decide (3 ≤ k) = true := by simp; omega
    have t2 : decide (k ≤ 6) = false := by simp; omega
    clear h
    go_enter Tryd.func38, Tryd.ntmps38
    go_wp2
    go_ret
    exact ⟨rfl, (Below.refl _ _).alloc (Nat.le_refl _) _⟩

theorem size_empty (s : ByteArray) : decide (0 < s.size) = !s.toList.isEmpty := by
  rw [ByteArray.toList_eq]
  have : s.size = s.data.toList.length := rfl
  rw [this]
  cases s.data.toList <;> simp
/-- Are two values the same? -/
def veq (k n : Int) (s : ByteArray) (k' n' : Int) (s' : ByteArray) : Bool := k == k' && (n == n' && s.toList == s'.toList)
theorem veq_iff (k n : Int) (s : ByteArray) (k' n' : Int) (s' : ByteArray) : veq k n s k' n' s' = true ↔ k = k' ∧ n = n' ∧ s = s' := by
  unfold veq
  simp only [Bool.and_eq_true, beq_iff_eq]
  exact ⟨fun h => ⟨h.1, h.2.1, ba_ext h.2.2⟩, fun h => ⟨h.1, h.2.1, by rw [h.2.2]⟩⟩

set_option maxHeartbeats 400000 in
theorem same_any (k n : Int) (s : ByteArray) (k' n' : Int) (s' : ByteArray) (w : World) : Calls Tryd.prog 24 #[VS k n s, VS k' n' s'] w (Ret (.bool (veq k n s k' n' s')) w) := by
  have bb := ((Below.refl w.heap.size w).alloc (Nat.le_refl _) (SC k n s)).alloc (by simp) (SC k' n' s')
  by_cases h1 : k = k'
  · subst h1
    by_cases h2 : n = n'
    · subst h2
      by_cases h3 : s.toList = s'.toList
      · have t : (s.toList == s'.toList) = true := by simpa using h3
        have HX := Lib.hid (show veq k n s k n s' = true by unfold veq; simp [t])
        clear h3
        go_enter Tryd.func24, Tryd.ntmps24
        go_wp2
        go_ret
        exact ⟨by rw [HX.out]; rfl, bb⟩
      · have t : (s.toList == s'.toList) = false := by simpa using h3
        have HX := Lib.hid (show veq k n s k n s' = false by unfold veq; simp [t])
        go_enter Tryd.func24, Tryd.ntmps24
        go_wp2
        go_ret
        exact ⟨by rw [HX.out]; rfl, bb⟩
    · have t : (n == n') = false := by simpa using h2
      have HX := Lib.hid (show veq k n s k n' s' = false by unfold veq; simp [t])
      go_enter Tryd.func24, Tryd.ntmps24
      go_wp2
      go_ret
      exact ⟨by rw [HX.out]; rfl, bb⟩
  · have t : (k == k') = false := by simpa using h1
    have HX := Lib.hid (show veq k n s k' n' s' = false by unfold veq; simp [t])
    go_enter Tryd.func24, Tryd.ntmps24
    go_wp2
    go_ret
    exact ⟨by rw [HX.out]; rfl, bb⟩
set_option maxHeartbeats 400000 in
theorem object_any (r : Int) (w : World) : Calls Tryd.prog 15 #[.int .i64 r] w (Ret (VS 9 r ⟨#[]⟩) w) := by
  go_enter Tryd.func15, Tryd.ntmps15
  go_wp2
  exact bodyPost_ret (v := VS 9 r ⟨#[]⟩) (by simp [results, Tryd.results15, go_sem]) rfl ⟨rfl, (Below.refl _ _).alloc (Nat.le_refl _) _⟩
set_option maxHeartbeats 400000 in
theorem symbol_any (r : Int) (w : World) : Calls Tryd.prog 16 #[.int .i64 r] w (Ret (VS 8 r ⟨#[]⟩) w) := by
  go_enter Tryd.func16, Tryd.ntmps16
  go_wp2
  exact bodyPost_ret (v := VS 8 r ⟨#[]⟩) (by simp [results, Tryd.results16, go_sem]) rfl ⟨rfl, (Below.refl _ _).alloc (Nat.le_refl _) _⟩
set_option maxHeartbeats 400000 in
theorem ref_9 (n : Int) (s : ByteArray) (w : World) : Calls Tryd.prog 18 #[VS 9 n s] w (Ret (.int .i64 n) w) := by
  go_enter Tryd.func18, Tryd.ntmps18
  go_wp2
  go_ret
  exact ⟨rfl, (Below.refl _ _).alloc (Nat.le_refl _) _⟩
set_option maxHeartbeats 400000 in
theorem ref_8 (n : Int) (s : ByteArray) (w : World) : Calls Tryd.prog 18 #[VS 8 n s] w (Ret (.int .i64 n) w) := by
  go_enter Tryd.func18, Tryd.ntmps18
  go_wp2
  go_ret
  exact ⟨rfl, (Below.refl _ _).alloc (Nat.le_refl _) _⟩
set_option maxHeartbeats 400000 in
theorem ref_2 (n : Int) (s : ByteArray) (w : World) : Calls Tryd.prog 18 #[VS 2 n s] w (Ret (.int .i64 0) w) := by
  go_enter Tryd.func18, Tryd.ntmps18
  go_wp2
  go_ret
  exact ⟨rfl, (Below.refl _ _).alloc (Nat.le_refl _) _⟩
set_option maxHeartbeats 400000 in
theorem isobj_9 (n : Int) (s : ByteArray) (w : World) : Calls Tryd.prog 19 #[VS 9 n s] w (Ret (.bool true) w) := by
  go_enter Tryd.func19, Tryd.ntmps19
  go_wp2
  go_ret
  exact ⟨rfl, (Below.refl _ _).alloc (Nat.le_refl _) _⟩
set_option maxHeartbeats 400000 in
theorem isobj_8 (n : Int) (s : ByteArray) (w : World) : Calls Tryd.prog 19 #[VS 8 n s] w (Ret (.bool false) w) := by
  go_enter Tryd.func19, Tryd.ntmps19
  go_wp2
  go_ret
  exact ⟨rfl, (Below.refl _ _).alloc (Nat.le_refl _) _⟩
set_option maxHeartbeats 400000 in
theorem nullish_0 (n : Int) (s : ByteArray) (w : World) : Calls Tryd.prog 20 #[VS 0 n s] w (Ret (.bool true) w) := by
  go_enter Tryd.func20, Tryd.ntmps20
  go_wp2
  go_ret
  exact ⟨rfl, (Below.refl _ _).alloc (Nat.le_refl _) _⟩
set_option maxHeartbeats 400000 in
theorem nullish_1 (n : Int) (s : ByteArray) (w : World) : Calls Tryd.prog 20 #[VS 1 n s] w (Ret (.bool true) w) := by
  go_enter Tryd.func20, Tryd.ntmps20
  go_wp2
  go_ret
  exact ⟨rfl, (Below.refl _ _).alloc (Nat.le_refl _) _⟩
set_option maxHeartbeats 400000 in
theorem nullish_9 (n : Int) (s : ByteArray) (w : World) : Calls Tryd.prog 20 #[VS 9 n s] w (Ret (.bool false) w) := by
  go_enter Tryd.func20, Tryd.ntmps20
  go_wp2
  go_ret
  exact ⟨rfl, (Below.refl _ _).alloc (Nat.le_refl _) _⟩
set_option maxHeartbeats 400000 in
theorem nullish_2 (n : Int) (s : ByteArray) (w : World) : Calls Tryd.prog 20 #[VS 2 n s] w (Ret (.bool false) w) := by
  go_enter Tryd.func20, Tryd.ntmps20
  go_wp2
  go_ret
  exact ⟨rfl, (Below.refl _ _).alloc (Nat.le_refl _) _⟩
/-- Does a value count as true? -/
def trueB (k n : Int) (s : ByteArray) : Bool := if k == 2 || k == 3 then n != 0 else if k == 7 then !s.toList.isEmpty else !(k == 0 || k == 1 || k == 4 || k == 6 || k == 10)
set_option maxHeartbeats 400000 in
theorem true_0 (n : Int) (s : ByteArray) (w : World) : Calls Tryd.prog 12 #[VS 0 n s] w (Ret (.bool false) w) := by
  go_enter Tryd.func12, Tryd.ntmps12
  go_wp2
  go_ret
  exact ⟨rfl, (Below.refl _ _).alloc (Nat.le_refl _) _⟩
set_option maxHeartbeats 400000 in
theorem true_1 (n : Int) (s : ByteArray) (w : World) : Calls Tryd.prog 12 #[VS 1 n s] w (Ret (.bool false) w) := by
  go_enter Tryd.func12, Tryd.ntmps12
  go_wp2
  go_ret
  exact ⟨rfl, (Below.refl _ _).alloc (Nat.le_refl _) _⟩
set_option maxHeartbeats 400000 in
theorem true_4 (n : Int) (s : ByteArray) (w : World) : Calls Tryd.prog 12 #[VS 4 n s] w (Ret (.bool false) w) := by
  go_enter Tryd.func12, Tryd.ntmps12
  go_wp2
  go_ret
  exact ⟨rfl, (Below.refl _ _).alloc (Nat.le_refl _) _⟩
set_option maxHeartbeats 400000 in
theorem true_6 (n : Int) (s : ByteArray) (w : World) : Calls Tryd.prog 12 #[VS 6 n s] w (Ret (.bool false) w) := by
  go_enter Tryd.func12, Tryd.ntmps12
  go_wp2
  go_ret
  exact ⟨rfl, (Below.refl _ _).alloc (Nat.le_refl _) _⟩
set_option maxHeartbeats 400000 in
theorem true_10 (n : Int) (s : ByteArray) (w : World) : Calls Tryd.prog 12 #[VS 10 n s] w (Ret (.bool false) w) := by
  go_enter Tryd.func12, Tryd.ntmps12
  go_wp2
  go_ret
  exact ⟨rfl, (Below.refl _ _).alloc (Nat.le_refl _) _⟩
set_option maxHeartbeats 400000 in
theorem true_5 (n : Int) (s : ByteArray) (w : World) : Calls Tryd.prog 12 #[VS 5 n s] w (Ret (.bool true) w) := by
  go_enter Tryd.func12, Tryd.ntmps12
  go_wp2
  go_ret
  exact ⟨rfl, (Below.refl _ _).alloc (Nat.le_refl _) _⟩
set_option maxHeartbeats 400000 in
theorem true_8 (n : Int) (s : ByteArray) (w : World) : Calls Tryd.prog 12 #[VS 8 n s] w (Ret (.bool true) w) := by
  go_enter Tryd.func12, Tryd.ntmps12
  go_wp2
  go_ret
  exact ⟨rfl, (Below.refl _ _).alloc (Nat.le_refl _) _⟩
set_option maxHeartbeats 400000 in
theorem true_9 (n : Int) (s : ByteArray) (w : World) : Calls Tryd.prog 12 #[VS 9 n s] w (Ret (.bool true) w) := by
  go_enter Tryd.func12, Tryd.ntmps12
  go_wp2
  go_ret
  exact ⟨rfl, (Below.refl _ _).alloc (Nat.le_refl _) _⟩
set_option maxHeartbeats 400000 in
theorem true_2 (n : Int) (s : ByteArray) (w : World) : Calls Tryd.prog 12 #[VS 2 n s] w (Ret (.bool (n != 0)) w) := by
  go_enter Tryd.func12, Tryd.ntmps12
  go_wp2
  go_ret
  exact ⟨rfl, (Below.refl _ _).alloc (Nat.le_refl _) _⟩
set_option maxHeartbeats 400000 in
theorem true_3 (n : Int) (s : ByteArray) (w : World) : Calls Tryd.prog 12 #[VS 3 n s] w (Ret (.bool (n != 0)) w) := by
  go_enter Tryd.func12, Tryd.ntmps12
  go_wp2
  go_ret
  exact ⟨rfl, (Below.refl _ _).alloc (Nat.le_refl _) _⟩
set_option maxHeartbeats 400000 in
theorem true_7_true (n : Int) (s : ByteArray) (w : World) (h : s.toList.isEmpty = true) : Calls Tryd.prog 12 #[VS 7 n s] w (Ret (.bool false) w) := by
  have h2 : (!s.toList.isEmpty) = false := by rw [h]; rfl
  go_enter Tryd.func12, Tryd.ntmps12
  go_wp2
  go_ret
  exact ⟨rfl, (Below.refl _ _).alloc (Nat.le_refl _) _⟩
set_option maxHeartbeats 400000 in
theorem true_7_false (n : Int) (s : ByteArray) (w : World) (h : s.toList.isEmpty = false) : Calls Tryd.prog 12 #[VS 7 n s] w (Ret (.bool true) w) := by
  have h2 : (!s.toList.isEmpty) = true := by rw [h]; rfl
  go_enter Tryd.func12, Tryd.ntmps12
  go_wp2
  go_ret
  exact ⟨rfl, (Below.refl _ _).alloc (Nat.le_refl _) _⟩
theorem true_any (k n : Int) (s : ByteArray) (w : World) (hk : 0 ≤ k) (hk2 : k ≤ 10) : Calls Tryd.prog 12 #[VS k n s] w (Ret (.bool (trueB k n s)) w) := by
  have hc : k = 0 ∨ k = 1 ∨ k = 2 ∨ k = 3 ∨ k = 4 ∨ k = 5 ∨ k = 6 ∨ k = 7 ∨ k = 8 ∨ k = 9 ∨ k = 10 := by omega
  rcases hc with rfl | rfl | rfl | rfl | rfl | rfl | rfl | rfl | rfl | rfl | rfl
  · exact true_0 n s w
  · exact true_1 n s w
  · exact true_2 n s w
  · exact true_3 n s w
  · exact true_4 n s w
  · exact true_5 n s w
  · exact true_6 n s w
  · cases h : s.toList.isEmpty
    · rw [show trueB 7 n s = true by simp [trueB, h]]; exact true_7_false n s w h
    · rw [show trueB 7 n s = false by simp [trueB, h]]; exact true_7_true n s w h
  · exact true_8 n s w
  · exact true_9 n s w
  · exact true_10 n s w
set_option maxHeartbeats 400000 in
theorem rtrue_0 (n : Int) (s : ByteArray) (w : World) : Calls Tryd.prog 33 #[VS 0 n s] w (Ret (.bool false) w) := by
  go_enter Tryd.func33, Tryd.ntmps33
  go_wp2
  go_ret
  exact ⟨rfl, (Below.refl _ _).alloc (Nat.le_refl _) _⟩
set_option maxHeartbeats 400000 in
theorem rtrue_1 (n : Int) (s : ByteArray) (w : World) : Calls Tryd.prog 33 #[VS 1 n s] w (Ret (.bool false) w) := by
  go_enter Tryd.func33, Tryd.ntmps33
  go_wp2
  go_ret
  exact ⟨rfl, (Below.refl _ _).alloc (Nat.le_refl _) _⟩
set_option maxHeartbeats 400000 in
theorem rtrue_4 (n : Int) (s : ByteArray) (w : World) : Calls Tryd.prog 33 #[VS 4 n s] w (Ret (.bool false) w) := by
  go_enter Tryd.func33, Tryd.ntmps33
  go_wp2
  go_ret
  exact ⟨rfl, (Below.refl _ _).alloc (Nat.le_refl _) _⟩
set_option maxHeartbeats 400000 in
theorem rtrue_6 (n : Int) (s : ByteArray) (w : World) : Calls Tryd.prog 33 #[VS 6 n s] w (Ret (.bool false) w) := by
  go_enter Tryd.func33, Tryd.ntmps33
  go_wp2
  go_ret
  exact ⟨rfl, (Below.refl _ _).alloc (Nat.le_refl _) _⟩
set_option maxHeartbeats 400000 in
theorem rtrue_10 (n : Int) (s : ByteArray) (w : World) : Calls Tryd.prog 33 #[VS 10 n s] w (Ret (.bool false) w) := by
  go_enter Tryd.func33, Tryd.ntmps33
  go_wp2
  go_ret
  exact ⟨rfl, (Below.refl _ _).alloc (Nat.le_refl _) _⟩
set_option maxHeartbeats 400000 in
theorem rtrue_5 (n : Int) (s : ByteArray) (w : World) : Calls Tryd.prog 33 #[VS 5 n s] w (Ret (.bool true) w) := by
  go_enter Tryd.func33, Tryd.ntmps33
  go_wp2
  go_ret
  exact ⟨rfl, (Below.refl _ _).alloc (Nat.le_refl _) _⟩
set_option maxHeartbeats 400000 in
theorem rtrue_8 (n : Int) (s : ByteArray) (w : World) : Calls Tryd.prog 33 #[VS 8 n s] w (Ret (.bool true) w) := by
  go_enter Tryd.func33, Tryd.ntmps33
  go_wp2
  go_ret
  exact ⟨rfl, (Below.refl _ _).alloc (Nat.le_refl _) _⟩
set_option maxHeartbeats 400000 in
theorem rtrue_9 (n : Int) (s : ByteArray) (w : World) : Calls Tryd.prog 33 #[VS 9 n s] w (Ret (.bool true) w) := by
  go_enter Tryd.func33, Tryd.ntmps33
  go_wp2
  go_ret
  exact ⟨rfl, (Below.refl _ _).alloc (Nat.le_refl _) _⟩
set_option maxHeartbeats 400000 in
theorem rtrue_2 (n : Int) (s : ByteArray) (w : World) : Calls Tryd.prog 33 #[VS 2 n s] w (Ret (.bool (n != 0)) w) := by
  go_enter Tryd.func33, Tryd.ntmps33
  go_wp2
  go_ret
  exact ⟨rfl, (Below.refl _ _).alloc (Nat.le_refl _) _⟩
set_option maxHeartbeats 400000 in
theorem rtrue_3 (n : Int) (s : ByteArray) (w : World) : Calls Tryd.prog 33 #[VS 3 n s] w (Ret (.bool (n != 0)) w) := by
  go_enter Tryd.func33, Tryd.ntmps33
  go_wp2
  go_ret
  exact ⟨rfl, (Below.refl _ _).alloc (Nat.le_refl _) _⟩
set_option maxHeartbeats 400000 in
theorem rtrue_7_true (n : Int) (s : ByteArray) (w : World) (h : s.toList.isEmpty = true) : Calls Tryd.prog 33 #[VS 7 n s] w (Ret (.bool false) w) := by
  have h2 : decide (0 < s.size) = false := by rw [size_empty s, h]; rfl
  go_enter Tryd.func33, Tryd.ntmps33
  go_wp2
  go_ret
  exact ⟨rfl, (Below.refl _ _).alloc (Nat.le_refl _) _⟩
set_option maxHeartbeats 400000 in
theorem rtrue_7_false (n : Int) (s : ByteArray) (w : World) (h : s.toList.isEmpty = false) : Calls Tryd.prog 33 #[VS 7 n s] w (Ret (.bool true) w) := by
  have h2 : decide (0 < s.size) = true := by rw [size_empty s, h]; rfl
  go_enter Tryd.func33, Tryd.ntmps33
  go_wp2
  go_ret
  exact ⟨rfl, (Below.refl _ _).alloc (Nat.le_refl _) _⟩
theorem rtrue_any (k n : Int) (s : ByteArray) (w : World) (hk : 0 ≤ k) (hk2 : k ≤ 10) : Calls Tryd.prog 33 #[VS k n s] w (Ret (.bool (trueB k n s)) w) := by
  have hc : k = 0 ∨ k = 1 ∨ k = 2 ∨ k = 3 ∨ k = 4 ∨ k = 5 ∨ k = 6 ∨ k = 7 ∨ k = 8 ∨ k = 9 ∨ k = 10 := by omega
  rcases hc with rfl | rfl | rfl | rfl | rfl | rfl | rfl | rfl | rfl | rfl | rfl
  · exact rtrue_0 n s w
  · exact rtrue_1 n s w
  · exact rtrue_2 n s w
  · exact rtrue_3 n s w
  · exact rtrue_4 n s w
  · exact rtrue_5 n s w
  · exact rtrue_6 n s w
  · cases h : s.toList.isEmpty
    · rw [show trueB 7 n s = true by simp [trueB, h]]; exact rtrue_7_false n s w h
    · rw [show trueB 7 n s = false by simp [trueB, h]]; exact rtrue_7_true n s w h
  · exact rtrue_8 n s w
  · exact rtrue_9 n s w
  · exact rtrue_10 n s w
/-- A value as a number, and what the conversion comes to. -/
def numF (k n : Int) : Int × Int × Int := if k == 3 || k == 4 || k == 5 || k == 6 then (k, n, 0) else if k == 0 then (4, 0, 0) else if k == 1 || k == 2 then (3, n, 0) else if k == 8 then (0, 0, 1) else (0, 0, 2)
end Go.Proofs.YtjkboelcpihphaaDoor
