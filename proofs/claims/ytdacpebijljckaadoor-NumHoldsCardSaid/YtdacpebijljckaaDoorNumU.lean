/- Contracts of num.Text and of the reference's Text. -/
import Derived.Test.YtdacpebijljckaaDoorNumQ
import Derived.Lib.AppendIntMem
import Derived.Lib.ItoaMem
import Derived.Lib.ItoaLen
set_option linter.unusedVariables false
set_option linter.unusedSimpArgs false
namespace Go.Proofs.YtdacpebijljckaaDoor
open Go.RowKit

theorem empty_app (X : ByteArray) : (⟨#[]⟩ : ByteArray) ++ X = X := by
  apply ByteArray.ext
  rw [ByteArray.data_append]
  simp
def textS (k n : Int) : ByteArray := if k == 4 then ⟨#[78, 97, 78]⟩ else if k == 5 then (if decide (0 < n) = true then ⟨#[73, 110, 102, 105, 110, 105, 116, 121]⟩ else ⟨#[45, 73, 110, 102, 105, 110, 105, 116, 121]⟩) else ⟨(Lib.itoa n).toArray⟩
theorem formatInt_b (n : Int) (w : World) (h1 : -9007199254740991 ≤ n) (h2 : n ≤ 9007199254740991) (ht : Lib.TabIs Tryd.prog w "internal/strconv.uint64pow10" .u64 Lib.pow10Tab) :
    Calls Tryd.prog 35 #[.int .i64 n, .int .i64 10] w fun e w' => e = .returned (.string ⟨(Lib.itoa n).toArray⟩) ∧ Below w.heap.size w w' := by
  refine (Tryd.strconv_FormatInt_10 n (by omega) (by omega) w ht).mono ?_
  rintro e w' ⟨rfl, k, os, rfl⟩
  exact ⟨rfl, Lib.below_grow _ w (Nat.le_refl _) k os⟩
theorem itoa_b (n : Int) (w : World) (h1 : -9007199254740991 ≤ n) (h2 : n ≤ 9007199254740991) (ht : Lib.TabIs Tryd.prog w "internal/strconv.uint64pow10" .u64 Lib.pow10Tab) :
    Calls Tryd.prog 37 #[.int .i64 n] w fun e w' => e = .returned (.string ⟨(Lib.itoa n).toArray⟩) ∧ Below w.heap.size w w' := by
  refine (Tryd.strconv_Itoa n (by omega) (by omega) w ht).mono ?_
  rintro e w' ⟨rfl, k, os, rfl⟩
  exact ⟨rfl, Lib.below_grow _ w (Nat.le_refl _) k os⟩

set_option maxHeartbeats 2000000 in
theorem textN_any (k n : Int) (w : World) (h1 : -9007199254740991 ≤ n) (h2 : n ≤ 9007199254740991) (hT : ∀ W, Below w.heap.size w W → Lib.TabIs Tryd.prog W "internal/strconv.uint64pow10" .u64 Lib.pow10Tab) : Calls Tryd.prog 22 #[VN k n] w (Ret (.string (textS k n)) w) := by
  have HT := Lib.hid hT
  clear hT
  cases q1 : (k == 4) with
  | true =>
    have e : textS k n = ⟨#[78, 97, 78]⟩ := by simp [textS, q1]
    rw [e]
    clear e
    go_enter Tryd.func22, Tryd.ntmps22
    go_wp2
    go_ret
    exact ⟨rfl, (Below.refl _ _).alloc (Nat.le_refl _) _⟩
  | false =>
    cases q2 : (k == 5) with
    | true =>
      cases q3 : decide (0 < n) with
      | true =>
        have e : textS k n = ⟨#[73, 110, 102, 105, 110, 105, 116, 121]⟩ := by simp only [textS, q1, q2, q3]; rfl
        rw [e]
        clear e
        go_enter Tryd.func22, Tryd.ntmps22
        go_wp2
        go_ret
        exact ⟨rfl, (Below.refl _ _).alloc (Nat.le_refl _) _⟩
      | false =>
        have e : textS k n = ⟨#[45, 73, 110, 102, 105, 110, 105, 116, 121]⟩ := by simp only [textS, q1, q2, q3]; rfl
        rw [e]
        clear e
        go_enter Tryd.func22, Tryd.ntmps22
        go_wp2
        go_ret
        exact ⟨rfl, (Below.refl _ _).alloc (Nat.le_refl _) _⟩
    | false =>
      have e : textS k n = ⟨(Lib.itoa n).toArray⟩ := by simp [textS, q1, q2]
      rw [e]
      clear e
      go_enter Tryd.func22, Tryd.ntmps22
      go_wp2_with fail
      refine (whole_any k n _).mono ?_
      rintro e w1 ⟨rfl, b1⟩
      have bb := ((Below.refl w.heap.size w).alloc (Nat.le_refl _) _).trans (b1.mono (by simp))
      go_wp2_with fail
      refine (formatInt_b n _ h1 h2 (HT.out _ bb)).mono ?_
      rintro e w2 ⟨rfl, b2⟩
      go_wp2
      go_ret
      exact ⟨rfl, bb.trans (b2.mono bb.size)⟩

set_option maxHeartbeats 2000000 in
theorem refText_nan (w : World) : Calls Tryd.prog 23 #[RV 110 false 0] w (Ret (.string ⟨#[78, 97, 78]⟩) w) := by
  go_enter Tryd.func23, Tryd.ntmps23
  go_wp2
  go_ret
  exact ⟨rfl, (Below.refl _ _).alloc (Nat.le_refl _) _⟩
set_option maxHeartbeats 2000000 in
theorem refText_inf (m : Bool) (w : World) : Calls Tryd.prog 23 #[RV 105 m 0] w (Ret (.string (if m = true then ⟨#[45, 73, 110, 102, 105, 110, 105, 116, 121]⟩ else ⟨#[73, 110, 102, 105, 110, 105, 116, 121]⟩)) w) := by
  cases m
  all_goals
    go_enter Tryd.func23, Tryd.ntmps23
    go_wp2
    go_ret
    exact ⟨rfl, (Below.refl _ _).alloc (Nat.le_refl _) _⟩
set_option maxHeartbeats 2000000 in
theorem refText_pos (m : Bool) (s : Int) (w : World) (h : (m && !(s == 0)) = false) (h1 : 0 ≤ s) (h2 : s ≤ 9007199254740991) (hT : ∀ W, Below w.heap.size w W → Lib.TabIs Tryd.prog W "internal/strconv.uint64pow10" .u64 Lib.pow10Tab) :
    Calls Tryd.prog 23 #[RV 119 m s] w (Ret (.string ⟨(Lib.itoa s).toArray⟩) w) := by
  have HT := Lib.hid hT
  clear hT
  have hlen := Lib.itoa_length_le s (by omega) (by omega)
  obtain ⟨X, hX⟩ : ∃ X : ByteArray, (⟨(Lib.itoa s).toArray⟩ : ByteArray) = X := ⟨_, rfl⟩
  have hs : X.size ≤ 21 := by rw [← hX]; show (Lib.itoa s).toArray.size ≤ 21; simpa using hlen
  clear hlen
  have c := fun W ht => itoa_b s W (by omega) (by omega) ht
  rw [hX] at c ⊢
  have C := Lib.hid c
  clear c hX
  have t : m = false ∨ (m = true ∧ (s != 0) = false) := by cases m <;> simp_all
  clear h
  rcases t with rfl | ⟨rfl, t⟩
  all_goals
    go_enter Tryd.func23, Tryd.ntmps23
    go_wp2_with fail
    refine (C.out _ (HT.out _ ((Below.refl _ _).alloc (Nat.le_refl _) _))).mono ?_
    rintro e w2 ⟨rfl, b2⟩
    go_wp2
    go_ret
    refine ⟨?_, ((Below.refl _ _).alloc (Nat.le_refl _) _).trans (b2.mono (by simp))⟩
    simp
    exact empty_app X
set_option maxHeartbeats 2000000 in
theorem refText_neg (s : Int) (w : World) (h : (s != 0) = true) (h1 : 0 ≤ s) (h2 : s ≤ 9007199254740991) (hT : ∀ W, Below w.heap.size w W → Lib.TabIs Tryd.prog W "internal/strconv.uint64pow10" .u64 Lib.pow10Tab) :
    Calls Tryd.prog 23 #[RV 119 true s] w (Ret (.string (⟨#[45]⟩ ++ ⟨(Lib.itoa s).toArray⟩)) w) := by
  have HT := Lib.hid hT
  clear hT
  have hlen := Lib.itoa_length_le s (by omega) (by omega)
  obtain ⟨X, hX⟩ : ∃ X : ByteArray, (⟨(Lib.itoa s).toArray⟩ : ByteArray) = X := ⟨_, rfl⟩
  have hs : X.size ≤ 21 := by rw [← hX]; show (Lib.itoa s).toArray.size ≤ 21; simpa using hlen
  clear hlen
  have c := fun W ht => itoa_b s W (by omega) (by omega) ht
  rw [hX] at c ⊢
  have C := Lib.hid c
  clear c hX
  go_enter Tryd.func23, Tryd.ntmps23
  go_wp2_with fail
  refine (C.out _ (HT.out _ ((Below.refl _ _).alloc (Nat.le_refl _) _))).mono ?_
  rintro e w2 ⟨rfl, b2⟩
  go_wp2
  go_ret
  exact ⟨rfl, ((Below.refl _ _).alloc (Nat.le_refl _) _).trans (b2.mono (by simp))⟩

theorem neg_str (s : Int) (h : 1 ≤ s) : (⟨#[45]⟩ : ByteArray) ++ ⟨(Lib.itoa s).toArray⟩ = ⟨(Lib.itoa (-s)).toArray⟩ := by
  obtain ⟨u, rfl⟩ := Int.eq_ofNat_of_zero_le (show 0 ≤ s by omega)
  rw [Lib.itoa_nonneg u, Lib.itoa_neg u (by omega)]
  apply ByteArray.ext
  apply Array.toList_inj.1
  rw [ByteArray.data_append]
  simp
/-- Of one number both tell the same text. -/
theorem refText_of (k n : Int) (w : World) (h : IsNum k n) (hT : ∀ W, Below w.heap.size w W → Lib.TabIs Tryd.prog W "internal/strconv.uint64pow10" .u64 Lib.pow10Tab) : Calls Tryd.prog 23 #[OV k n] w (Ret (.string (textS k n)) w) := by
  have hh := h
  unfold IsNum at hh
  rcases hh with ⟨rfl, rfl⟩ | ⟨rfl, rfl | rfl⟩ | ⟨rfl, rfl⟩ | ⟨rfl, h1, h2⟩
  · exact refText_nan w
  · exact refText_inf false w
  · exact refText_inf true w
  · exact refText_pos true 0 w rfl (by decide) (by decide) hT
  · by_cases hn : n < 0
    · have e : ofR 3 n = (119, true, -n) := by simp [ofR, hn]
      have e2 : textS 3 n = ⟨#[45]⟩ ++ ⟨(Lib.itoa (-n)).toArray⟩ := by rw [neg_str _ (by omega), Int.neg_neg]; rfl
      show Calls _ _ #[RV (ofR 3 n).1 (ofR 3 n).2.1 (ofR 3 n).2.2] _ _
      rw [e, e2]
      exact refText_neg (-n) w (by simp; omega) (by omega) (by omega) hT
    · have e : ofR 3 n = (119, false, n) := by simp [ofR, hn]
      show Calls _ _ #[RV (ofR 3 n).1 (ofR 3 n).2.1 (ofR 3 n).2.2] _ _
      rw [e]
      exact refText_pos false n w rfl (by omega) (by omega) hT

end Go.Proofs.YtdacpebijljckaaDoor
