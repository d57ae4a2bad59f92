/- ValB: several texts in one. -/
import Derived.Test.YtdeboajjhpecbaaGreatDoorNum3
import Derived.Test.YtdeboajjhpecbaaGreatDoorWld
import Derived.Laws.StructEq
import Derived.Test.YtdeboajjhpecbaaGreatDoorTxt
import Derived.Lib.ItoaLen
/- Contracts of package value's small functions: Truth, Object, Symbol, Ref, IsObj, Nullish, Key, Same, True; and when values are the same. -/
set_option linter.unusedVariables false
set_option linter.unusedSimpArgs false
namespace Go.Proofs.YtdeboajjhpecbaaGreatDoor.Vx
open Go.RowKit

/-- A value: kind, number, units. -/
abbrev VS (k n : Int) (s : ByteArray) : Value := .agg #[.int .i64 k, .int .i64 n, .string s]
abbrev SC (k n : Int) (s : ByteArray) : Obj := .cells #[.int .i64 k, .int .i64 n, .string s] 30
theorem ba_ext {a b : ByteArray} (h : a.toList = b.toList) : a = b := by
  have : a.data.toList = b.data.toList := by rw [← ByteArray.toList_eq, ← ByteArray.toList_eq, h]
  exact ByteArray.ext (Array.toList_inj.1 this)
def tN (b : Bool) : Int := if b then 1 else 0

set_option maxHeartbeats 400000 in
theorem key_any (k n : Int) (s : ByteArray) (w : World) (h : (k == 6) = false) : Calls Tryz.prog 97 #[VS k n s] w (Ret (VS k n s) w) := by
  go_enter Tryz.func97, Tryz.ntmps97
  go_wp2
  exact bodyPost_ret (v := VS k n s) (by simp [results, Tryz.results97, go_sem]) rfl ⟨rfl, ((Below.refl _ _).alloc (Nat.le_refl _) _).alloc (by simp) _⟩
set_option maxHeartbeats 400000 in
theorem key_nz (n : Int) (s : ByteArray) (w : World) : Calls Tryz.prog 97 #[VS 6 n s] w (Ret (VS 3 0 ⟨#[]⟩) w) := by
  go_enter Tryz.func97, Tryz.ntmps97
  go_wp2
  exact bodyPost_ret (v := VS 3 0 ⟨#[]⟩) (by simp [results, Tryz.results97, go_sem]) rfl ⟨rfl, ((Below.refl _ _).alloc (Nat.le_refl _) _).alloc (by simp) _⟩
set_option maxHeartbeats 400000 in
theorem is_no (k n : Int) (s : ByteArray) (w : World) (h : k < 3 ∨ 6 < k) : Calls Tryz.prog 51 #[VS k n s] w (Ret (.bool false) w) := by
  by_cases h3 : k < 3
  · have t1 : decide (3 ≤ k) = false := by simp; omega
    clear h
    go_enter Tryz.func51, Tryz.ntmps51
    go_wp2
    go_ret
    exact ⟨rfl, (Below.refl _ _).alloc (Nat.le_refl _) _⟩
  · have t1 : decide (3 ≤ k) = true := by simp; omega
    have t2 : decide (k ≤ 6) = false := by simp; omega
    clear h
    go_enter Tryz.func51, Tryz.ntmps51
    go_wp2
    go_ret
    exact ⟨rfl, (Below.refl _ _).alloc (Nat.le_refl _) _⟩

theorem size_empty (s : ByteArray) : decide (0 < s.size) = !s.toList.isEmpty := by
  rw [ByteArray.toList_eq]
  have : s.size = s.data.toList.length := rfl
  rw [this]
  cases s.data.toList <;> simp
/-- Are two values the same? -/
def veq (k n : Int) (s : ByteArray) (k' n' : Int) (s' : ByteArray) : Bool := k == k' && (n == n' && s.toList == s'.toList)
theorem veq_iff (k n : Int) (s : ByteArray) (k' n' : Int) (s' : ByteArray) : veq k n s k' n' s' = true ↔ k = k' ∧ n = n' ∧ s = s' := by
  unfold veq
  simp only [Bool.and_eq_true, beq_iff_eq]
  exact ⟨fun h => ⟨h.1, h.2.1, ba_ext h.2.2⟩, fun h => ⟨h.1, h.2.1, by rw [h.2.2]⟩⟩

set_option maxHeartbeats 400000 in
theorem object_any (r : Int) (w : World) : Calls Tryz.prog 18 #[.int .i64 r] w (Ret (VS 9 r ⟨#[]⟩) w) := by
  go_enter Tryz.func18, Tryz.ntmps18
  go_wp2
  exact bodyPost_ret (v := VS 9 r ⟨#[]⟩) (by simp [results, Tryz.results18, go_sem]) rfl ⟨rfl, (Below.refl _ _).alloc (Nat.le_refl _) _⟩
set_option maxHeartbeats 400000 in
theorem symbol_any (r : Int) (w : World) : Calls Tryz.prog 29 #[.int .i64 r] w (Ret (VS 8 r ⟨#[]⟩) w) := by
  go_enter Tryz.func29, Tryz.ntmps29
  go_wp2
  exact bodyPost_ret (v := VS 8 r ⟨#[]⟩) (by simp [results, Tryz.results29, go_sem]) rfl ⟨rfl, (Below.refl _ _).alloc (Nat.le_refl _) _⟩
/-- Does a value count as true? -/
def trueB (k n : Int) (s : ByteArray) : Bool := if k == 2 || k == 3 then n != 0 else if k == 7 then !s.toList.isEmpty else !(k == 0 || k == 1 || k == 4 || k == 6 || k == 10)
/-- A value as a number, and what the conversion comes to. -/
def numF (k n : Int) : Int × Int × Int := if k == 3 || k == 4 || k == 5 || k == 6 then (k, n, 0) else if k == 0 then (4, 0, 0) else if k == 1 || k == 2 then (3, n, 0) else if k == 8 then (0, 0, 1) else (0, 0, 2)
end Go.Proofs.YtdeboajjhpecbaaGreatDoor.Vx

/- Contracts of value.Number, Text and Property, and of the reference's number, Number and Text. -/
set_option linter.unusedVariables false
set_option linter.unusedSimpArgs false
namespace Go.Proofs.YtdeboajjhpecbaaGreatDoor.Vx
open Go.RowKit

/-- The table of package strconv reads as it was laid. -/
def Tb (w : World) : Prop := Lib.TabIs Tryz.prog w "internal/strconv.uint64pow10" .u64 Lib.pow10Tab
theorem Tb.below {w W : World} (h : Tb w) (b : Below w.heap.size w W) : Tb W := Lib.tabBelow_of_tabIs h W b
theorem Tb.all {w : World} (h : Tb w) : ∀ W, Below w.heap.size w W → Lib.TabIs Tryz.prog W "internal/strconv.uint64pow10" .u64 Lib.pow10Tab := fun _ b => h.below b
/-- A value as one may be. -/
structure IsV (k n : Int) (s : ByteArray) : Prop where
  lo : 0 ≤ k
  hi : k ≤ 10
  num : 3 ≤ k → k ≤ 6 → IsNum k n
  str : k ≠ 7 → s = ⟨#[]⟩
  small : k = 1 ∨ k = 2 → 0 ≤ n ∧ n ≤ 1
  uni : ∃ l, Tx.Fits l ∧ s = Tx.uS l ∧ l.length ≤ 2000
theorem IsV.size {k n : Int} {s : ByteArray} (h : IsV k n s) : s.size ≤ 4000 := by
  obtain ⟨l, _, rfl, hl⟩ := h.uni
  rw [Tx.uS_size]; omega
/-- A Go text's units. -/
def uT (b : ByteArray) : ByteArray := ⟨(Tx.ofB b).toArray⟩
theorem of_u (b : ByteArray) (w : World) (h : b.size ≤ 1000) : Calls Tryz.prog 23 #[.string b] w (Ret (.string (uT b)) w) := Tx.of_any b w (by omega)
/-- A value as a number, and what the conversion comes to. -/
def convF (k n : Int) : Int × Int × Int := if k == 3 || k == 4 || k == 5 || k == 6 then (k, n, 0) else if k == 0 then (4, 0, 0) else if k == 1 || k == 2 then (3, n, 0) else if k == 8 then (0, 0, 1) else (0, 0, 2)
abbrev NF (x : Int × Int × Int) : Value := .tuple #[VN x.1 x.2.1, .int .i64 x.2.2]
/-- The text of a value that is no string. -/
def txtF (k n : Int) : ByteArray := if k == 0 then ⟨#[117, 110, 100, 101, 102, 105, 110, 101, 100]⟩ else if k == 1 then ⟨#[110, 117, 108, 108]⟩ else if k == 2 then (if n == 0 then ⟨#[102, 97, 108, 115, 101]⟩ else ⟨#[116, 114, 117, 101]⟩) else textS k n
/-- A value as units, and what the conversion comes to. -/
def textF (k n : Int) (s : ByteArray) : ByteArray × Int := if k == 7 then (s, 0) else if k == 8 then (⟨#[]⟩, 1) else if k == 9 || k == 10 then (⟨#[]⟩, 2) else (uT (txtF k n), 0)
theorem textS_size {k n : Int} (h : IsNum k n) : (textS k n).size ≤ 100 := by
  unfold textS
  by_cases h4 : (k == 4) = true
  · rw [if_pos h4]; decide
  · rw [if_neg h4]
    by_cases h5 : (k == 5) = true
    · rw [if_pos h5]
      by_cases hn : decide (0 < n) = true
      · rw [if_pos hn]; decide
      · rw [if_neg hn]; decide
    · rw [if_neg h5]
      have := Lib.itoa_length_le n (by have := h.lo; omega) (by have := h.hi; omega)
      simp [ByteArray.size]; omega
abbrev TF (x : ByteArray × Int) : Value := .tuple #[.string x.1, .int .i64 x.2]
theorem kinds {k : Int} (h0 : 0 ≤ k) (h1 : k ≤ 10) : k = 0 ∨ k = 1 ∨ k = 2 ∨ (3 ≤ k ∧ k ≤ 6) ∨ k = 7 ∨ k = 8 ∨ k = 9 ∨ k = 10 := by omega

set_option maxHeartbeats 2000000 in
theorem text_7 (n : Int) (s : ByteArray) (w : World) : Calls Tryz.prog 32 #[VS 7 n s] w (Ret (TF (s, 0)) w) := by
  go_enter Tryz.func32, Tryz.ntmps32
  go_wp2
  go_ret2
  exact ⟨rfl, ((Below.refl _ _).alloc (Nat.le_refl _) _)⟩
set_option maxHeartbeats 2000000 in
theorem text_n (k n : Int) (w : World) (h : IsNum k n) (hT : Tb w) : Calls Tryz.prog 32 #[VN k n] w (Ret (TF (uT (textS k n), 0)) w) := by
  have h7 : (k == 7) = false := by rw [beq_eq_false_iff_ne]; unfold IsNum at h; omega
  have H := Lib.hid h
  have HT := Lib.hid hT
  have hs := textS_size h
  have HU := Lib.hid (fun W => of_u (textS k n) W (by omega))
  have HI := Lib.hid (fun W => is_any k n W h)
  have HX := Lib.hid (fun (W : World) (hW : Tb W) => textN_any k n W h.lo h.hi hW.all)
  clear h hT hs
  generalize textS k n = S at *
  go_enter Tryz.func32, Tryz.ntmps32
  go_wp2_with fail
  refine (HI.out _).mono ?_
  rintro e w1 ⟨rfl, b1⟩
  have bb := ((Below.refl _ _).alloc (Nat.le_refl _) _).trans (b1.mono (by simp))
  obtain ⟨hc, hf⟩ := bcell b1
  go_wp2_with fail
  refine (HX.out _ (HT.out.below bb)).mono ?_
  rintro e w2 ⟨rfl, b2⟩
  have bb2 := bb.trans (b2.mono bb.size)
  go_wp2_with fail
  refine (HU.out _).mono ?_
  rintro e w3 ⟨rfl, b3⟩
  go_wp2_with fail
  go_ret2
  exact ⟨rfl, bb2.trans (b3.mono bb2.size)⟩
set_option maxHeartbeats 2000000 in
theorem text_0 (n : Int) (s : ByteArray) (w : World) : Calls Tryz.prog 32 #[VS 0 n s] w (Ret (TF (uT ⟨#[117, 110, 100, 101, 102, 105, 110, 101, 100]⟩, 0)) w) := by
  go_enter Tryz.func32, Tryz.ntmps32
  go_wp2_with fail
  refine (is_no 0 n s _ (by decide)).mono ?_
  rintro e w1 ⟨rfl, b1⟩
  have bb := ((Below.refl _ _).alloc (Nat.le_refl _) _).trans (b1.mono (by simp))
  obtain ⟨hc, hf⟩ := bcell b1
  go_wp2_with fail
  refine (of_u _ _ (by decide)).mono ?_
  rintro e w3 ⟨rfl, b3⟩
  go_wp2_with fail
  go_ret2
  exact ⟨rfl, bb.trans (b3.mono bb.size)⟩
set_option maxHeartbeats 2000000 in
theorem text_1 (n : Int) (s : ByteArray) (w : World) : Calls Tryz.prog 32 #[VS 1 n s] w (Ret (TF (uT ⟨#[110, 117, 108, 108]⟩, 0)) w) := by
  go_enter Tryz.func32, Tryz.ntmps32
  go_wp2_with fail
  refine (is_no 1 n s _ (by decide)).mono ?_
  rintro e w1 ⟨rfl, b1⟩
  have bb := ((Below.refl _ _).alloc (Nat.le_refl _) _).trans (b1.mono (by simp))
  obtain ⟨hc, hf⟩ := bcell b1
  go_wp2_with fail
  refine (of_u _ _ (by decide)).mono ?_
  rintro e w3 ⟨rfl, b3⟩
  go_wp2_with fail
  go_ret2
  exact ⟨rfl, bb.trans (b3.mono bb.size)⟩
set_option maxHeartbeats 2000000 in
theorem text_2t (n : Int) (s : ByteArray) (w : World) (h : (n == 0) = false) : Calls Tryz.prog 32 #[VS 2 n s] w (Ret (TF (uT ⟨#[116, 114, 117, 101]⟩, 0)) w) := by
  have h2 : (n != 0) = true := by simp only [bne, h]; rfl
  have h3 : ¬ n = 0 := by simpa using h
  go_enter Tryz.func32, Tryz.ntmps32
  go_wp2_with fail
  refine (is_no 2 n s _ (by decide)).mono ?_
  rintro e w1 ⟨rfl, b1⟩
  have bb := ((Below.refl _ _).alloc (Nat.le_refl _) _).trans (b1.mono (by simp))
  obtain ⟨hc, hf⟩ := bcell b1
  go_wp2_with fail
  refine (of_u _ _ (by decide)).mono ?_
  rintro e w3 ⟨rfl, b3⟩
  go_wp2_with fail
  go_ret2
  exact ⟨rfl, bb.trans (b3.mono bb.size)⟩
set_option maxHeartbeats 2000000 in
theorem text_2f (s : ByteArray) (w : World) : Calls Tryz.prog 32 #[VS 2 0 s] w (Ret (TF (uT ⟨#[102, 97, 108, 115, 101]⟩, 0)) w) := by
  go_enter Tryz.func32, Tryz.ntmps32
  go_wp2_with fail
  refine (is_no 2 0 s _ (by decide)).mono ?_
  rintro e w1 ⟨rfl, b1⟩
  have bb := ((Below.refl _ _).alloc (Nat.le_refl _) _).trans (b1.mono (by simp))
  obtain ⟨hc, hf⟩ := bcell b1
  go_wp2_with fail
  refine (of_u _ _ (by decide)).mono ?_
  rintro e w3 ⟨rfl, b3⟩
  go_wp2_with fail
  go_ret2
  exact ⟨rfl, bb.trans (b3.mono bb.size)⟩
set_option maxHeartbeats 2000000 in
theorem text_8 (n : Int) (s : ByteArray) (w : World) : Calls Tryz.prog 32 #[VS 8 n s] w (Ret (TF (⟨#[]⟩, 1)) w) := by
  go_enter Tryz.func32, Tryz.ntmps32
  go_wp2_with fail
  refine (is_no 8 n s _ (by decide)).mono ?_
  rintro e w1 ⟨rfl, b1⟩
  have bb := ((Below.refl _ _).alloc (Nat.le_refl _) _).trans (b1.mono (by simp))
  obtain ⟨hc, hf⟩ := bcell b1
  go_wp2_with fail
  go_ret2
  exact ⟨rfl, bb⟩
set_option maxHeartbeats 2000000 in
theorem text_9 (n : Int) (s : ByteArray) (w : World) : Calls Tryz.prog 32 #[VS 9 n s] w (Ret (TF (⟨#[]⟩, 2)) w) := by
  go_enter Tryz.func32, Tryz.ntmps32
  go_wp2_with fail
  refine (is_no 9 n s _ (by decide)).mono ?_
  rintro e w1 ⟨rfl, b1⟩
  have bb := ((Below.refl _ _).alloc (Nat.le_refl _) _).trans (b1.mono (by simp))
  obtain ⟨hc, hf⟩ := bcell b1
  go_wp2_with fail
  go_ret2
  exact ⟨rfl, bb⟩
set_option maxHeartbeats 2000000 in
theorem text_10 (n : Int) (s : ByteArray) (w : World) : Calls Tryz.prog 32 #[VS 10 n s] w (Ret (TF (⟨#[]⟩, 2)) w) := by
  go_enter Tryz.func32, Tryz.ntmps32
  go_wp2_with fail
  refine (is_no 10 n s _ (by decide)).mono ?_
  rintro e w1 ⟨rfl, b1⟩
  have bb := ((Below.refl _ _).alloc (Nat.le_refl _) _).trans (b1.mono (by simp))
  obtain ⟨hc, hf⟩ := bcell b1
  go_wp2_with fail
  go_ret2
  exact ⟨rfl, bb⟩
theorem text_any (k n : Int) (s : ByteArray) (w : World) (h : IsV k n s) (hT : Tb w) : Calls Tryz.prog 32 #[VS k n s] w (Ret (TF (textF k n s)) w) := by
  rcases kinds h.lo h.hi with rfl | rfl | rfl | ⟨h3, h6⟩ | rfl | rfl | rfl | rfl
  · exact text_0 n s w
  · exact text_1 n s w
  · cases hn : (n == 0)
    · have := text_2t n s w hn
      rw [show textF 2 n s = (uT ⟨#[116, 114, 117, 101]⟩, 0) by simp only [textF, txtF, hn]; rfl]; exact this
    · obtain rfl : n = 0 := by simpa using hn
      have := text_2f s w
      rw [show textF 2 0 s = (uT ⟨#[102, 97, 108, 115, 101]⟩, 0) from rfl]; exact this
  · have hs := h.str (by omega)
    subst hs
    have := text_n k n w (h.num h3 h6) hT
    have e : textF k n ⟨#[]⟩ = (uT (textS k n), 0) := by
      have : k = 3 ∨ k = 4 ∨ k = 5 ∨ k = 6 := by omega
      rcases this with rfl | rfl | rfl | rfl <;> rfl
    rw [e]; exact this
  · exact text_7 n s w
  · exact text_8 n s w
  · exact text_9 n s w
  · exact text_10 n s w
end Go.Proofs.YtdeboajjhpecbaaGreatDoor.Vx
