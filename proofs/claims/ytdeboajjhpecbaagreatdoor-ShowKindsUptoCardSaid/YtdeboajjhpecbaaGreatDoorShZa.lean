/- Show: trees of values, and how they are printed. No function of the program in sight. -/
import Derived.Test.YtdeboajjhpecbaaGreatDoorShJ
set_option linter.unusedVariables false
set_option linter.unusedSimpArgs false
namespace Go.Proofs.YtdeboajjhpecbaaGreatDoor.Hp
open Go.RowKit Go.Proofs.YtdeboajjhpecbaaGreatDoor Go.Shelf
/-- A tree: a plain value, a symbol, an object of a class, an array of at most three. -/
inductive Tr
  | lf (k n : Int) (l : List Nat)
  | sy (l : List Nat)
  | ob (c : Nat)
  | ar0
  | ar1 (a : Tr)
  | ar2 (a b : Tr)
  | ar3 (a b c : Tr)
abbrev goU (l : List Nat) : List UInt8 := Tx.goB (Tx.signs l)
/-- A plain value's units. -/
def ulF (k n : Int) (l : List Nat) : List Nat := if k = 7 then l else Tx.unitsOf (Vx.txtF k n)
/-- A plain value. -/
structure OkLf (k n : Int) (l : List Nat) : Prop where
  v : Vx.IsV k n (Tx.uS l)
  k8 : (k == 8) = false
  k9 : (k == 9) = false
  e : k ≠ 7 → l = []
  f : Tx.Fits l
  len : l.length ≤ 600
/-- The names of the classes. -/
def cnL : List (List UInt8) := [[79, 98, 106, 101, 99, 116], [65, 114, 114, 97, 121], [70, 117, 110, 99, 116, 105, 111, 110], [77, 97, 112], [83, 101, 116], [73, 116, 101, 114, 97, 116, 111, 114], [87, 101, 97, 107, 77, 97, 112], [87, 101, 97, 107, 83, 101, 116], [87, 101, 97, 107, 82, 101, 102], [70, 105, 110, 97, 108, 105, 122, 97, 116, 105, 111, 110, 82, 101, 103, 105, 115, 116, 114, 121], [71, 101, 110, 101, 114, 97, 116, 111, 114], [80, 114, 111, 109, 105, 115, 101], [69, 114, 114, 111, 114]]
def cnB (c : Nat) : List UInt8 := cnL.getD c []
theorem cnB_len (c : Nat) : (cnB c).length ≤ 20 := by
  unfold cnB
  rcases Nat.lt_or_ge c 13 with h | h
  · have : ∀ i, i < 13 → (cnL.getD i []).length ≤ 20 := by decide
    exact this c h
  · rw [List.getD_eq_getElem?_getD, List.getElem?_eq_none (by simpa [cnL] using h)]; simp
def symB (l : List Nat) : List UInt8 := [83, 121, 109, 98, 111, 108, 40] ++ goU l ++ [41]
def brk (ss : List (List UInt8)) : List UInt8 := 91 :: (jn ss ++ [93])
abbrev dots : List UInt8 := [91, 46, 46, 93]
/-- How a tree is printed within d arrays. -/
def prT : Tr → Nat → List UInt8
  | .lf k n l, _ => if k = 10 then [] else goU (ulF k n l)
  | .sy l, _ => symB l
  | .ob c, _ => 91 :: (cnB c ++ [93])
  | .ar0, d => if d > 2 then dots else brk []
  | .ar1 a, d => if d > 2 then dots else brk [prT a (d + 1)]
  | .ar2 a b, d => if d > 2 then dots else brk [prT a (d + 1), prT b (d + 1)]
  | .ar3 a b c, d => if d > 2 then dots else brk [prT a (d + 1), prT b (d + 1), prT c (d + 1)]
/-- A tree that may be. -/
def OkT : Tr → Prop
  | .lf k n l => OkLf k n l
  | .sy l => Tx.Fits l ∧ l.length ≤ 600
  | .ob c => c = 0 ∨ c = 3 ∨ c = 4 ∨ c = 6 ∨ c = 7 ∨ c = 8 ∨ c = 9 ∨ c = 10 ∨ c = 11
  | .ar0 => True
  | .ar1 a => OkT a
  | .ar2 a b => OkT a ∧ OkT b
  | .ar3 a b c => OkT a ∧ OkT b ∧ OkT c
/-- How many units it has. -/
def unT : Tr → Nat
  | .lf _ _ l => l.length
  | .sy l => l.length
  | .ob _ => 0
  | .ar0 => 0
  | .ar1 a => unT a
  | .ar2 a b => unT a + unT b
  | .ar3 a b c => unT a + unT b + unT c
theorem goU_len (l : List Nat) : (goU l).length ≤ 6 * l.length := by
  have h1 := Tx.goB_length (Tx.signs l)
  have h2 := Tx.signs_len l
  show (Tx.goB (Tx.signs l)).length ≤ _
  omega
theorem txtF_size (k n : Int) (l : List Nat) (h : OkLf k n l) (h7 : k ≠ 7) (h10 : k ≠ 10) : (Vx.txtF k n).size ≤ 21 := by
  have hv := h.v
  have h8 := h.k8
  have h9 := h.k9
  rcases Vx.kinds hv.lo hv.hi with rfl | rfl | rfl | ⟨a, b⟩ | rfl | rfl | rfl | rfl
  · rw [show Vx.txtF 0 n = ⟨#[117, 110, 100, 101, 102, 105, 110, 101, 100]⟩ from rfl]; decide
  · rw [show Vx.txtF 1 n = ⟨#[110, 117, 108, 108]⟩ from rfl]; decide
  · by_cases hn : (n == 0) = true
    · rw [show Vx.txtF 2 n = ⟨#[102, 97, 108, 115, 101]⟩ by unfold Vx.txtF; rw [hn]; rfl]; decide
    · have h0 : (n == 0) = false := by simpa using hn
      rw [show Vx.txtF 2 n = ⟨#[116, 114, 117, 101]⟩ by unfold Vx.txtF; rw [h0]; rfl]; decide
  · have : (Vx.textS k n).size ≤ 21 := by
      unfold Vx.textS
      by_cases h4 : (k == 4) = true
      · rw [if_pos h4]; decide
      · rw [if_neg h4]
        by_cases h5 : (k == 5) = true
        · rw [if_pos h5]
          by_cases hn : decide (0 < n) = true
          · rw [if_pos hn]; decide
          · rw [if_neg hn]; decide
        · rw [if_neg h5]
          have hh := hv.num a b
          have := Lib.itoa_length_le n (by have := hh.lo; omega) (by have := hh.hi; omega)
          simp [ByteArray.size]; omega
    unfold Vx.txtF
    have e0 : (k == 0) = false := by simp; omega
    have e1 : (k == 1) = false := by simp; omega
    have e2 : (k == 2) = false := by simp; omega
    rw [e0, e1, e2]
    simpa using this
  · exact absurd rfl h7
  · cases h8
  · cases h9
  · exact absurd rfl h10
theorem ulF_len (k n : Int) (l : List Nat) (h : OkLf k n l) (h10 : k ≠ 10) : (ulF k n l).length ≤ 42 + l.length := by
  unfold ulF
  by_cases h7 : k = 7
  · rw [if_pos h7]; omega
  · rw [if_neg h7]
    have := Tx.decUnits_length (Vx.txtF k n) (Vx.txtF k n).size 0
    have h2 := txtF_size k n l h h7 h10
    show (Tx.decUnits _ _ _).length ≤ _
    omega
/-- How long it is printed at most. -/
def lenC : Nat → Nat
  | 0 => 7400
  | 1 => 2450
  | 2 => 800
  | _ => 260
theorem jn1_len (a : List UInt8) : (brk [a]).length = a.length + 2 := by simp [brk, jn]
theorem jn2_len (a b : List UInt8) : (brk [a, b]).length = a.length + b.length + 4 := by simp [brk, jn]; omega
theorem jn3_len (a b c : List UInt8) : (brk [a, b, c]).length = a.length + b.length + c.length + 6 := by simp [brk, jn]; omega
theorem lenC_lo (d : Nat) : 260 ≤ lenC d := by
  match d with
  | 0 => decide
  | 1 => decide
  | 2 => decide
  | d + 3 => exact Nat.le_refl _
theorem lenC_step (d : Nat) (h : ¬ d > 2) : 3 * lenC (d + 1) + 6 ≤ lenC d := by
  match d, h with
  | 0, _ => decide
  | 1, _ => decide
  | 2, _ => decide
  | d + 3, h => omega
theorem prT_len : ∀ (t : Tr) (d : Nat), OkT t → (prT t d).length ≤ lenC d + 6 * unT t
  | .lf k n l, d, h => by
    have hc := lenC_lo d
    show (if k = 10 then [] else goU (ulF k n l)).length ≤ lenC d + 6 * l.length
    by_cases h10 : k = 10
    · rw [if_pos h10]; simp
    · rw [if_neg h10]
      have h1 := goU_len (ulF k n l)
      have h2 := ulF_len k n l h h10
      omega
  | .sy l, d, h => by
    have hc := lenC_lo d
    have h1 := goU_len l
    show (symB l).length ≤ lenC d + 6 * l.length
    simp only [symB, List.length_append, List.length_cons, List.length_nil]; omega
  | .ob c, d, h => by
    have hc := lenC_lo d
    have h1 := cnB_len c
    show (91 :: (cnB c ++ [93])).length ≤ _
    simp only [List.length_append, List.length_cons, List.length_nil]; omega
  | .ar0, d, h => by
    have hc := lenC_lo d
    show (if d > 2 then dots else brk []).length ≤ _
    split
    · show 4 ≤ _; omega
    · show 2 ≤ _; omega
  | .ar1 a, d, h => by
    have hc := lenC_lo d
    show (if d > 2 then dots else brk [prT a (d + 1)]).length ≤ lenC d + 6 * unT a
    split
    · show 4 ≤ _; omega
    · rename_i hd
      have h1 := prT_len a (d + 1) h
      have h2 := lenC_step d hd
      rw [jn1_len]; omega
  | .ar2 a b, d, h => by
    have hc := lenC_lo d
    show (if d > 2 then dots else brk [prT a (d + 1), prT b (d + 1)]).length ≤ lenC d + 6 * (unT a + unT b)
    split
    · show 4 ≤ _; omega
    · rename_i hd
      have h1 := prT_len a (d + 1) h.1
      have h3 := prT_len b (d + 1) h.2
      have h2 := lenC_step d hd
      rw [jn2_len]; omega
  | .ar3 a b c, d, h => by
    have hc := lenC_lo d
    show (if d > 2 then dots else brk [prT a (d + 1), prT b (d + 1), prT c (d + 1)]).length ≤ lenC d + 6 * (unT a + unT b + unT c)
    split
    · show 4 ≤ _; omega
    · rename_i hd
      have h1 := prT_len a (d + 1) h.1
      have h3 := prT_len b (d + 1) h.2.1
      have h4 := prT_len c (d + 1) h.2.2
      have h2 := lenC_step d hd
      rw [jn3_len]; omega
end Go.Proofs.YtdeboajjhpecbaaGreatDoor.Hp
