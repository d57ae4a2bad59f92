/- Contracts of code.Operator and code.Operators: an operator's text by its number, and its number by its text. -/
import Derived.Test.YtipijgnbdnbljaaDoorShelf
import Derived.WalkKit
import Derived.WalkSpells
import Derived.WalkLawsBesides
import Derived.BigQuiet
import Derived.Deep.QuietTactic
import Derived.Lib.Hide
import Derived.Lib.QuietBelow
import Derived.Lib.LaidTab
import Derived.Lib.AppendIntMem
import Derived.Laws.NewBlocks
import Derived.Below
set_option linter.unusedVariables false
set_option linter.unusedSimpArgs false
namespace Go.Proofs.YtipijgnbdnbljaaDoor
open Go.RowKit

/-- One value comes back; nothing that was there has turned. -/
def Ret (v : Value) (w : World) (e : Ending) (w' : World) : Prop := e = .returned v ∧ Below w.heap.size w w'
/-- strings.Fields' table reads as it was laid. -/
def Tb (w : World) : Prop := Lib.TabIs Tryd.prog w "strings.asciiSpace" .u8 Lib.asciiSpaceTab
theorem Tb.below {w W : World} (h : Tb w) (b : Below w.heap.size w W) : Tb W := Lib.tabBelow_of_tabIs h W b

theorem belowN {B : Nat} {a w : World} (h : Below B a w) (n : Nat) : Below B a (w.drewN n) := ⟨h.os, h.tape, h.output, h.size, h.block⟩

def opText : ByteArray := ⟨#[43, 32, 45, 32, 42, 32, 47, 32, 37, 32, 60, 32, 62, 32, 60, 61, 32, 62, 61, 32, 61, 61, 61, 32, 33, 61, 61]⟩
def ops : List (List UInt8) := [[43], [45], [42], [47], [37], [60], [62], [60, 61], [62, 61], [61, 61, 61], [33, 61, 61]]
def opsV : Array Value := (ops.map fun l => Value.string ⟨l.toArray⟩).toArray
def opB (i : Nat) : ByteArray := ⟨(ops.getD i []).toArray⟩
theorem fields_ops : Lib.fields opText.data.toList = ops := by decide
theorem ascii_ops : ∀ (j : Nat) b, opText.data.toList[j]? = some b → b.toNat < 128 := by
  intro j b h
  have hm := List.mem_of_getElem? h
  have : opText.data.toList.all (fun b => b.toNat < 128) = true := by decide
  simpa using List.all_eq_true.1 this b hm

theorem fields_any (w : World) (h : Tb w) :
    Calls Tryd.prog 16 #[.string opText] w fun e w' => e = .returned (.slice (some ⟨w.heap.size, 0, none⟩) 11 11) ∧ w' = w.alloc (.cells opsV 9) := by
  have := Tryd.strings_Fields opText w (by decide) ascii_ops h
  rw [fields_ops] at this
  exact this

theorem opsV_at (i : Nat) (h : i < 11) : opsV[i]? = some (.string (opB i)) := by
  match i, h with
  | 0, _ => rfl
  | 1, _ => rfl
  | 2, _ => rfl
  | 3, _ => rfl
  | 4, _ => rfl
  | 5, _ => rfl
  | 6, _ => rfl
  | 7, _ => rfl
  | 8, _ => rfl
  | 9, _ => rfl
  | 10, _ => rfl

def operR (n : Int) : ByteArray := if n < 0 ∨ 11 ≤ n then ⟨#[]⟩ else opB n.toNat

set_option maxHeartbeats 1000000 in
theorem operator_any (n : Int) (w : World) (h : Tb w) : Calls Tryd.prog 9 #[.int .i64 n] w (Ret (.string (operR n)) w) := by
  by_cases h0 : n < 0 ∨ 11 ≤ n
  · have HR := Lib.hid (show operR n = ⟨#[]⟩ by rw [operR, if_pos h0])
    by_cases h1 : n < 0
    · have t1 : decide (n < 0) = true := by simpa using h1
      clear h0
      go_enter Tryd.func9, Tryd.ntmps9
      go_wp2_with fail
      refine (fields_any _ h).mono ?_
      rintro e w1 ⟨rfl, rfl⟩
      go_wp2
      go_ret
      exact ⟨by rw [HR.out]; rfl, (Below.refl _ _).alloc (Nat.le_refl _) _⟩
    · have t1 : decide (n < 0) = false := by simpa using h1
      have t2 : decide (11 ≤ n) = true := by simp; omega
      clear h0
      go_enter Tryd.func9, Tryd.ntmps9
      go_wp2_with fail
      refine (fields_any _ h).mono ?_
      rintro e w1 ⟨rfl, rfl⟩
      go_wp2
      go_ret
      exact ⟨by rw [HR.out]; rfl, (Below.refl _ _).alloc (Nat.le_refl _) _⟩
  · obtain ⟨k, rfl⟩ := Int.eq_ofNat_of_zero_le (show 0 ≤ n by omega)
    have hk : k < 11 := by omega
    have HR := Lib.hid (show operR k = opB k by rw [operR, if_neg (by omega)]; simp)
    have hc : ∀ W : World, (W.alloc (.cells opsV 9)).cell? ⟨W.heap.size, k, none⟩ = some (.string (opB k)) := fun W => by
      rw [Lib.cell_of_heap (heap_alloc_new W _)]; exact opsV_at k hk
    have g := hc w
    have t1 : decide ((k : Int) < 0) = false := by simp
    have t2 : decide (11 ≤ (k : Int)) = false := by simp; omega
    have y1 : (k : Int) < 11 := by omega
    have y0 : 0 ≤ (k : Int) := by omega
    clear h0 hc
    go_enter Tryd.func9, Tryd.ntmps9
    go_wp2_with fail
    refine (fields_any _ h).mono ?_
    rintro e w1 ⟨rfl, rfl⟩
    go_wp2
    go_ret
    exact ⟨by rw [HR.out]; rfl, (Below.refl _ _).alloc (Nat.le_refl _) _⟩

/-- The last place below j where the operator's text is s; -1. -/
def lastOp (s : ByteArray) : Nat → Int
  | 0 => -1
  | j + 1 => if (opB j).toList = s.toList then (j : Int) else lastOp s j
theorem ba_ext {a b : ByteArray} (h : a.toList = b.toList) : a = b := by
  have : a.data.toList = b.data.toList := by rw [← ByteArray.toList_eq, ← ByteArray.toList_eq, h]
  exact ByteArray.ext (Array.toList_inj.1 this)
theorem opB_inj (i j : Nat) (hi : i < 11) (hj : j < 11) (h : ops.getD i [] = ops.getD j []) : i = j := by
  have : (List.range 11).all (fun i => (List.range 11).all fun j => !(ops.getD i [] == ops.getD j []) || i == j) = true := by decide
  have h1 := List.all_eq_true.1 (List.all_eq_true.1 this i (List.mem_range.2 hi)) j (List.mem_range.2 hj)
  rw [h] at h1
  simpa using h1
theorem lastOp_ne (s : ByteArray) (j m : Nat) (h : ∀ i, j ≤ i → i < j + m → (opB i).toList ≠ s.toList) : lastOp s (j + m) = lastOp s j := by
  induction m with
  | zero => rfl
  | succ m ih => rw [← Nat.add_assoc, lastOp, if_neg (h (j + m) (by omega) (by omega)), ih (fun i h1 h2 => h i h1 (by omega))]
theorem lastOp_at (s : ByteArray) (j : Nat) (hj : j < 11) (h : (opB j).toList = s.toList) : lastOp s 11 = j := by
  have h2 : lastOp s (j + 1) = j := by rw [lastOp, if_pos h]
  rw [← h2, show 11 = (j + 1) + (10 - j) by omega]
  refine lastOp_ne s (j + 1) (10 - j) fun i h3 h4 he => ?_
  have h5 : opB i = opB j := ba_ext (he.trans h.symm)
  have h6 : ops.getD i [] = ops.getD j [] := by
    have := congrArg (fun b => b.data.toList) h5
    simpa [opB] using this
  have := opB_inj i j (by omega) hj h6
  omega
theorem lastOp_bd (s : ByteArray) (j : Nat) : -1 ≤ lastOp s j ∧ lastOp s j < j := by
  induction j with
  | zero => rw [lastOp]; omega
  | succ j ih => rw [lastOp]; split <;> omega
theorem lastOp_get (s : ByteArray) (j : Nat) (h : 0 ≤ lastOp s j) : opB (lastOp s j).toNat = s := by
  induction j with
  | zero => rw [lastOp] at h; omega
  | succ j ih =>
    rw [lastOp] at h ⊢
    by_cases hc : (opB j).toList = s.toList
    · rw [if_pos hc]; simpa using ba_ext hc
    · rw [if_neg hc] at h ⊢; exact ih h

set_option maxHeartbeats 2000000 in
theorem operators_any (s : ByteArray) (w : World) (h : Tb w) : Calls Tryd.prog 10 #[.string s] w (Ret (.int .i64 (lastOp s 11)) w) := by
  obtain ⟨R, hR⟩ : ∃ R, R = lastOp s 11 := ⟨_, rfl⟩
  rw [← hR]
  have HR := Lib.hid hR
  have hcell : ∀ k, k < 11 → (w.alloc (.cells opsV 9)).cell? ⟨w.heap.size, k, none⟩ = some (.string (opB k)) := fun k hk => by
    rw [Lib.cell_of_heap (heap_alloc_new w _)]; exact opsV_at k hk
  have HC := Lib.hid hcell
  clear hR hcell
  go_enter Tryd.func10, Tryd.ntmps10
  go_wp2_with fail
  refine (fields_any _ h).mono ?_
  rintro e w1 ⟨rfl, rfl⟩
  go_wp2_with fail
  go_loop [7] (fun i => ∃ k : Nat, k ≤ 11 ∧ i = .int .i64 k ∧ lastOp s k = -1) (fun i => 11 - (intOf i).toNat)
  case atStart => exact ⟨0, by omega, rfl, rfl⟩
  case round =>
    obtain ⟨k, hk, rfl, hl⟩ := hrel
    have HL := Lib.hid hl
    clear hl
    by_cases hlt : k < 11
    · have t1 : decide ((k : Int) < 11) = true := by simp; omega
      have c1 := HC.out k hlt
      have y0 : 0 ≤ (k : Int) := by omega
      have y1 : (k : Int) < 11 := by omega
      by_cases he : (opB k).toList = s.toList
      · have t2 : ((opB k).toList == s.toList) = true := by simpa using he
        have H1 := Lib.hid ((HR.out).trans (lastOp_at s k hlt he))
        clear he
        go_wp2
        go_ret
        exact ⟨by rw [H1.out]; rfl, (Below.refl _ _).alloc (Nat.le_refl _) _⟩
      · have t2 : ((opB k).toList == s.toList) = false := by simpa using he
        have H1 := Lib.hid (show lastOp s (k + 1) = -1 by rw [lastOp, if_neg he]; exact HL.out)
        clear he
        go_wp2
        go_round
        case rel => exact ⟨k + 1, by omega, by go_num, H1.out⟩
        case measure => simp [intOf]; omega
    · obtain rfl : k = 11 := by omega
      have t1 : decide (((11 : Nat) : Int) < 11) = false := by simp
      go_wp2
      go_ret
      exact ⟨by rw [HR.out, HL.out]; rfl, (Below.refl _ _).alloc (Nat.le_refl _) _⟩
end Go.Proofs.YtipijgnbdnbljaaDoor
