/- Plain functions on strings of 16-bit units: what package text's functions compute. No program in sight. -/
import GoSem.Core.Utf8
import Derived.Lib.RuneBytes
import Derived.Laws.RangeAny
set_option autoImplicit false
namespace Go.Proofs.YtolfcmfilfjgfaaDoor

def unitB (u : Nat) : List UInt8 := [UInt8.ofNat (u / 256), UInt8.ofNat (u % 256)]
def unitsB (l : List Nat) : List UInt8 := l.flatMap unitB
theorem unitsB_nil : unitsB [] = [] := rfl
theorem unitsB_cons (u : Nat) (l : List Nat) : unitsB (u :: l) = unitB u ++ unitsB l := rfl
theorem unitsB_append (l m : List Nat) : unitsB (l ++ m) = unitsB l ++ unitsB m := by simp [unitsB]
theorem unitsB_length (l : List Nat) : (unitsB l).length = 2 * l.length := by
  induction l with
  | nil => rfl
  | cons u l ih => rw [unitsB_cons, List.length_append, ih]; simp [unitB]; omega

def runeUnits (r : Nat) : List Nat := if r < 65536 then [r] else [55296 + (r - 65536) / 1024, 56320 + (r - 65536) % 1024]
def decUnits (s : ByteArray) : Nat → Nat → List Nat
  | 0, _ => []
  | fuel + 1, pos => if pos < s.size then runeUnits (Utf8.decode s pos).1 ++ decUnits s fuel (pos + (Utf8.decode s pos).2) else []
def unitsOf (s : ByteArray) : List Nat := decUnits s s.size 0
def ofB (s : ByteArray) : List UInt8 := unitsB (unitsOf s)

theorem width_pos (s : ByteArray) (pos : Nat) (h : pos < s.size) : 1 ≤ (Utf8.decode s pos).2 := by
  by_cases ha : (s[pos]'h).toNat < 128
  · rw [decode_ascii s pos h ha]
    exact Nat.le_refl _
  · exact (decode_high s pos h (by omega)).2

theorem valid_le (c : Nat) (h : Utf8.valid c = true) : c ≤ 1114111 := by
  simp [Utf8.valid] at h; omega
theorem decode_max (s : ByteArray) (pos : Nat) : (Utf8.decode s pos).1 ≤ 1114111 := by
  unfold Utf8.decode
  dsimp only
  have h0 := UInt8.toNat_lt (s.get! (pos + 0))
  split
  · dsimp only; omega
  split
  · split
    · dsimp only; omega
    · exact (by decide)
  split
  · split
    · rename_i h; exact valid_le _ (Bool.and_eq_true_iff.1 h).2
    · exact (by decide)
  split
  · split
    · rename_i h; exact valid_le _ (Bool.and_eq_true_iff.1 h).2
    · exact (by decide)
  · exact (by decide)

theorem decUnits_end (s : ByteArray) (fuel pos : Nat) (h : ¬ pos < s.size) : decUnits s fuel pos = [] := by
  cases fuel with
  | zero => rfl
  | succ f => simp [decUnits, h]

/-- Unit i of a string of units. -/
def unitAt (s : ByteArray) (i : Nat) : Nat := (s.data.toList.getD (2 * i) 0).toNat * 256 + (s.data.toList.getD (2 * i + 1) 0).toNat
theorem getD_byte (s : ByteArray) (k : Nat) (h : k < s.size) : s[k] = s.data.toList.getD k 0 := by
  have h' : k < s.data.toList.length := by simpa using h
  rw [List.getD_eq_getElem?_getD, List.getElem?_eq_getElem h']
  rfl
theorem unitAt_le (s : ByteArray) (i : Nat) : unitAt s i < 65536 := by
  unfold unitAt
  have h1 := UInt8.toNat_lt (s.data.toList.getD (2 * i) 0)
  have h2 := UInt8.toNat_lt (s.data.toList.getD (2 * i + 1) 0)
  omega

/-- The number that the first k units tell, all of them digits. -/
def idxVal (s : ByteArray) : Nat → Option Nat
  | 0 => some 0
  | k + 1 => match idxVal s k with
    | none => none
    | some v => if 48 ≤ unitAt s k ∧ unitAt s k ≤ 57 then some (v * 10 + (unitAt s k - 48)) else none
def idxRes : Option Nat → Int
  | none => -1
  | some v => if 1000 ≤ v then -1 else v
def indexOf (s : ByteArray) : Int :=
  if s.size / 2 = 0 ∨ 5 < s.size / 2 ∨ (1 < s.size / 2 ∧ unitAt s 0 = 48) then -1 else idxRes (idxVal s (s.size / 2))
theorem idxVal_none (s : ByteArray) (k n : Nat) (h : idxVal s k = none) (hn : k ≤ n) : idxVal s n = none := by
  induction n with
  | zero => have : k = 0 := by omega
            subst this; exact h
  | succ n ih =>
    by_cases he : k = n + 1
    · subst he; exact h
    · rw [idxVal, ih (by omega)]

end Go.Proofs.YtolfcmfilfjgfaaDoor
