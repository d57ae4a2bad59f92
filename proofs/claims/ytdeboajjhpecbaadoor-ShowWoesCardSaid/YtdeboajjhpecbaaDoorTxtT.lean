/- A text of Go: the plain part. -/
import Derived.Test.YtdeboajjhpecbaaDoorTxtG
import Derived.Lib.MapLaws
set_option linter.unusedVariables false
set_option linter.unusedSimpArgs false
namespace Go.Proofs.YtdeboajjhpecbaaDoor.Tx
open Go.RowKit

def hexS : ByteArray := ⟨#[48, 49, 50, 51, 52, 53, 54, 55, 56, 57, 65, 66, 67, 68, 69, 70]⟩
def hx (d : Nat) : UInt8 := hexS.data.toList.getD d 0
def hexB (c : Nat) : List UInt8 := [hx (c / 4096 % 16), hx (c / 256 % 16), hx (c / 16 % 16), hx (c % 16)]
/-- What is told by its number. -/
def escB (c : Nat) : Bool := decide (c < 32 ∨ c = 127 ∨ (55296 ≤ c ∧ c ≤ 57343))
def goPiece (c : Nat) : List UInt8 := if c = 92 then [92, 92] else if escB c then 92 :: 117 :: hexB c else Lib.encodeRune (c : Int)
def goB (rows : List (List Nat)) : List UInt8 := rows.flatMap fun x => goPiece (signR x)
theorem goB_snoc (rows : List (List Nat)) (x : List Nat) : goB (rows ++ [x]) = goB rows ++ goPiece (signR x) := by simp [goB]
theorem goPiece_length (c : Nat) : (goPiece c).length ≤ 6 := by
  unfold goPiece
  split
  · simp
  · split
    · simp [hexB]
    · have := (Lib.encodeRuneZ_length (c : Int)).2
      rw [Lib.encodeRune, List.length_map]; omega
theorem goB_length (rows : List (List Nat)) : (goB rows).length ≤ 6 * rows.length := by
  induction rows with
  | nil => simp [goB]
  | cons x r ih =>
    have := goPiece_length (signR x)
    simp only [goB, List.flatMap_cons, List.length_append, List.length_cons] at ih ⊢
    omega

theorem signR_max {x : List Nat} (h : SignOK x) (hf : Fits x) : signR x ≤ 1114111 := by
  rcases h with ⟨u, rfl⟩ | ⟨u, v, rfl, hp⟩
  · have := hf u (by simp); simp only [signR]; omega
  · have := (ptB_iff u v).1 hp; simp only [signR]; omega
/-- A pair's number is no half and no small sign. -/
theorem signR_pair {u v : Nat} (h : ptB u v = true) : 65536 ≤ signR [u, v] := by
  have := (ptB_iff u v).1 h; simp only [signR]; omega

/-! ### Back -/
theorem decode_nosur (s : ByteArray) (pos : Nat) : ¬ (55296 ≤ (Utf8.decode s pos).1 ∧ (Utf8.decode s pos).1 ≤ 57343) := by
  have hv : ∀ c : Nat, Utf8.valid c = true → ¬ (55296 ≤ c ∧ c ≤ 57343) := fun c h => by simp [Utf8.valid] at h; omega
  unfold Utf8.decode
  dsimp only
  have h0 := UInt8.toNat_lt (s.get! (pos + 0))
  split
  · dsimp only; omega
  split
  · split
    · dsimp only; omega
    · exact (by decide)
  split
  · split
    · rename_i h; exact hv _ (Bool.and_eq_true_iff.1 h).2
    · exact (by decide)
  split
  · split
    · rename_i h; exact hv _ (Bool.and_eq_true_iff.1 h).2
    · exact (by decide)
  · exact (by decide)

def plainR (r : Nat) : Prop := 32 ≤ r ∧ r ≠ 127 ∧ r ≠ 92 ∧ r ≠ 65533
def PlainF (s : ByteArray) : Nat → Nat → Prop
  | 0, _ => True
  | f + 1, pos => pos < s.size → plainR (Utf8.decode s pos).1 ∧ PlainF s f (pos + (Utf8.decode s pos).2)
theorem plainF_end (s : ByteArray) (f pos : Nat) (h : ¬ pos < s.size) : PlainF s f pos := by
  cases f with
  | zero => trivial
  | succ f => exact fun h' => absurd h' h

theorem signs_rune (r : Nat) (l : List Nat) (h : ¬ (55296 ≤ r ∧ r ≤ 57343)) (hm : r ≤ 1114111) : signs (runeUnits r ++ l) = runeUnits r :: signs l ∧ signR (runeUnits r) = r := by
  unfold runeUnits
  by_cases hr : r < 65536
  · rw [if_pos hr]
    refine ⟨?_, rfl⟩
    have hp : ∀ v, ptB r v = false := fun v => by rw [Bool.eq_false_iff, ne_eq, ptB_iff]; omega
    cases l with
    | nil => simp [signs]
    | cons v l => simp [signs, hp]
  · rw [if_neg hr]
    have hp : ptB (55296 + (r - 65536) / 1024) (56320 + (r - 65536) % 1024) = true := by rw [ptB_iff]; omega
    refine ⟨?_, ?_⟩
    · show signs (_ :: _ :: l) = _
      rw [signs, if_pos hp]
    · simp only [signR]; omega

theorem goPiece_plain (r : Nat) (h : plainR r) (h2 : ¬ (55296 ≤ r ∧ r ≤ 57343)) : goPiece r = Lib.encodeRune (r : Int) := by
  have he : escB r = false := by rw [escB, decide_eq_false]; unfold plainR at h; omega
  rw [goPiece, if_neg h.2.2.1, he]; rfl

theorem go_back (s : ByteArray) (f pos : Nat) (hf : s.size ≤ pos + f) (h : PlainF s f pos) : goB (signs (decUnits s f pos)) = s.data.toList.drop pos := by
  induction f generalizing pos with
  | zero => rw [decUnits]; simp only [signs, goB, List.flatMap_nil]; rw [List.drop_of_length_le (by simpa using hf)]
  | succ f ih =>
    by_cases hp : pos < s.size
    · obtain ⟨h1, h2⟩ := h hp
      have hw := width_pos s pos hp
      rw [decUnits, if_pos hp]
      have hsr := signs_rune (Utf8.decode s pos).1 (decUnits s f (pos + (Utf8.decode s pos).2)) (decode_nosur s pos) (decode_max s pos)
      rw [hsr.1]
      have ih' := ih (pos + (Utf8.decode s pos).2) (by omega) h2
      simp only [goB, List.flatMap_cons] at ih' ⊢
      rw [ih', hsr.2, goPiece_plain _ h1 (decode_nosur s pos), ← Lib.decodeL_drop]
      have hne : s.data.toList.drop pos ≠ [] := by
        intro e
        have := congrArg List.length e
        rw [List.length_drop] at this
        have h3 : s.data.toList.length = s.size := by simp
        simp at this; omega
      rw [Lib.encode_decode _ hne (fun e => by rw [Lib.decodeL_drop] at e; exact h1.2.2.2 e.1), ← List.drop_drop, List.take_append_drop]
    · rw [decUnits_end s _ pos hp]; simp only [signs, goB, List.flatMap_nil]; rw [List.drop_of_length_le (by simpa using hp)]

end Go.Proofs.YtdeboajjhpecbaaDoor.Tx
