/- ValI: several texts in one. -/
import Derived.Test.YtdeboajjhpecbaaGreatDoorValB
import Derived.Laws.BitsLemmas
import Derived.Lib.QuietBelow
/- Contracts of value.Strict, join, compare, reckon and Binary, given those of what they call. -/
set_option linter.unusedVariables false
set_option linter.unusedSimpArgs false
namespace Go.Proofs.YtdeboajjhpecbaaGreatDoor.Vx
open Go.RowKit
variable (k n : Int) (s : ByteArray) (k' n' : Int) (s' : ByteArray)

end Go.Proofs.YtdeboajjhpecbaaGreatDoor.Vx

/- Contracts of value.compare, operator by operator, given those of what they call. -/
set_option linter.unusedVariables false
set_option linter.unusedSimpArgs false
namespace Go.Proofs.YtdeboajjhpecbaaGreatDoor.Vx
open Go.RowKit
variable (k n : Int) (s : ByteArray) (k' n' : Int) (s' : ByteArray)

end Go.Proofs.YtdeboajjhpecbaaGreatDoor.Vx

/- Contracts of value.reckon and Binary, operator by operator, given those of what they call. -/
set_option linter.unusedVariables false
set_option linter.unusedSimpArgs false
namespace Go.Proofs.YtdeboajjhpecbaaGreatDoor.Vx
open Go.RowKit
variable (k n : Int) (s : ByteArray) (k' n' : Int) (s' : ByteArray)

end Go.Proofs.YtdeboajjhpecbaaGreatDoor.Vx

/- Contract of value.Binary: what an operator answers of any two values. -/
set_option linter.unusedVariables false
set_option linter.unusedSimpArgs false
namespace Go.Proofs.YtdeboajjhpecbaaGreatDoor.Vx
open Go.RowKit

/-- A value, and what an operation comes to. -/
abbrev R4 := Int × Int × ByteArray × Int
abbrev R4V (x : R4) : Value := .tuple #[VS x.1 x.2.1 x.2.2.1, .int .i64 x.2.2.2]
def bad (e : Int) : R4 := (0, 0, ⟨#[]⟩, e)
def tr (b : Bool) : R4 := (2, tN b, ⟨#[]⟩, 0)
def isN (k : Int) : Bool := k == 3 || k == 4 || k == 5 || k == 6
def strictR (k n : Int) (s : ByteArray) (k' n' : Int) (s' : ByteArray) : Bool := if isN k && isN k' then eqR k n k' n' else veq k n s k' n' s'
def arith (r : Int × Int × Bool) : R4 := if r.2.2 then (r.1, r.2.1, ⟨#[]⟩, 0) else bad 2
def reckF (op : Nat) (p q p' q' : Int) : R4 :=
  match op with
  | 0 => arith (addR p q p' q')
  | 1 => arith (subR p q p' q')
  | 2 => arith (mulR p q p' q')
  | 3 => arith (divR p q p' q')
  | 4 => ((remR p q p' q').1, (remR p q p' q').2, ⟨#[]⟩, 0)
  | _ => bad 2
def numOp (op : Nat) (k n k' n' : Int) : R4 := if (convF k n).2.2 ≠ 0 then bad (convF k n).2.2 else if (convF k' n').2.2 ≠ 0 then bad (convF k' n').2.2 else reckF op (convF k n).1 (convF k n).2.1 (convF k' n').1 (convF k' n').2.1
/-- Of two strings, c being how they compare. -/
def cmpB (op : Nat) (c : Int) : Bool := match op with
  | 5 => decide (c < 0)
  | 6 => decide (0 < c)
  | 7 => decide (c ≤ 0)
  | _ => decide (0 ≤ c)
/-- Of two numbers. -/
def ordB (op : Nat) (l m ok : Bool) : Bool := match op with
  | 5 => l
  | 6 => m
  | 7 => ok && !m
  | _ => ok && !l
def cmpF (op : Nat) (k n : Int) (u : List Nat) (k' n' : Int) (u' : List Nat) : R4 :=
  if k == 7 && k' == 7 then tr (cmpB op (Tx.cmpL u u')) else if (convF k n).2.2 ≠ 0 then bad (convF k n).2.2 else if (convF k' n').2.2 ≠ 0 then bad (convF k' n').2.2
  else tr (ordB op (lessR (convF k n).1 (convF k n).2.1 (convF k' n').1 (convF k' n').2.1).1 (lessR (convF k' n').1 (convF k' n').2.1 (convF k n).1 (convF k n).2.1).1 (lessR (convF k n).1 (convF k n).2.1 (convF k' n').1 (convF k' n').2.1).2)
def joinF (k n : Int) (s : ByteArray) (k' n' : Int) (s' : ByteArray) : R4 :=
  if (textF k n s).2 ≠ 0 then bad (textF k n s).2 else if (textF k' n' s').2 ≠ 0 then bad (textF k' n' s').2 else if (textF k n s).1.size / 2 + (textF k' n' s').1.size / 2 ≤ 16384 then (7, 0, (textF k n s).1 ++ (textF k' n' s').1, 0) else bad 2
def binF (op : Nat) (k n : Int) (s : ByteArray) (u : List Nat) (k' n' : Int) (s' : ByteArray) (u' : List Nat) : R4 :=
  match op with
  | 0 => if k == 7 || k' == 7 then joinF k n s k' n' s' else numOp 0 k n k' n'
  | 1 => numOp 1 k n k' n'
  | 2 => numOp 2 k n k' n'
  | 3 => numOp 3 k n k' n'
  | 4 => numOp 4 k n k' n'
  | 5 => cmpF 5 k n u k' n' u'
  | 6 => cmpF 6 k n u k' n' u'
  | 7 => cmpF 7 k n u k' n' u'
  | 8 => cmpF 8 k n u k' n' u'
  | 9 => tr (strictR k n s k' n' s')
  | 10 => tr (!strictR k n s k' n' s')
  | _ => numOp 11 k n k' n'
def opS (op : Nat) : ByteArray := match op with
  | 0 => ⟨#[43]⟩ | 1 => ⟨#[45]⟩ | 2 => ⟨#[42]⟩ | 3 => ⟨#[47]⟩ | 4 => ⟨#[37]⟩ | 5 => ⟨#[60]⟩ | 6 => ⟨#[62]⟩ | 7 => ⟨#[60, 61]⟩ | 8 => ⟨#[62, 61]⟩ | 9 => ⟨#[61, 61, 61]⟩ | 10 => ⟨#[33, 61, 61]⟩ | _ => ⟨#[63]⟩

theorem conv_num {k n : Int} {s : ByteArray} (h : IsV k n s) (he : (convF k n).2.2 = 0) : IsNum (convF k n).1 (convF k n).2.1 := by
  rcases kinds h.lo h.hi with rfl | rfl | rfl | ⟨h3, h6⟩ | rfl | rfl | rfl | rfl
  · exact .inl ⟨rfl, rfl⟩
  · have := h.small (.inl rfl)
    exact .inr (.inr (.inr ⟨rfl, by show _ ≤ n; omega, by show n ≤ _; omega⟩))
  · have := h.small (.inr rfl)
    exact .inr (.inr (.inr ⟨rfl, by show _ ≤ n; omega, by show n ≤ _; omega⟩))
  · have e : convF k n = (k, n, 0) := by
      have : k = 3 ∨ k = 4 ∨ k = 5 ∨ k = 6 := by omega
      rcases this with rfl | rfl | rfl | rfl <;> rfl
    rw [e]; exact h.num h3 h6
  · exact absurd (show (2 : Int) = 0 from he) (by decide)
  · exact absurd (show (1 : Int) = 0 from he) (by decide)
  · exact absurd (show (2 : Int) = 0 from he) (by decide)
  · exact absurd (show (2 : Int) = 0 from he) (by decide)
theorem isN_iff (k : Int) : isN k = true ↔ 3 ≤ k ∧ k ≤ 6 := by unfold isN; simp; omega
theorem isV_is {k n : Int} {s : ByteArray} (h : IsV k n s) (W : World) : Calls Tryz.prog 51 #[VS k n s] W (Ret (.bool (isN k)) W) := by
  cases hk : isN k
  · have : ¬ (3 ≤ k ∧ k ≤ 6) := fun h2 => by rw [(isN_iff k).2 h2] at hk; cases hk
    exact is_no k n s W (by omega)
  · have h2 := (isN_iff k).1 hk
    have hs := h.str (by omega)
    subst hs
    exact is_any k n W (h.num h2.1 h2.2)
theorem uT_size (b : ByteArray) (h : b.size ≤ 1000) : (uT b).size ≤ 4000 := by
  have h1 : (Tx.unitsB (Tx.unitsOf b)).length = 2 * (Tx.unitsOf b).length := Tx.unitsB_length _
  have h2 := Tx.decUnits_length b b.size 0
  have h3 : (Tx.unitsOf b).length ≤ 2000 := by unfold Tx.unitsOf; omega
  show (Tx.ofB b).toArray.size ≤ 4000
  rw [List.size_toArray]
  show (Tx.unitsB (Tx.unitsOf b)).length ≤ 4000
  omega
theorem txtF_size {k n : Int} {s : ByteArray} (h : IsV k n s) (hk : k ≤ 6) : (txtF k n).size ≤ 1000 := by
  rcases kinds h.lo h.hi with rfl | rfl | rfl | ⟨h3, h6⟩ | rfl | rfl | rfl | rfl
  · exact (by decide : (9 : Nat) ≤ 1000)
  · exact (by decide : (4 : Nat) ≤ 1000)
  · unfold txtF
    by_cases hn : (n == 0) = true
    · rw [hn]; exact (by decide : (5 : Nat) ≤ 1000)
    · have : (n == 0) = false := by simpa using hn
      rw [this]; exact (by decide : (4 : Nat) ≤ 1000)
  · have e : txtF k n = textS k n := by
      have : k = 3 ∨ k = 4 ∨ k = 5 ∨ k = 6 := by omega
      rcases this with rfl | rfl | rfl | rfl <;> rfl
    have := textS_size (h.num h3 h6)
    rw [e]; omega
  all_goals omega
theorem textF_size {k n : Int} {s : ByteArray} (h : IsV k n s) : (textF k n s).1.size ≤ 4000 := by
  rcases kinds h.lo h.hi with rfl | rfl | rfl | ⟨h3, h6⟩ | rfl | rfl | rfl | rfl
  · exact uT_size _ (txtF_size h (by decide))
  · exact uT_size _ (txtF_size h (by decide))
  · exact uT_size _ (txtF_size h (by decide))
  · have e : textF k n s = (uT (txtF k n), 0) := by
      have : k = 3 ∨ k = 4 ∨ k = 5 ∨ k = 6 := by omega
      rcases this with rfl | rfl | rfl | rfl <;> rfl
    rw [e]; exact uT_size _ (txtF_size h h6)
  · exact h.size
  · exact (by decide : (0 : Nat) ≤ 4000)
  · exact (by decide : (0 : Nat) ≤ 4000)
  · exact (by decide : (0 : Nat) ≤ 4000)
end Go.Proofs.YtdeboajjhpecbaaGreatDoor.Vx

/- Contract of the statements' seeds of values: which value a seed makes. -/
set_option linter.unusedVariables false
set_option linter.unusedSimpArgs false
namespace Go.Proofs.YtdeboajjhpecbaaGreatDoor.Vx
open Go.RowKit

def lowBits (N : Int) (m : Nat) : Nat := (BitVec.ofInt 64 N).toNat &&& m
theorem lowBits_le (N : Int) (m : Nat) : lowBits N m ≤ m := Nat.and_le_right
theorem and_1 (N : Int) : bits .and .i64 N 1 = (lowBits N 1 : Int) := by
  have h := lowBits_le N 1
  show IntKind.i64.wrap (((BitVec.ofInt 64 N &&& BitVec.ofInt 64 1).toNat : Nat) : Int) = _
  rw [BitVec.toNat_and, show (BitVec.ofInt 64 1).toNat = 1 by decide, IntKind.wrap_i64]
  unfold lowBits at h ⊢
  omega
theorem and_63 (N : Int) : bits .and .i64 N 63 = (lowBits N 63 : Int) := by
  have h := lowBits_le N 63
  show IntKind.i64.wrap (((BitVec.ofInt 64 N &&& BitVec.ofInt 64 63).toNat : Nat) : Int) = _
  rw [BitVec.toNat_and, show (BitVec.ofInt 64 63).toNat = 63 by decide, IntKind.wrap_i64]
  unfold lowBits at h ⊢
  omega
def seedN (kk : Nat) (N : Int) : Int := if kk = 2 then (lowBits N 1 : Int) else if kk = 3 then N.tmod 9007199254740992 else if kk = 5 then 1 - 2 * (lowBits N 1 : Int) else if kk = 8 ∨ kk = 9 then (lowBits N 63 : Int) + 1 else 0
def seedU (kk : Nat) (l : List Nat) : List Nat := if kk = 7 then l else []
abbrev SeedV (K N : Int) (a : Option Addr) (n cap : Nat) : Value := .agg #[.int .i64 K, .int .i64 N, .slice a n cap]

theorem seed_is (kk : Nat) (hk : kk ≤ 10) (N : Int) (l : List Nat) (hf : Tx.Fits l) (hl : l.length ≤ 2000) : IsV (kk : Int) (seedN kk N) (Tx.uS (seedU kk l)) := by
  have h1 := lowBits_le N 1
  have h2 := Int.tmod_lt_of_pos N (show (0 : Int) < 9007199254740992 by decide)
  have h3 := Int.lt_tmod_of_pos N (show (0 : Int) < 9007199254740992 by decide)
  refine ⟨by omega, by omega, fun a b => ?_, fun h => ?_, fun h => ?_, ⟨seedU kk l, ?_, rfl, ?_⟩⟩
  · have : kk = 3 ∨ kk = 4 ∨ kk = 5 ∨ kk = 6 := by omega
    unfold IsNum seedN
    rcases this with rfl | rfl | rfl | rfl <;> simp <;> omega
  · unfold seedU
    rw [if_neg (by omega)]; rfl
  · have : kk = 1 ∨ kk = 2 := by omega
    unfold seedN
    rcases this with rfl | rfl <;> simp <;> omega
  · unfold seedU
    split
    · exact hf
    · exact fun u h => by cases h
  · unfold seedU
    split
    · exact hl
    · exact Nat.zero_le _
theorem uS_nil : Tx.uS [] = ⟨#[]⟩ := rfl
end Go.Proofs.YtdeboajjhpecbaaGreatDoor.Vx

/- Contract of the statements' own example 'fit' (values): it returns true. -/
set_option linter.unusedVariables false
set_option linter.unusedSimpArgs false
namespace Go.Proofs.YtdeboajjhpecbaaGreatDoor.Vx
open Go.RowKit Go.Sort

theorem uT_ascii (l : List UInt8) (h : ∀ c, c ∈ l → c.toNat < 128) : uT ⟨l.toArray⟩ = Tx.uS (l.map (·.toNat)) := by
  unfold uT
  rw [Tx.ofB_ascii l h]; rfl
theorem uT_a : uT ⟨#[97]⟩ = Tx.uS [97] := uT_ascii [97] (by decide)
theorem uT_1 : uT ⟨#[49]⟩ = Tx.uS [49] := uT_ascii [49] (by decide)
theorem uT_a1 : uT ⟨#[97, 49]⟩ = Tx.uS [97, 49] := uT_ascii [97, 49] (by decide)
theorem itoa_1 : Lib.itoa 1 = [49] := by
  unfold Lib.itoa
  simp
  rw [Lib.decDigits]; rfl
theorem vfits2 : Tx.Fits [97, 49] := by unfold Tx.Fits; decide
theorem vfits1 : Tx.Fits [97] := by unfold Tx.Fits; decide
theorem vfits0 : Tx.Fits [] := fun u h => by cases h
theorem isV_a : IsV 7 0 (Tx.uS [97]) := ⟨by decide, by decide, fun a b => by omega, fun h => absurd rfl h, fun h => by omega, [97], vfits1, rfl, by decide⟩
theorem isV_1 : IsV 3 1 ⟨#[]⟩ := ⟨by decide, by decide, fun a b => .inr (.inr (.inr ⟨rfl, by decide, by decide⟩)), fun h => rfl, fun h => by omega, [], vfits0, rfl, by decide⟩
theorem isV_0 : IsV 0 0 ⟨#[]⟩ := ⟨by decide, by decide, fun a b => by omega, fun h => rfl, fun h => by omega, [], vfits0, rfl, by decide⟩
theorem bin_a1 : binF 0 7 0 (Tx.uS [97]) [97] 3 1 ⟨#[]⟩ [] = (7, 0, Tx.uS [97, 49], 0) := by
  have e : txtF 3 1 = ⟨#[49]⟩ := by
    show (⟨(Lib.itoa 1).toArray⟩ : ByteArray) = _
    rw [itoa_1]
  show joinF 7 0 (Tx.uS [97]) 3 1 ⟨#[]⟩ = _
  unfold joinF
  rw [show textF 7 0 (Tx.uS [97]) = (Tx.uS [97], 0) from rfl, show textF 3 1 ⟨#[]⟩ = (uT (txtF 3 1), 0) from rfl, e, uT_1]
  rfl
theorem bin_01 : binF 5 0 0 ⟨#[]⟩ [] 3 1 ⟨#[]⟩ [] = (2, 0, ⟨#[]⟩, 0) := rfl
theorem valT (b : ByteArray) (w : World) (h : b.size ≤ 1000) : Calls Tryz.prog 12 #[.string b] w (Ret (VS 7 0 (uT b)) w) := Tx.val_any b w (by omega)

end Go.Proofs.YtdeboajjhpecbaaGreatDoor.Vx

/- Contracts of the reference's number, Number and Text (layer 3), and of value.Property. -/
set_option linter.unusedVariables false
set_option linter.unusedSimpArgs false
namespace Go.Proofs.YtdeboajjhpecbaaGreatDoor.Vx
open Go.RowKit

/-- The tables of package utf8 read as they were laid. -/
def Ut (w : World) : Prop := Lib.Utf8Tabs 4 5 w ∧ 6 ≤ w.heap.size
theorem Ut.below {w W : World} (h : Ut w) (b : Below w.heap.size w W) : Ut W := ⟨Tx.tabs_below h.1 b (by have := h.2; show 4 < _; omega) (by have := h.2; show 5 < _; omega), Nat.le_trans h.2 b.size⟩
theorem uT_eq (b : ByteArray) : uT b = Tx.uS (Tx.unitsOf b) := rfl
theorem units_u (b : ByteArray) (W : World) (hU : Ut W) (hs : b.size ≤ 1000) : Calls Tryz.prog 76 #[.string b] W fun e w' => ∃ a cap, e = .returned (.slice a (Tx.unitsOf b).length cap) ∧ Tx.SliceR .i64 w' a (Tx.unitsOf b).length cap (Tx.ints (Tx.unitsOf b)) ∧ Below W.heap.size W w' := by
  refine (Tx.units_any b W (by omega) hU.1 hU.2).mono ?_
  rintro e w' ⟨v, rfl, hown, hb⟩
  have hlI : (Tx.ints (Tx.unitsOf b)).length = (Tx.unitsOf b).length := Tx.ints_length _
  rw [← hlI] at hown
  obtain ⟨a, cap, rfl, hR, _⟩ := Tx.sliceR_own hown
  rw [hlI] at hR
  exact ⟨a, cap, by rw [hlI], hR, hb⟩
theorem str_u (b : ByteArray) (a : Option Addr) (cap : Nat) (W : World) (hR : Tx.SliceR .i64 W a (Tx.unitsOf b).length cap (Tx.ints (Tx.unitsOf b))) (hs : b.size ≤ 1000) :
    Calls Tryz.prog 28 #[.slice a (Tx.unitsOf b).length cap] W (Ret (.string (uT b)) W) :=
  Tx.str_any a _ cap (Tx.unitsOf b) W hR (Tx.decUnits_fits _ _ _) (by have := Tx.decUnits_length b b.size 0; unfold Tx.unitsOf; omega)

set_option maxHeartbeats 2000000 in
theorem rtext_7 (n : Int) (s : ByteArray) (w : World) : Calls Tryz.prog 59 #[VS 7 n s] w (Ret (TF (s, 0)) w) := by
  go_enter Tryz.func59, Tryz.ntmps59
  go_wp2
  go_ret2
  exact ⟨rfl, ((Below.refl _ _).alloc (Nat.le_refl _) _)⟩
set_option maxHeartbeats 2000000 in
theorem rtext_8 (n : Int) (s : ByteArray) (w : World) : Calls Tryz.prog 59 #[VS 8 n s] w (Ret (TF (⟨#[]⟩, 1)) w) := by
  go_enter Tryz.func59, Tryz.ntmps59
  go_wp2
  go_ret2
  exact ⟨rfl, ((Below.refl _ _).alloc (Nat.le_refl _) _)⟩
set_option maxHeartbeats 2000000 in
theorem rtext_9 (n : Int) (s : ByteArray) (w : World) : Calls Tryz.prog 59 #[VS 9 n s] w (Ret (TF (⟨#[]⟩, 2)) w) := by
  go_enter Tryz.func59, Tryz.ntmps59
  go_wp2
  go_ret2
  exact ⟨rfl, ((Below.refl _ _).alloc (Nat.le_refl _) _)⟩
set_option maxHeartbeats 2000000 in
theorem rtext_10 (n : Int) (s : ByteArray) (w : World) : Calls Tryz.prog 59 #[VS 10 n s] w (Ret (TF (⟨#[]⟩, 2)) w) := by
  go_enter Tryz.func59, Tryz.ntmps59
  go_wp2
  go_ret2
  exact ⟨rfl, ((Below.refl _ _).alloc (Nat.le_refl _) _)⟩
set_option maxHeartbeats 2000000 in
theorem rtext_0 (n : Int) (s : ByteArray) (w : World) (hU : Ut w) : Calls Tryz.prog 59 #[VS 0 n s] w (Ret (TF (uT ⟨#[117, 110, 100, 101, 102, 105, 110, 101, 100]⟩, 0)) w) := by
  have HT := Lib.hid hU
  have HU := Lib.hid (fun (W : World) (hW : Ut W) => units_u ⟨#[117, 110, 100, 101, 102, 105, 110, 101, 100]⟩ W hW (by decide))
  have HS := Lib.hid (fun a cap (W : World) hR => str_u ⟨#[117, 110, 100, 101, 102, 105, 110, 101, 100]⟩ a cap W hR (by decide))
  clear hU
  generalize uT ⟨#[117, 110, 100, 101, 102, 105, 110, 101, 100]⟩ = S at *
  generalize Tx.unitsOf ⟨#[117, 110, 100, 101, 102, 105, 110, 101, 100]⟩ = U at *
  go_enter Tryz.func59, Tryz.ntmps59
  go_wp2_with fail
  have bb := (Below.refl w.heap.size w).alloc (Nat.le_refl _) (.cells #[.int .i64 0, .int .i64 n, .string s] 30)
  refine (HU.out _ (HT.out.below bb)).mono ?_
  rintro e w3 ⟨a, cap, rfl, hR, b3⟩
  have bb := bb.trans (b3.mono bb.size)
  have HR := Lib.hid hR
  clear hR
  go_wp2_with fail
  refine (HS.out a cap _ HR.out).mono ?_
  rintro e w4 ⟨rfl, b4⟩
  have bb := bb.trans (b4.mono bb.size)
  go_wp2_with fail
  go_ret2
  exact ⟨rfl, bb⟩
set_option maxHeartbeats 2000000 in
theorem rtext_1 (n : Int) (s : ByteArray) (w : World) (hU : Ut w) : Calls Tryz.prog 59 #[VS 1 n s] w (Ret (TF (uT ⟨#[110, 117, 108, 108]⟩, 0)) w) := by
  have HT := Lib.hid hU
  have HU := Lib.hid (fun (W : World) (hW : Ut W) => units_u ⟨#[110, 117, 108, 108]⟩ W hW (by decide))
  have HS := Lib.hid (fun a cap (W : World) hR => str_u ⟨#[110, 117, 108, 108]⟩ a cap W hR (by decide))
  clear hU
  generalize uT ⟨#[110, 117, 108, 108]⟩ = S at *
  generalize Tx.unitsOf ⟨#[110, 117, 108, 108]⟩ = U at *
  go_enter Tryz.func59, Tryz.ntmps59
  go_wp2_with fail
  have bb := (Below.refl w.heap.size w).alloc (Nat.le_refl _) (.cells #[.int .i64 1, .int .i64 n, .string s] 30)
  refine (HU.out _ (HT.out.below bb)).mono ?_
  rintro e w3 ⟨a, cap, rfl, hR, b3⟩
  have bb := bb.trans (b3.mono bb.size)
  have HR := Lib.hid hR
  clear hR
  go_wp2_with fail
  refine (HS.out a cap _ HR.out).mono ?_
  rintro e w4 ⟨rfl, b4⟩
  have bb := bb.trans (b4.mono bb.size)
  go_wp2_with fail
  go_ret2
  exact ⟨rfl, bb⟩
set_option maxHeartbeats 2000000 in
theorem rtext_2t (n : Int) (s : ByteArray) (w : World) (h : (n == 0) = false) (hU : Ut w) : Calls Tryz.prog 59 #[VS 2 n s] w (Ret (TF (uT ⟨#[116, 114, 117, 101]⟩, 0)) w) := by
  have h2 : (n != 0) = true := by simpa using h
  have HT := Lib.hid hU
  have HU := Lib.hid (fun (W : World) (hW : Ut W) => units_u ⟨#[116, 114, 117, 101]⟩ W hW (by decide))
  have HS := Lib.hid (fun a cap (W : World) hR => str_u ⟨#[116, 114, 117, 101]⟩ a cap W hR (by decide))
  clear hU
  generalize uT ⟨#[116, 114, 117, 101]⟩ = S at *
  generalize Tx.unitsOf ⟨#[116, 114, 117, 101]⟩ = U at *
  go_enter Tryz.func59, Tryz.ntmps59
  go_wp2_with fail
  have bb := (Below.refl w.heap.size w).alloc (Nat.le_refl _) (.cells #[.int .i64 2, .int .i64 n, .string s] 30)
  refine (HU.out _ (HT.out.below bb)).mono ?_
  rintro e w3 ⟨a, cap, rfl, hR, b3⟩
  have bb := bb.trans (b3.mono bb.size)
  have HR := Lib.hid hR
  clear hR
  go_wp2_with fail
  refine (HS.out a cap _ HR.out).mono ?_
  rintro e w4 ⟨rfl, b4⟩
  have bb := bb.trans (b4.mono bb.size)
  go_wp2_with fail
  go_ret2
  exact ⟨rfl, bb⟩
set_option maxHeartbeats 2000000 in
theorem rtext_2f (n : Int) (s : ByteArray) (w : World) (hU : Ut w) : Calls Tryz.prog 59 #[VS 2 0 s] w (Ret (TF (uT ⟨#[102, 97, 108, 115, 101]⟩, 0)) w) := by
  have HT := Lib.hid hU
  have HU := Lib.hid (fun (W : World) (hW : Ut W) => units_u ⟨#[102, 97, 108, 115, 101]⟩ W hW (by decide))
  have HS := Lib.hid (fun a cap (W : World) hR => str_u ⟨#[102, 97, 108, 115, 101]⟩ a cap W hR (by decide))
  clear hU
  generalize uT ⟨#[102, 97, 108, 115, 101]⟩ = S at *
  generalize Tx.unitsOf ⟨#[102, 97, 108, 115, 101]⟩ = U at *
  go_enter Tryz.func59, Tryz.ntmps59
  go_wp2_with fail
  have bb := (Below.refl w.heap.size w).alloc (Nat.le_refl _) (.cells #[.int .i64 2, .int .i64 0, .string s] 30)
  refine (HU.out _ (HT.out.below bb)).mono ?_
  rintro e w3 ⟨a, cap, rfl, hR, b3⟩
  have bb := bb.trans (b3.mono bb.size)
  have HR := Lib.hid hR
  clear hR
  go_wp2_with fail
  refine (HS.out a cap _ HR.out).mono ?_
  rintro e w4 ⟨rfl, b4⟩
  have bb := bb.trans (b4.mono bb.size)
  go_wp2_with fail
  go_ret2
  exact ⟨rfl, bb⟩
set_option maxHeartbeats 2000000 in
theorem rtext_3 (n : Int) (w : World) (h : IsNum 3 n) (hT : Tb w) (hU : Ut w) : Calls Tryz.prog 59 #[VS 3 n ⟨#[]⟩] w (Ret (TF (uT (textS 3 n), 0)) w) := by
  have hs := textS_size h
  have HT := Lib.hid hU
  have HTT := Lib.hid hT
  have HU := Lib.hid (fun (W : World) (hW : Ut W) => units_u (textS 3 n) W hW (by omega))
  have HS := Lib.hid (fun a cap (W : World) hR => str_u (textS 3 n) a cap W hR (by omega))
  have HO := Lib.hid (fun W => ofR_any 3 n W h.lo h.hi)
  have HX := Lib.hid (fun (W : World) (hW : Tb W) => refText_of 3 n W h hW.all)
  clear hU hT hs h
  generalize uT (textS 3 n) = S at *
  generalize Tx.unitsOf (textS 3 n) = U at *
  generalize textS 3 n = X at *
  go_enter Tryz.func59, Tryz.ntmps59
  go_wp2_with fail
  have bb := (Below.refl w.heap.size w).alloc (Nat.le_refl _) (.cells #[.int .i64 3, .int .i64 n, .string ⟨#[]⟩] 30)
  refine (HO.out _).mono ?_
  rintro e w1 ⟨rfl, hw1⟩
  have bb := (bb.alloc bb.size (VC 3 n)).alloc (by simp; omega) (OC 3 n)
  rw [← hw1] at bb
  clear hw1
  generalize (ofR 3 n).1 = d at *
  generalize (ofR 3 n).2.1 = m at *
  generalize (ofR 3 n).2.2 = z at *
  go_wp2_with fail
  refine (HX.out _ (HTT.out.below bb)).mono ?_
  rintro e w2 ⟨rfl, b2⟩
  have bb := bb.trans (b2.mono bb.size)
  go_wp2_with fail
  refine (HU.out _ (HT.out.below bb)).mono ?_
  rintro e w3 ⟨a, cap, rfl, hR, b3⟩
  have bb := bb.trans (b3.mono bb.size)
  have HR := Lib.hid hR
  clear hR
  go_wp2_with fail
  refine (HS.out a cap _ HR.out).mono ?_
  rintro e w4 ⟨rfl, b4⟩
  have bb := bb.trans (b4.mono bb.size)
  go_wp2_with fail
  go_ret2
  exact ⟨rfl, bb⟩
set_option maxHeartbeats 2000000 in
theorem rtext_4 (n : Int) (w : World) (h : IsNum 4 n) (hT : Tb w) (hU : Ut w) : Calls Tryz.prog 59 #[VS 4 n ⟨#[]⟩] w (Ret (TF (uT (textS 4 n), 0)) w) := by
  have hs := textS_size h
  have HT := Lib.hid hU
  have HTT := Lib.hid hT
  have HU := Lib.hid (fun (W : World) (hW : Ut W) => units_u (textS 4 n) W hW (by omega))
  have HS := Lib.hid (fun a cap (W : World) hR => str_u (textS 4 n) a cap W hR (by omega))
  have HO := Lib.hid (fun W => ofR_any 4 n W h.lo h.hi)
  have HX := Lib.hid (fun (W : World) (hW : Tb W) => refText_of 4 n W h hW.all)
  clear hU hT hs h
  generalize uT (textS 4 n) = S at *
  generalize Tx.unitsOf (textS 4 n) = U at *
  generalize textS 4 n = X at *
  go_enter Tryz.func59, Tryz.ntmps59
  go_wp2_with fail
  have bb := (Below.refl w.heap.size w).alloc (Nat.le_refl _) (.cells #[.int .i64 4, .int .i64 n, .string ⟨#[]⟩] 30)
  refine (HO.out _).mono ?_
  rintro e w1 ⟨rfl, hw1⟩
  have bb := (bb.alloc bb.size (VC 4 n)).alloc (by simp; omega) (OC 4 n)
  rw [← hw1] at bb
  clear hw1
  generalize (ofR 4 n).1 = d at *
  generalize (ofR 4 n).2.1 = m at *
  generalize (ofR 4 n).2.2 = z at *
  go_wp2_with fail
  refine (HX.out _ (HTT.out.below bb)).mono ?_
  rintro e w2 ⟨rfl, b2⟩
  have bb := bb.trans (b2.mono bb.size)
  go_wp2_with fail
  refine (HU.out _ (HT.out.below bb)).mono ?_
  rintro e w3 ⟨a, cap, rfl, hR, b3⟩
  have bb := bb.trans (b3.mono bb.size)
  have HR := Lib.hid hR
  clear hR
  go_wp2_with fail
  refine (HS.out a cap _ HR.out).mono ?_
  rintro e w4 ⟨rfl, b4⟩
  have bb := bb.trans (b4.mono bb.size)
  go_wp2_with fail
  go_ret2
  exact ⟨rfl, bb⟩
set_option maxHeartbeats 2000000 in
theorem rtext_5 (n : Int) (w : World) (h : IsNum 5 n) (hT : Tb w) (hU : Ut w) : Calls Tryz.prog 59 #[VS 5 n ⟨#[]⟩] w (Ret (TF (uT (textS 5 n), 0)) w) := by
  have hs := textS_size h
  have HT := Lib.hid hU
  have HTT := Lib.hid hT
  have HU := Lib.hid (fun (W : World) (hW : Ut W) => units_u (textS 5 n) W hW (by omega))
  have HS := Lib.hid (fun a cap (W : World) hR => str_u (textS 5 n) a cap W hR (by omega))
  have HO := Lib.hid (fun W => ofR_any 5 n W h.lo h.hi)
  have HX := Lib.hid (fun (W : World) (hW : Tb W) => refText_of 5 n W h hW.all)
  clear hU hT hs h
  generalize uT (textS 5 n) = S at *
  generalize Tx.unitsOf (textS 5 n) = U at *
  generalize textS 5 n = X at *
  go_enter Tryz.func59, Tryz.ntmps59
  go_wp2_with fail
  have bb := (Below.refl w.heap.size w).alloc (Nat.le_refl _) (.cells #[.int .i64 5, .int .i64 n, .string ⟨#[]⟩] 30)
  refine (HO.out _).mono ?_
  rintro e w1 ⟨rfl, hw1⟩
  have bb := (bb.alloc bb.size (VC 5 n)).alloc (by simp; omega) (OC 5 n)
  rw [← hw1] at bb
  clear hw1
  generalize (ofR 5 n).1 = d at *
  generalize (ofR 5 n).2.1 = m at *
  generalize (ofR 5 n).2.2 = z at *
  go_wp2_with fail
  refine (HX.out _ (HTT.out.below bb)).mono ?_
  rintro e w2 ⟨rfl, b2⟩
  have bb := bb.trans (b2.mono bb.size)
  go_wp2_with fail
  refine (HU.out _ (HT.out.below bb)).mono ?_
  rintro e w3 ⟨a, cap, rfl, hR, b3⟩
  have bb := bb.trans (b3.mono bb.size)
  have HR := Lib.hid hR
  clear hR
  go_wp2_with fail
  refine (HS.out a cap _ HR.out).mono ?_
  rintro e w4 ⟨rfl, b4⟩
  have bb := bb.trans (b4.mono bb.size)
  go_wp2_with fail
  go_ret2
  exact ⟨rfl, bb⟩
set_option maxHeartbeats 2000000 in
theorem rtext_6 (n : Int) (w : World) (h : IsNum 6 n) (hT : Tb w) (hU : Ut w) : Calls Tryz.prog 59 #[VS 6 n ⟨#[]⟩] w (Ret (TF (uT (textS 6 n), 0)) w) := by
  have hs := textS_size h
  have HT := Lib.hid hU
  have HTT := Lib.hid hT
  have HU := Lib.hid (fun (W : World) (hW : Ut W) => units_u (textS 6 n) W hW (by omega))
  have HS := Lib.hid (fun a cap (W : World) hR => str_u (textS 6 n) a cap W hR (by omega))
  have HO := Lib.hid (fun W => ofR_any 6 n W h.lo h.hi)
  have HX := Lib.hid (fun (W : World) (hW : Tb W) => refText_of 6 n W h hW.all)
  clear hU hT hs h
  generalize uT (textS 6 n) = S at *
  generalize Tx.unitsOf (textS 6 n) = U at *
  generalize textS 6 n = X at *
  go_enter Tryz.func59, Tryz.ntmps59
  go_wp2_with fail
  have bb := (Below.refl w.heap.size w).alloc (Nat.le_refl _) (.cells #[.int .i64 6, .int .i64 n, .string ⟨#[]⟩] 30)
  refine (HO.out _).mono ?_
  rintro e w1 ⟨rfl, hw1⟩
  have bb := (bb.alloc bb.size (VC 6 n)).alloc (by simp; omega) (OC 6 n)
  rw [← hw1] at bb
  clear hw1
  generalize (ofR 6 n).1 = d at *
  generalize (ofR 6 n).2.1 = m at *
  generalize (ofR 6 n).2.2 = z at *
  go_wp2_with fail
  refine (HX.out _ (HTT.out.below bb)).mono ?_
  rintro e w2 ⟨rfl, b2⟩
  have bb := bb.trans (b2.mono bb.size)
  go_wp2_with fail
  refine (HU.out _ (HT.out.below bb)).mono ?_
  rintro e w3 ⟨a, cap, rfl, hR, b3⟩
  have bb := bb.trans (b3.mono bb.size)
  have HR := Lib.hid hR
  clear hR
  go_wp2_with fail
  refine (HS.out a cap _ HR.out).mono ?_
  rintro e w4 ⟨rfl, b4⟩
  have bb := bb.trans (b4.mono bb.size)
  go_wp2_with fail
  go_ret2
  exact ⟨rfl, bb⟩
theorem rtext_any (k n : Int) (s : ByteArray) (w : World) (h : IsV k n s) (hT : Tb w) (hU : Ut w) : Calls Tryz.prog 59 #[VS k n s] w (Ret (TF (textF k n s)) w) := by
  have h0 := h.lo
  have h1 := h.hi
  have hc : k = 0 ∨ k = 1 ∨ k = 2 ∨ k = 3 ∨ k = 4 ∨ k = 5 ∨ k = 6 ∨ k = 7 ∨ k = 8 ∨ k = 9 ∨ k = 10 := by omega
  rcases hc with rfl | rfl | rfl | rfl | rfl | rfl | rfl | rfl | rfl | rfl | rfl
  · exact rtext_0 n s w hU
  · exact rtext_1 n s w hU
  · by_cases hn : n = 0
    · subst hn; exact rtext_2f 0 s w hU
    · have hb : (n == 0) = false := by simpa using hn
      have := rtext_2t n s w hb hU
      show Calls _ _ _ _ (Ret (TF (uT (if (n == 0) = true then _ else _), 0)) w)
      rw [if_neg (by simpa using hn)]
      exact this
  · obtain rfl := h.str (by decide)
    exact rtext_3 n w (h.num (by decide) (by decide)) hT hU
  · obtain rfl := h.str (by decide)
    exact rtext_4 n w (h.num (by decide) (by decide)) hT hU
  · obtain rfl := h.str (by decide)
    exact rtext_5 n w (h.num (by decide) (by decide)) hT hU
  · obtain rfl := h.str (by decide)
    exact rtext_6 n w (h.num (by decide) (by decide)) hT hU
  · exact rtext_7 n s w
  · exact rtext_8 n s w
  · exact rtext_9 n s w
  · exact rtext_10 n s w
end Go.Proofs.YtdeboajjhpecbaaGreatDoor.Vx
