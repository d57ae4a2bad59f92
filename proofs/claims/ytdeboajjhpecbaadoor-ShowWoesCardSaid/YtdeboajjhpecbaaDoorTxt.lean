/- Txt: contracts and plain laws, several texts in one. -/
import GoSem.Core.Utf8
import Derived.Lib.RuneBytes
import Derived.Laws.RangeAny
import Derived.Test.YtdeboajjhpecbaaDoorProg
import Derived.Shelf.Strings.BuilderK
import Derived.WalkKit
import Derived.BigCall
import Derived.WalkSpells
import Derived.WalkLawsBesides
import Derived.BigQuiet
import Derived.Deep.QuietTactic
import Derived.Lib.Hide
import Derived.Test.YtdeboajjhpecbaaDoorShelf
import Derived.KernelRfl
import Derived.WalkSmall
import Derived.Laws.BytesArg
import Derived.StillTailTactics
import Derived.Lib.UnsafeStr
import Derived.OpenShut
import Derived.OwnWalk
import Derived.Deep.RegionHeld3
import Derived.Deep.AppendLies
import Derived.Lib.MinMax
import Derived.Lib.Bytealg
/- Plain functions on strings of 16-bit units: what package text's functions compute. No program in sight. -/
namespace Go.Proofs.YtdeboajjhpecbaaDoor.Tx

def unitB (u : Nat) : List UInt8 := [UInt8.ofNat (u / 256), UInt8.ofNat (u % 256)]
def unitsB (l : List Nat) : List UInt8 := l.flatMap unitB
theorem unitsB_nil : unitsB [] = [] := rfl
theorem unitsB_cons (u : Nat) (l : List Nat) : unitsB (u :: l) = unitB u ++ unitsB l := rfl
theorem unitsB_append (l m : List Nat) : unitsB (l ++ m) = unitsB l ++ unitsB m := by simp [unitsB]
theorem unitsB_length (l : List Nat) : (unitsB l).length = 2 * l.length := by
  induction l with
  | nil => rfl
  | cons u l ih => rw [unitsB_cons, List.length_append, ih]; simp [unitB]; omega

def runeUnits (r : Nat) : List Nat := if r < 65536 then [r] else [55296 + (r - 65536) / 1024, 56320 + (r - 65536) % 1024]
def decUnits (s : ByteArray) : Nat → Nat → List Nat
  | 0, _ => []
  | fuel + 1, pos => if pos < s.size then runeUnits (Utf8.decode s pos).1 ++ decUnits s fuel (pos + (Utf8.decode s pos).2) else []
def unitsOf (s : ByteArray) : List Nat := decUnits s s.size 0
def ofB (s : ByteArray) : List UInt8 := unitsB (unitsOf s)

theorem width_pos (s : ByteArray) (pos : Nat) (h : pos < s.size) : 1 ≤ (Utf8.decode s pos).2 := by
  by_cases ha : (s[pos]'h).toNat < 128
  · rw [decode_ascii s pos h ha]
    exact Nat.le_refl _
  · exact (decode_high s pos h (by omega)).2

theorem valid_le (c : Nat) (h : Utf8.valid c = true) : c ≤ 1114111 := by
  simp [Utf8.valid] at h; omega
theorem decode_max (s : ByteArray) (pos : Nat) : (Utf8.decode s pos).1 ≤ 1114111 := by
  unfold Utf8.decode
  dsimp only
  have h0 := UInt8.toNat_lt (s.get! (pos + 0))
  split
  · dsimp only; omega
  split
  · split
    · dsimp only; omega
    · exact (by decide)
  split
  · split
    · rename_i h; exact valid_le _ (Bool.and_eq_true_iff.1 h).2
    · exact (by decide)
  split
  · split
    · rename_i h; exact valid_le _ (Bool.and_eq_true_iff.1 h).2
    · exact (by decide)
  · exact (by decide)

theorem decUnits_end (s : ByteArray) (fuel pos : Nat) (h : ¬ pos < s.size) : decUnits s fuel pos = [] := by
  cases fuel with
  | zero => rfl
  | succ f => simp [decUnits, h]

/-- Unit i of a string of units. -/
def unitAt (s : ByteArray) (i : Nat) : Nat := (s.data.toList.getD (2 * i) 0).toNat * 256 + (s.data.toList.getD (2 * i + 1) 0).toNat
theorem getD_byte (s : ByteArray) (k : Nat) (h : k < s.size) : s[k] = s.data.toList.getD k 0 := by
  have h' : k < s.data.toList.length := by simpa using h
  rw [List.getD_eq_getElem?_getD, List.getElem?_eq_getElem h']
  rfl
theorem unitAt_le (s : ByteArray) (i : Nat) : unitAt s i < 65536 := by
  unfold unitAt
  have h1 := UInt8.toNat_lt (s.data.toList.getD (2 * i) 0)
  have h2 := UInt8.toNat_lt (s.data.toList.getD (2 * i + 1) 0)
  omega

/-- The number that the first k units tell, all of them digits. -/
def idxVal (s : ByteArray) : Nat → Option Nat
  | 0 => some 0
  | k + 1 => match idxVal s k with
    | none => none
    | some v => if 48 ≤ unitAt s k ∧ unitAt s k ≤ 57 then some (v * 10 + (unitAt s k - 48)) else none
def idxRes : Option Nat → Int
  | none => -1
  | some v => if 1000 ≤ v then -1 else v
def indexOf (s : ByteArray) : Int :=
  if s.size / 2 = 0 ∨ 5 < s.size / 2 ∨ (1 < s.size / 2 ∧ unitAt s 0 = 48) then -1 else idxRes (idxVal s (s.size / 2))
theorem idxVal_none (s : ByteArray) (k n : Nat) (h : idxVal s k = none) (hn : k ≤ n) : idxVal s n = none := by
  induction n with
  | zero => have : k = 0 := by omega
            subst this; exact h
  | succ n ih =>
    by_cases he : k = n + 1
    · subst he; exact h
    · rw [idxVal, ih (by omega)]

end Go.Proofs.YtdeboajjhpecbaaDoor.Tx

/- Contracts of strings.Builder's copyCheck and WriteByte at a builder that the call itself has made: what the builder holds behind the call. -/
set_option linter.unusedVariables false
namespace Go.Proofs.YtdeboajjhpecbaaDoor.Tx
open Go.RowKit

theorem infoByte : (Tryd.prog.info? 5).map (fun i => (i.zero, i.size, i.bytes)) = some (some (.int .u8 0), 1, 1) := by kernel_rfl
theorem infoBuilder : ((Tryd.prog.info? 84).map (fun i => i.size)) = some 2 := by kernel_rfl
theorem liesBuilder : liesAt Tryd.prog Tryd.prog.depth 84 (2 / Tryd.prog.cellsOf 84) 0 84 1 = true := by kernel_rfl
theorem builderNeByte : (84 : TypeId) ≠ 5 := by decide

set_option maxHeartbeats 1000000 in
set_option maxRecDepth 100000 in
theorem copyCheck_used (b : Nat) (w : World) (h0 : w.cell? ⟨b, 0, none⟩ = some (.pointer (some ⟨b, 0, none⟩))) :
    Calls Tryd.prog 53 #[.pointer (some ⟨b, 0, none⟩)] w fun e w' => e = .returned (.tuple #[]) ∧ w' = w := by
  obtain ⟨j, hj, hjs⟩ := Option.map_eq_some_iff.1 infoBuilder
  have hnp := Lib.run_neq_ptr_same w ⟨b, 0, none⟩ Tryd.underlying81 hj
  go_enter Tryd.func53, Tryd.ntmps53
  go_wp2
  go_end0
  exact ⟨rfl, rfl⟩

set_option maxHeartbeats 1000000 in
set_option maxRecDepth 100000 in
theorem copyCheck_fresh (b : Nat) (w : World) (h0 : w.cell? ⟨b, 0, none⟩ = some (.pointer none)) (hsh : w.shape? b = some (84, 2)) (hfz : w.frozen? ⟨b, 0, none⟩ = false) :
    Calls Tryd.prog 53 #[.pointer (some ⟨b, 0, none⟩)] w fun e w' => e = .returned (.tuple #[]) ∧ w' = w.setCell ⟨b, 0, none⟩ (.pointer (some ⟨b, 0, none⟩)) := by
  obtain ⟨j, hj, hjs⟩ := Option.map_eq_some_iff.1 infoBuilder
  go_enter Tryd.func53, Tryd.ntmps53
  go_wp2
  rw [Lib.run_to_unsafe w ⟨b, 0, none⟩ Tryd.underlying81 Tryd.underlying144 hj (by rw [hjs]; decide) hsh (Nat.zero_lt_succ 1)]
  simp only [Result.andThen]
  rw [Oper.upon_value]
  go_wp2
  rw [run_callFunc_extern Tryd.func64 (by kernel_rfl) (by kernel_rfl) (by kernel_rfl) (e := Extern.AbiNoEscape.same) (by kernel_rfl)]
  rw [Lib.run_noEscape]
  simp only [Result.andThen]
  rw [Oper.upon_value]
  go_wp2
  rw [Lib.run_from_unsafe w ⟨b, 0, none⟩ Tryd.underlying144 Tryd.underlying81 hj hsh liesBuilder]
  simp only [Result.andThen]
  rw [Oper.upon_value]
  go_wp2
  go_end0
  exact ⟨rfl, rfl⟩

theorem copyCheck_k (B b : Nat) (bs : List Value) (w : World) (h : Lib.IsBuilderF 84 5 B b bs w) :
    Calls Tryd.prog 53 #[.pointer (some ⟨b, 0, none⟩)] w fun e w' => e = .returned (.tuple #[]) ∧ (Lib.BuilderAtF 84 5 B b (.pointer (some ⟨b, 0, none⟩)) bs w' ∧ Below B w w' ∧ Lib.OthersKept 5 (some b) w w') := by
  rcases h with h | h
  · refine (copyCheck_fresh b w h.cell0 h.shape h.frozen0).mono ?_
    rintro e w' ⟨rfl, rfl⟩
    exact ⟨rfl, h.used _, (Below.refl B w).setCell (p := ⟨b, 0, none⟩) h.1 _, (Lib.OthersKept.refl _ _ w).setCell ⟨b, 0, none⟩ rfl _⟩
  · refine (copyCheck_used b w h.cell0).mono ?_
    rintro e w' ⟨rfl, rfl⟩
    exact ⟨rfl, h, Below.refl B _, Lib.OthersKept.refl _ _ _⟩

set_option maxHeartbeats 2000000 in
set_option maxRecDepth 100000 in
theorem WriteByte_k (B b : Nat) (bs : List Value) (c : Int) (w : World) (h : Lib.IsBuilderF 84 5 B b bs w) (hlen : bs.length + 1 ≤ 140737488355328) (hBw : B ≤ w.heap.size) :
    Calls Tryd.prog 33 #[.pointer (some ⟨b, 0, none⟩), .int .u8 c] w fun e w' => e = .returned .nilIface ∧ (Lib.IsBuilderF 84 5 B b (bs ++ [.int .u8 c]) w' ∧ Below B w w' ∧ Lib.OthersKept 5 (some b) w w') := by
  obtain ⟨i0, hi, hz0, hz1, hz2⟩ := info_parts infoByte
  go_enter Tryd.func33, Tryd.ntmps33
  go_wp2_with (go_at_call 53; refine (copyCheck_k B b bs _ h).mono ?_)
  rintro e w1 ⟨rfl, h1, hb1, hk1⟩
  obtain ⟨hB, v, hbk, hown, hne⟩ := h1
  have c0 : w1.cell? ⟨b, 0, none⟩ = some (.pointer (some ⟨b, 0, none⟩)) := by rw [Lib.cell_of_heap hbk]; rfl
  have c1 : w1.cell? ⟨b, 1, none⟩ = some v := by rw [Lib.cell_of_heap hbk]; rfl
  go_wp2_with (at_builtin; refine wpList_append_ownF _ rfl _ _ 82 rfl B 5 i0 (.int .u8 0) 1 1 Tryd.underlying82 hi hz0 hz1 hz2 rfl (by decide) _ _ _ rfl (hown.alloc _) ⟨w1.heap.size, 0, none⟩ 1 1 [.int .u8 c] rfl rfl ?c1 ?c2 ?c3 ?c4 ?c5 ?_)
  case c1 =>
    intro j u hj
    match j, hj with
    | 0, hj => simp at hj; subst hj; simp [Addr.add]
  case c2 => intro u hu; simp at hu; subst hu; rfl
  case c3 => unfold maxLen; omega
  case c4 => omega
  case c5 => have := hb1.size; simp; omega
  intro v' w2 hown' hgrow _
  have hlt : b < w1.heap.size := by
    rcases Nat.lt_or_ge b w1.heap.size with h' | h'
    · exact h'
    · simp [Array.getElem?_eq_none h'] at hbk
  have hb2 : w2.heap[b]? = some (.cells #[.pointer (some ⟨b, 0, none⟩), v] 84 (0, 0)) := by
    rw [hgrow.block b (by simp; omega) (fun e => hne e.symm), Lib.alloc_old w1 _ b hlt]
    exact hbk
  have d0 : w2.cell? ⟨b, 0, none⟩ = some (.pointer (some ⟨b, 0, none⟩)) := by rw [Lib.cell_of_heap hb2]; rfl
  have d1 : w2.cell? ⟨b, 1, none⟩ = some v := by rw [Lib.cell_of_heap hb2]; rfl
  have f1 : w2.frozen? ⟨b, 1, none⟩ = false := Lib.frozen_of_heap hb2 1
  obtain ⟨g, cap, rfl⟩ : ∃ g cap, v' = .slice (some ⟨g, 0, none⟩) (bs.length + 1) cap := by
    rcases hown'.2 with ⟨_, h0⟩ | ⟨g, cap, cur, fz, hv, _⟩
    · omega
    · exact ⟨g, cap, hv⟩
  go_wp2
  go_ret
  refine ⟨rfl, Or.inr ?_, ?_, ((hk1.alloc _).grown hgrow (Lib.ownsRowF_kind (hown.alloc _))).setCell ⟨b, 1, none⟩ rfl _⟩
  · exact Lib.BuilderAtF.put (T := 84) (e := 5) hB hb2 (bs' := bs ++ [.int .u8 c]) (by simpa using hown') builderNeByte
  · exact ((hb1.alloc (by have := hb1.size; omega) _).grown hgrow (by have := hb1.size; simp; omega) (fun k hk => (hown.lt k hk).1)).setCell (p := ⟨b, 1, none⟩) hB _

end Go.Proofs.YtdeboajjhpecbaaDoor.Tx

/- Contracts of text.Len and text.At: what they return for any string. -/
namespace Go.Proofs.YtdeboajjhpecbaaDoor.Tx
open Go.RowKit

set_option maxHeartbeats 400000 in
theorem len_any (s : ByteArray) (w : World) (hs : s.size ≤ 9223372036854775807) :
    Calls Tryd.prog 50 #[.string s] w fun e w' => e = .returned (.int .i64 ((s.size / 2 : Nat) : Int)) ∧ w = w' := by
  go_enter Tryd.func50, Tryd.ntmps50
  go_wp2
  go_ret
  exact ⟨rfl, rfl⟩

set_option maxHeartbeats 400000 in
theorem at_out (s : ByteArray) (i : Int) (w : World) (hs : s.size ≤ 9223372036854775807) (hi : i < 0 ∨ ((s.size / 2 : Nat) : Int) ≤ i) :
    Calls Tryd.prog 52 #[.string s, .int .i64 i] w fun e w' => e = .returned (.int .u16 0) ∧ w = w' := by
  by_cases h0 : i < 0
  · have H0 : decide (i < 0) = true := by simpa using h0
    go_enter Tryd.func52, Tryd.ntmps52
    go_wp2
    go_ret
    exact ⟨rfl, rfl⟩
  · have h1 : ((s.size / 2 : Nat) : Int) ≤ i := by omega
    have H0 : decide (i < 0) = false := by simpa using h0
    have H1 : decide (((s.size / 2 : Nat) : Int) ≤ i) = true := by simpa using h1
    go_enter Tryd.func52, Tryd.ntmps52
    go_wp2_with (go_at_call 50; refine (len_any _ _ hs).mono ?_; rintro e w' ⟨rfl, rfl⟩)
    go_ret
    exact ⟨rfl, rfl⟩

theorem or_bytes (a b : UInt8) : bits BinOp.or IntKind.u16 (IntKind.u16.wrap (IntKind.u16.wrap (a.toNat : Int) * 256)) (IntKind.u16.wrap (b.toNat : Int)) = ((a.toNat * 256 + b.toNat : Nat) : Int) := by
  have h1 := UInt8.toNat_lt a
  have h2 := UInt8.toNat_lt b
  rw [IntWalk.u16_in (a.toNat : Int) (by omega), IntWalk.u16_in ((a.toNat : Int) * 256) (by omega), IntWalk.u16_in (b.toNat : Int) (by omega)]
  rw [bits_join .u16 16 (by decide) (fun n h0 h1 => IntWalk.u16_in n (by omega)) 8 _ _ (by omega) (by omega) (by omega) (by omega) (by omega) (by omega)]
  omega

set_option maxHeartbeats 400000 in
theorem at_in (s : ByteArray) (i : Nat) (w : World) (hs : s.size ≤ 9223372036854775807) (hi : 2 * i + 1 < s.size) :
    Calls Tryd.prog 52 #[.string s, .int .i64 i] w fun e w' => e = .returned (.int .u16 (unitAt s i)) ∧ ∃ n, w' = w.drewN n := by
  have H0 : decide ((i : Int) < 0) = false := by simp
  have H1 : decide (((s.size / 2 : Nat) : Int) ≤ i) = false := by simp; omega
  go_enter Tryd.func52, Tryd.ntmps52
  go_wp2_with (go_at_call 50; refine (len_any _ _ hs).mono ?_; rintro e w' ⟨rfl, rfl⟩)
  have e1 : IntKind.i64.wrap (2 * (i : Int)) = 2 * (i : Int) := IntWalk.i64_in _ (by omega)
  have e2 : 0 ≤ 2 * (i : Int) := by omega
  have e3 : (2 * (i : Int)).toNat = 2 * i := by omega
  have e4 : 2 * i < s.size := by omega
  have e5 : 2 * (i : Int) < s.size := by omega
  have f5 : 2 * (i : Int) + 1 < s.size := by omega
  have f1 : IntKind.i64.wrap (2 * (i : Int) + 1) = 2 * (i : Int) + 1 := IntWalk.i64_in _ (by omega)
  have f2 : 0 ≤ 2 * (i : Int) + 1 := by omega
  have f3 : (2 * (i : Int) + 1).toNat = 2 * i + 1 := by omega
  go_quiet (fail)
  go_wp2
  go_ret
  refine ⟨?_, _, rfl⟩
  have hor := or_bytes s[2 * i] s[2 * i + 1]
  rw [getD_byte s (2 * i) (by omega), getD_byte s (2 * i + 1) (by omega)] at hor
  show Ending.returned (Value.int IntKind.u16 (bits BinOp.or IntKind.u16 (IntKind.u16.wrap (IntKind.u16.wrap (s[2 * i].toNat : Int) * 256)) (IntKind.u16.wrap (s[2 * i + 1].toNat : Int)))) = _
  rw [getD_byte s (2 * i) (by omega), getD_byte s (2 * i + 1) (by omega), hor]
  rfl

/-- At, whatever the place. -/
def atV (s : ByteArray) (i : Int) : Int := if i < 0 ∨ ((s.size / 2 : Nat) : Int) ≤ i then 0 else unitAt s i.toNat
theorem at_any (s : ByteArray) (i : Int) (w : World) (hs : s.size ≤ 9223372036854775807) :
    Calls Tryd.prog 52 #[.string s, .int .i64 i] w fun e w' => e = .returned (.int .u16 (atV s i)) ∧ ∃ n, w' = w.drewN n := by
  by_cases h : i < 0 ∨ ((s.size / 2 : Nat) : Int) ≤ i
  · refine (at_out s i w hs h).mono ?_
    rintro e w' ⟨rfl, rfl⟩
    exact ⟨by rw [atV, if_pos h], 0, rfl⟩
  · obtain ⟨k, rfl⟩ := Int.eq_ofNat_of_zero_le (show 0 ≤ i by omega)
    refine (at_in s k w hs (by omega)).mono ?_
    rintro e w' ⟨rfl, hw⟩
    exact ⟨by rw [atV, if_neg h, Int.toNat_natCast], hw⟩

end Go.Proofs.YtdeboajjhpecbaaDoor.Tx

/- Contract of text.Index: the number that a string of units tells as an array's place, or -1. -/
set_option linter.unusedVariables false
namespace Go.Proofs.YtdeboajjhpecbaaDoor.Tx
open Go.RowKit

theorem len_n (s : ByteArray) (n : Nat) (w : World) (hs : s.size ≤ 9223372036854775807) (hn : Hid (n = s.size / 2)) :
    Calls Tryd.prog 50 #[.string s] w fun e w' => e = .returned (.int .i64 (n : Int)) ∧ w = w' := by
  have := hn.out; subst this
  exact len_any s w hs

theorem at_n (s : ByteArray) (i : Nat) (u : Nat) (w : World) (hs : s.size ≤ 9223372036854775807) (hi : 2 * i + 1 < s.size) (hu : Hid (u = unitAt s i)) :
    Calls Tryd.prog 52 #[.string s, .int .i64 (i : Int)] w fun e w' => e = .returned (.int .u16 (u : Int)) ∧ ∃ n, w' = w.drewN n := by
  have := hu.out; subst this
  exact at_in s i w hs hi

set_option maxHeartbeats 1000000 in
theorem index_ends (s : ByteArray) (n : Nat) (w : World) (hs : s.size ≤ 9223372036854775807) (hn : Hid (n = s.size / 2)) (h : n = 0 ∨ 5 < n) :
    Calls Tryd.prog 56 #[.string s] w fun e w' => e = .returned (.int .i64 (-1)) ∧ ∃ n, w' = w.drewN n := by
  by_cases h0 : n = 0
  · have hb : (((n : Nat) : Int) == 0) = true := by simp [h0]
    clear h h0
    go_enter Tryd.func56, Tryd.ntmps56
    go_wp2_with (go_at_call 50; refine (len_n _ n _ hs hn).mono ?_; rintro e w' ⟨rfl, rfl⟩)
    go_ret
    exact ⟨rfl, 0, rfl⟩
  · have h5 : 5 < n := by omega
    have hb : (((n : Nat) : Int) == 0) = false := by rw [beq_eq_false_iff_ne]; omega
    clear h h0
    have hc : decide (5 < (n : Int)) = true := by simp; omega
    go_enter Tryd.func56, Tryd.ntmps56
    go_wp2_with (go_at_call 50; refine (len_n _ n _ hs hn).mono ?_; rintro e w' ⟨rfl, rfl⟩)
    go_ret
    exact ⟨rfl, 0, rfl⟩

set_option maxHeartbeats 1000000 in
theorem index_zero (s : ByteArray) (n : Nat) (w : World) (hs : s.size ≤ 9223372036854775807) (hn : Hid (n = s.size / 2)) (h1 : 1 < n) (h5 : n ≤ 5) (hu : unitAt s 0 = 48) :
    Calls Tryd.prog 56 #[.string s] w fun e w' => e = .returned (.int .i64 (-1)) ∧ ∃ n, w' = w.drewN n := by
  have hb : (((n : Nat) : Int) == 0) = false := by rw [beq_eq_false_iff_ne]; omega
  have hc : decide (5 < (n : Int)) = false := by simp; omega
  have hd : decide (1 < (n : Int)) = true := by simp; omega
  have Hu := Lib.hid hu
  clear hu
  have hsz : 2 * 0 + 1 < s.size := by have := hn.out; omega
  go_enter Tryd.func56, Tryd.ntmps56
  go_wp2_with (first | (go_at_call 50; refine (len_n _ n _ hs hn).mono ?_; rintro e w' ⟨rfl, rfl⟩) | (go_at_call 52; refine (at_n s 0 48 _ hs hsz Hu.out.symm).mono ?_; rintro e w' ⟨rfl, _, rfl⟩))
  go_ret
  exact ⟨rfl, _, rfl⟩

set_option maxHeartbeats 2000000 in
theorem index_loop (s : ByteArray) (n : Nat) (w : World) (hs : s.size ≤ 9223372036854775807) (hn : Hid (n = s.size / 2)) (h0 : 0 < n) (h5 : n ≤ 5) (hu : n ≤ 1 ∨ unitAt s 0 ≠ 48) :
    Calls Tryd.prog 56 #[.string s] w fun e w' => e = .returned (.int .i64 (idxRes (idxVal s n))) ∧ ∃ n, w' = w.drewN n := by
  have hb : (((n : Nat) : Int) == 0) = false := by rw [beq_eq_false_iff_ne]; omega
  have hc : decide (5 < (n : Int)) = false := by simp; omega
  have hsz : 2 * 0 + 1 < s.size := by have := hn.out; omega
  have hev : ∀ k, k < n → 2 * k + 1 < s.size := fun k hk => by have := hn.out; omega
  by_cases h1 : n ≤ 1
  case' pos =>
    have hd : decide (1 < (n : Int)) = false := by simp; omega
    clear hu
    go_enter Tryd.func56, Tryd.ntmps56
    go_wp2_with (first | (go_at_call 50; refine (len_n _ n _ hs hn).mono ?_; rintro e w' ⟨rfl, rfl⟩))
  case' neg =>
    have hd : decide (1 < (n : Int)) = true := by simp; omega
    obtain ⟨u0, hu0⟩ : ∃ u0, u0 = unitAt s 0 := ⟨_, rfl⟩
    have Hu := Lib.hid hu0
    have hne : ((u0 : Int) == 48) = false := by rw [beq_eq_false_iff_ne]; have := hu.resolve_left h1; omega
    clear hu hu0
    go_enter Tryd.func56, Tryd.ntmps56
    go_wp2_with (first | (go_at_call 50; refine (len_n _ n _ hs hn).mono ?_; rintro e w' ⟨rfl, rfl⟩) | (go_at_call 52; refine (at_n s 0 u0 _ hs hsz Hu).mono ?_; rintro e w' ⟨rfl, _, rfl⟩))
  all_goals
    go_loopw [4, 25] (fun v i wr => ∃ k x : Nat, k ≤ n ∧ i = .int .i64 k ∧ v = .int .i64 x ∧ idxVal s k = some x ∧ x < 10 ^ k ∧ ∃ m, wr = w.drewN m) (fun _ i _ => n - (intOf i).toNat)
    case atStart => exact ⟨0, 0, by omega, rfl, rfl, rfl, by simp, _, (by first | rfl | exact (World.drewN_zero _).symm)⟩
    case round =>
      obtain ⟨k, x, hk, rfl, rfl, hx, hb10, m, rfl⟩ := hrel
      have hxb : x < 100000 := Nat.lt_of_lt_of_le hb10 (Nat.pow_le_pow_right (n := 10) (by decide) (show k ≤ 5 by omega))
      have Hx := Lib.hid hx
      have Hb := Lib.hid hb10
      clear hx hb10
      by_cases hlt : k < n
      · have hlt' : decide ((k : Int) < (n : Int)) = true := by simp; omega
        have hk2 := hev k hlt
        obtain ⟨u, hu⟩ : ∃ u, u = unitAt s k := ⟨_, rfl⟩
        have hul := unitAt_le s k
        rw [← hu] at hul
        have Hu := Lib.hid hu
        clear hu
        by_cases hdig : 48 ≤ u ∧ u ≤ 57
        · have t1 : decide ((u : Int) < 48) = false := by simp; omega
          have t2 : decide (57 < (u : Int)) = false := by simp; omega
          have hd1 := hdig.1
          have hd2 := hdig.2
          clear hdig
          go_wp2_with (go_at_call 52; refine (at_n s k u _ hs hk2 Hu).mono ?_; rintro e w' ⟨rfl, _, rfl⟩)
          go_roundw
          case rel =>
            refine ⟨k + 1, x * 10 + (u - 48), by omega, by go_num, ?_, ?_, ?_, _, rfl⟩
            · congr 1; omega
            · rw [idxVal, Hx.out]; simp only []; rw [← Hu.out, if_pos ⟨hd1, hd2⟩]
            · have := Hb.out; rw [Nat.pow_succ]; omega
          case measure => simp [intOf]; omega
        · have hnone : idxVal s n = none := idxVal_none s (k + 1) n (by rw [idxVal, Hx.out]; simp only []; rw [← Hu.out, if_neg hdig]) (by omega)
          by_cases hlo : u < 48
          · have t1 : decide ((u : Int) < 48) = true := by simp; omega
            clear hdig
            have Hn := Lib.hid hnone
            clear hnone
            go_wp2_with (go_at_call 52; refine (at_n s k u _ hs hk2 Hu).mono ?_; rintro e w' ⟨rfl, _, rfl⟩)
            go_ret
            exact ⟨by rw [Hn.out]; rfl, _, rfl⟩
          · have t1 : decide ((u : Int) < 48) = false := by simp; omega
            have t2 : decide (57 < (u : Int)) = true := by simp; omega
            clear hdig
            have Hn := Lib.hid hnone
            clear hnone
            go_wp2_with (go_at_call 52; refine (at_n s k u _ hs hk2 Hu).mono ?_; rintro e w' ⟨rfl, _, rfl⟩)
            go_ret
            exact ⟨by rw [Hn.out]; rfl, _, rfl⟩
      · have hlt' : decide ((k : Int) < (n : Int)) = false := by simp; omega
        obtain rfl : k = n := by omega
        by_cases hbig : 1000 ≤ x
        · have t1 : decide (1000 ≤ (x : Int)) = true := by simp; omega
          go_wp2
          go_ret
          exact ⟨by rw [Hx.out]; simp [idxRes, hbig], _, rfl⟩
        · have t1 : decide (1000 ≤ (x : Int)) = false := by simp; omega
          go_wp2
          go_ret
          exact ⟨by rw [Hx.out]; simp [idxRes, hbig], _, rfl⟩

theorem index_any (s : ByteArray) (w : World) (hs : s.size ≤ 9223372036854775807) :
    Calls Tryd.prog 56 #[.string s] w fun e w' => e = .returned (.int .i64 (indexOf s)) ∧ ∃ n, w' = w.drewN n := by
  by_cases h : s.size / 2 = 0 ∨ 5 < s.size / 2
  · rw [indexOf, if_pos (by rcases h with h | h; exact .inl h; exact .inr (.inl h))]
    exact index_ends s _ w hs rfl h
  · by_cases h1 : 1 < s.size / 2 ∧ unitAt s 0 = 48
    · rw [indexOf, if_pos (.inr (.inr h1))]
      exact index_zero s _ w hs rfl h1.1 (by omega) h1.2
    · rw [indexOf, if_neg (by rintro (h2 | h2 | h2); exact h (.inl h2); exact h (.inr h2); exact h1 h2)]
      refine index_loop s _ w hs rfl (by omega) (by omega) ?_
      by_cases h2 : s.size / 2 ≤ 1
      · exact .inl h2
      · exact .inr fun h3 => h1 ⟨by omega, h3⟩

end Go.Proofs.YtdeboajjhpecbaaDoor.Tx

/- Contracts of text.put and text.Of: the units of any string's UTF-8. -/
set_option linter.unusedVariables false
namespace Go.Proofs.YtdeboajjhpecbaaDoor.Tx
open Go.RowKit

theorem unit_hi (u : Int) (h0 : 0 ≤ u) (h1 : u < 65536) : u / 256 = ((UInt8.ofNat (u.toNat / 256)).toNat : Int) := by
  simp [UInt8.toNat_ofNat']; omega
theorem unit_lo (u : Int) (h0 : 0 ≤ u) (h1 : u < 65536) : u % 256 = ((UInt8.ofNat (u.toNat % 256)).toNat : Int) := by
  simp [UInt8.toNat_ofNat']; omega

theorem byteCells_unit (l : List UInt8) (u : Int) (h0 : 0 ≤ u) (h1 : u < 65536) :
    Lib.byteCells (l ++ unitB u.toNat) = Lib.byteCells l ++ [.int .u8 (u / 256)] ++ [.int .u8 (u % 256)] := by
  rw [unit_hi u h0 h1, unit_lo u h0 h1, Lib.byteCells_append]
  simp [Lib.byteCells, unitB]

set_option maxHeartbeats 1000000 in
set_option maxRecDepth 100000 in
theorem put_k (B b : Nat) (l : List UInt8) (u : Int) (h0 : 0 ≤ u) (h1 : u < 65536) (w : World) (h : Lib.IsBuilderF 84 5 B b (Lib.byteCells l) w) (hlen : l.length + 2 ≤ 140737488355328) (hBw : B ≤ w.heap.size) :
    Calls Tryd.prog 38 #[.pointer (some ⟨b, 0, none⟩), .int .u16 u] w fun e w' => e = .returned (.tuple #[]) ∧ (Lib.IsBuilderF 84 5 B b (Lib.byteCells (l ++ unitB u.toNat)) w' ∧ Below B w w' ∧ Lib.OthersKept 5 (some b) w w') := by
  go_enter Tryd.func38, Tryd.ntmps38
  go_wp2_with (go_at_call 33; refine (WriteByte_k B b _ (u / 256) _ h (by rw [Lib.byteCells_length]; omega) hBw).mono ?_)
  rintro e w1 ⟨rfl, g1, b1, k1⟩
  go_wp2_with fail
  have hz := b1.size
  refine (WriteByte_k B b _ _ _ g1 (by rw [List.length_append, Lib.byteCells_length]; simp; omega) (by omega)).mono ?_
  rintro e w2 ⟨rfl, h2, b2, k2⟩
  go_wp2
  go_end0
  refine ⟨rfl, ?_, b1.trans b2, k1.trans k2⟩
  rw [byteCells_unit l u h0 h1]
  exact h2

theorem and1023 (x : Int) (h0 : 0 ≤ x) (h1 : x < 2147483648) : bits .and .i32 x 1023 = x % 1024 :=
  bits_mask .i32 31 (by decide) wraps_i32 10 (by decide) x h0 h1

set_option maxHeartbeats 4000000 in
set_option maxRecDepth 100000 in
theorem of_any (s : ByteArray) (w : World) (hs : s.size ≤ 17592186044416) :
    Calls Tryd.prog 18 #[.string s] w fun e w' => e = .returned (.string ⟨(ofB s).toArray⟩) ∧ Below w.heap.size w w' := by
  go_enter Tryd.func18, Tryd.ntmps18
  go_wp2
  go_loopw [] (fun wr => ∃ (pos fuel : Nat) (acc : List UInt8), Lib.IsBuilderF 84 5 w.heap.size w.heap.size (Lib.byteCells acc) wr ∧ wr.heap[w.heap.size + 1]? = some (.stringIter s pos) ∧ Below w.heap.size w wr ∧ acc ++ unitsB (decUnits s fuel pos) = ofB s ∧ s.size ≤ pos + fuel ∧ acc.length ≤ 4 * pos) (fun wr => s.size - wr.iterPos (w.heap.size + 1))
  case atStart =>
    refine ⟨0, s.size, [], (Lib.IsBuilderF.of (Lib.fresh_isBuilder 84 5 w)).alloc _, ?_, ((Below.refl _ w).alloc (Nat.le_refl _) _).alloc (by simp) _, rfl, by omega, by simp⟩
    have := World.iter_heap (w.alloc (.cells #[.pointer none, .slice none 0 0] 84)) s 0
    simpa using this
  case round =>
    obtain ⟨pos, fuel, acc, hI, hit, hbw, hacc, hfu, hal⟩ := hrel
    have hsz : w.heap.size + 1 < wr.heap.size := (Array.getElem?_eq_some_iff.1 hit).1
    by_cases hp : pos < s.size
    · have hnx : ∀ ty, (Instr.next (.pointer (some ⟨w.heap.size + 1, 0, none⟩)) true ty).run Tryd.prog wr = _ := fun ty => Lib.run_next_any_at wr (w.heap.size + 1) s pos ty hit hp
      have hwd := width_pos s pos hp
      have hd1 := decode_max s pos
      have hI2 := hI.iterAt hit (pos + (Utf8.decode s pos).2)
      have hit2 := Lib.iterAt_heap wr (w.heap.size + 1) s pos (pos + (Utf8.decode s pos).2) hit
      have hbw2 := Lib.below_iterAt hbw (k := w.heap.size + 1) (by omega) s (pos + (Utf8.decode s pos).2)
      have hsz2 : w.heap.size ≤ (wr.iterAt (w.heap.size + 1) s (pos + (Utf8.decode s pos).2)).heap.size := by rw [Lib.iterAt_size]; omega
      obtain ⟨f, rfl⟩ : ∃ f, fuel = f + 1 := ⟨fuel - 1, by omega⟩
      have hstep : unitsB (decUnits s (f + 1) pos) = unitsB (runeUnits (Utf8.decode s pos).1) ++ unitsB (decUnits s f (pos + (Utf8.decode s pos).2)) := by
        rw [decUnits, if_pos hp, unitsB_append]
      have HS := Lib.hid hstep
      have HA := Lib.hid hacc
      clear hstep hacc
      generalize hd : Utf8.decode s pos = d at *
      obtain ⟨r, wd⟩ := d
      simp only at *
      clear hd
      by_cases h32 : r < 65536
      · have hB : decide ((r : Int) < 65536) = true := by simp; omega
        go_wp2_with (go_at_call 38; refine (put_k w.heap.size w.heap.size acc _ (by omega) (by omega) _ hI2 (by omega) hsz2).mono ?_)
        rintro e W1 ⟨rfl, g1, b1, k1⟩
        go_wp2
        go_roundw
        case rel =>
          refine ⟨pos + wd, f, acc ++ unitB r, ?_, k1.iter hit2 (by omega), hbw2.trans b1, ?_, by omega, by simp [unitB]; omega⟩
          · simpa using g1
          · rw [← HA.out, HS.out]; simp [runeUnits, h32, unitsB_cons, unitsB_nil]
        case measure =>
          simp only [World.iterPos, k1.iter hit2 (by omega), hit]
          omega
      · have hB : decide ((r : Int) < 65536) = false := by simp; omega
        have hr : IntKind.u16.wrap (55296 + ((r : Int) - 65536) / 1024) = 55296 + ((r : Int) - 65536) / 1024 := IntWalk.u16_in _ (by omega)
        go_wp2_with fail
        refine (put_k w.heap.size w.heap.size acc _ (by omega) (by omega) _ hI2 (by omega) hsz2).mono ?_
        rintro e W1 ⟨rfl, g1, b1, k1⟩
        go_wp2_with fail
        rw [and1023 ((r : Int) - 65536) (by omega) (by omega), show wrap32 (56320 + ((r : Int) - 65536) % 1024) = 56320 + ((r : Int) - 65536) % 1024 from IntWalk.wrap32_in _ (by omega), IntWalk.u16_in (56320 + ((r : Int) - 65536) % 1024) (by omega)]
        have hz3 := b1.size
        have hit3 := k1.iter hit2 (by omega)
        refine (put_k w.heap.size w.heap.size _ _ (by omega) (by omega) _ g1 (by simp [unitB]; omega) (by omega)).mono ?_
        rintro e W2 ⟨rfl, g2, b2, k2⟩
        go_wp2
        go_roundw
        case rel =>
          refine ⟨pos + wd, f, acc ++ unitB (55296 + (r - 65536) / 1024) ++ unitB (56320 + (r - 65536) % 1024), ?_, k2.iter hit3 (by omega), (hbw2.trans b1).trans b2, ?_, by omega, by simp [unitB]; omega⟩
          · rw [show 55296 + (r - 65536) / 1024 = (55296 + ((r : Int) - 65536) / 1024).toNat from by omega, show 56320 + (r - 65536) % 1024 = (56320 + ((r : Int) - 65536) % 1024).toNat from by omega]
            exact g2
          · rw [← HA.out, HS.out]; simp [runeUnits, h32, unitsB_cons, unitsB_nil]
        case measure =>
          simp only [World.iterPos, k2.iter hit3 (by omega), hit]
          omega
    · have hnx : ∀ ty, (Instr.next (.pointer (some ⟨w.heap.size + 1, 0, none⟩)) true ty).run Tryd.prog wr = _ := fun ty => Lib.run_next_end_at wr (w.heap.size + 1) s pos ty hit hp
      go_wp2_with (go_at_call 35; refine (Tryd.Builder_String_any_k w.heap.size w.heap.size acc _ hI (by omega)).mono ?_)
      rintro e W1 ⟨rfl, _, b1, _⟩
      go_wp2
      go_ret
      refine ⟨?_, hbw.trans b1⟩
      rw [decUnits_end s fuel pos hp, unitsB_nil, List.append_nil] at hacc
      rw [hacc]
      rfl

end Go.Proofs.YtdeboajjhpecbaaDoor.Tx

/- Plain laws on strings of units: what a string made of units has at each place; units of ASCII texts; the places of arrays. No program in sight. -/
namespace Go.Proofs.YtdeboajjhpecbaaDoor.Tx

def Fits (l : List Nat) : Prop := ∀ u, u ∈ l → u < 65536
def uS (l : List Nat) : ByteArray := ⟨(unitsB l).toArray⟩

theorem uS_size (l : List Nat) : (uS l).size = 2 * l.length := by
  show (unitsB l).toArray.size = _
  rw [List.size_toArray, unitsB_length]

theorem unitsB_getD (l : List Nat) (i : Nat) : (unitsB l).getD (2 * i) 0 = UInt8.ofNat (l.getD i 0 / 256) ∧ (unitsB l).getD (2 * i + 1) 0 = UInt8.ofNat (l.getD i 0 % 256) := by
  induction l generalizing i with
  | nil => simp [unitsB]
  | cons u l ih =>
    cases i with
    | zero => simp [unitsB_cons, unitB]
    | succ i =>
      have := ih i
      rw [unitsB_cons]
      simp only [unitB, List.cons_append, List.nil_append]
      rw [show 2 * (i + 1) = 2 * i + 1 + 1 by omega]
      simpa using this

theorem unitAt_uS (l : List Nat) (h : Fits l) (i : Nat) : unitAt (uS l) i = l.getD i 0 := by
  have hl : l.getD i 0 < 65536 := by
    by_cases hi : i < l.length
    · rw [List.getD_eq_getElem?_getD, List.getElem?_eq_getElem hi]; exact h _ (List.getElem_mem hi)
    · rw [List.getD_eq_getElem?_getD, List.getElem?_eq_none (by omega)]; decide
  have := unitsB_getD l i
  unfold unitAt uS
  simp only [this.1, this.2, UInt8.toNat_ofNat']
  omega

def idxValL (l : List Nat) : Nat → Option Nat
  | 0 => some 0
  | k + 1 => match idxValL l k with
    | none => none
    | some v => if 48 ≤ l.getD k 0 ∧ l.getD k 0 ≤ 57 then some (v * 10 + (l.getD k 0 - 48)) else none
def idxL (l : List Nat) : Int :=
  if l.length = 0 ∨ 5 < l.length ∨ (1 < l.length ∧ l.getD 0 0 = 48) then -1 else idxRes (idxValL l l.length)

theorem idxVal_uS (l : List Nat) (h : Fits l) (k : Nat) : idxVal (uS l) k = idxValL l k := by
  induction k with
  | zero => rfl
  | succ k ih => rw [idxVal, idxValL, ih, unitAt_uS l h] <;> rfl

theorem indexOf_uS (l : List Nat) (h : Fits l) : indexOf (uS l) = idxL l := by
  unfold indexOf idxL
  rw [uS_size, show 2 * l.length / 2 = l.length by omega, idxVal_uS l h, unitAt_uS l h]

/-! ASCII -/
theorem decUnits_ascii (l : List UInt8) (h : ∀ c, c ∈ l → c.toNat < 128) (fuel pos : Nat) (hf : l.length ≤ pos + fuel) :
    decUnits ⟨l.toArray⟩ fuel pos = (l.drop pos).map (·.toNat) := by
  induction fuel generalizing pos with
  | zero => rw [List.drop_of_length_le (by omega)]; rfl
  | succ f ih =>
    by_cases hp : pos < l.length
    · have hsz : pos < (⟨l.toArray⟩ : ByteArray).size := by show pos < l.toArray.size; simpa using hp
      have he : (⟨l.toArray⟩ : ByteArray)[pos]'hsz = l[pos] := rfl
      have hc : l[pos].toNat < 128 := h _ (List.getElem_mem hp)
      rw [decUnits, if_pos hsz, decode_ascii _ pos hsz (by rw [he]; exact hc), he, ih (pos + 1) (by omega), List.drop_eq_getElem_cons hp, List.map_cons, runeUnits, if_pos (show l[pos].toNat < 65536 by omega)]
      rfl
    · rw [decUnits_end _ _ _ (by show ¬ pos < l.toArray.size; simpa using hp), List.drop_of_length_le (by omega)]; rfl

theorem ofB_ascii (l : List UInt8) (h : ∀ c, c ∈ l → c.toNat < 128) : ofB ⟨l.toArray⟩ = unitsB (l.map (·.toNat)) := by
  unfold ofB unitsOf
  rw [decUnits_ascii l h _ 0 (by show l.length ≤ 0 + l.toArray.size; simp)]
  rfl

theorem indexOf_of_ascii (l : List UInt8) (h : ∀ c, c ∈ l → c.toNat < 128) : indexOf ⟨(ofB ⟨l.toArray⟩).toArray⟩ = idxL (l.map (·.toNat)) := by
  rw [ofB_ascii l h]
  refine indexOf_uS _ fun u hu => ?_
  obtain ⟨c, _, rfl⟩ := List.mem_map.1 hu
  have := UInt8.toNat_lt c
  omega

theorem runeUnits_fits (r : Nat) (h : r ≤ 1114111) : Fits (runeUnits r) := by
  unfold runeUnits
  intro u hu
  by_cases h1 : r < 65536
  · rw [if_pos h1] at hu; simp at hu; omega
  · rw [if_neg h1] at hu
    rcases List.mem_cons.1 hu with h2 | h2
    · omega
    · have := List.mem_singleton.1 h2; omega
theorem runeUnits_length (r : Nat) : (runeUnits r).length ≤ 2 := by
  unfold runeUnits
  by_cases h1 : r < 65536
  · rw [if_pos h1]; simp
  · rw [if_neg h1]; simp
theorem decUnits_fits (s : ByteArray) (fuel pos : Nat) : Fits (decUnits s fuel pos) := by
  induction fuel generalizing pos with
  | zero => intro u hu; simp [decUnits] at hu
  | succ f ih =>
    rw [decUnits]
    by_cases h : pos < s.size
    · rw [if_pos h]
      intro u hu
      rcases List.mem_append.1 hu with h1 | h1
      · exact runeUnits_fits _ (decode_max s pos) u h1
      · exact ih _ u h1
    · rw [if_neg h]; intro u hu; simp at hu
theorem decUnits_length (s : ByteArray) (fuel pos : Nat) : (decUnits s fuel pos).length ≤ 2 * fuel := by
  induction fuel generalizing pos with
  | zero => simp [decUnits]
  | succ f ih =>
    rw [decUnits]
    by_cases h : pos < s.size
    · rw [if_pos h, List.length_append]
      have := ih (pos + (Utf8.decode s pos).2)
      have := runeUnits_length (Utf8.decode s pos).1
      omega
    · rw [if_neg h]; simp

/-! The digits of a number below 12000 -/
def decF : Nat → Nat → List UInt8 → List UInt8
  | 0, _, l => l
  | f + 1, m, l => if m / 10 = 0 then UInt8.ofNat (48 + m % 10) :: l else decF f (m / 10) (UInt8.ofNat (48 + m % 10) :: l)
def decB (n : Nat) : List UInt8 := decF 5 n []
def dg (k : Nat) : UInt8 := UInt8.ofNat (48 + k % 10)
theorem dg_toNat (k : Nat) : (dg k).toNat = 48 + k % 10 := by
  unfold dg; rw [UInt8.toNat_ofNat']; omega

theorem decB_cases (n : Nat) (h : n < 12000) :
    (n < 10 ∧ decB n = [dg n]) ∨ (10 ≤ n ∧ n < 100 ∧ decB n = [dg (n / 10), dg n]) ∨ (100 ≤ n ∧ n < 1000 ∧ decB n = [dg (n / 100), dg (n / 10), dg n]) ∨
    (1000 ≤ n ∧ n < 10000 ∧ decB n = [dg (n / 1000), dg (n / 100), dg (n / 10), dg n]) ∨ (10000 ≤ n ∧ decB n = [dg (n / 10000), dg (n / 1000), dg (n / 100), dg (n / 10), dg n]) := by
  by_cases h1 : n < 10
  · refine .inl ⟨h1, ?_⟩
    simp only [decB, decF]
    rw [if_pos (by omega)]; rfl
  by_cases h2 : n < 100
  · refine .inr (.inl ⟨by omega, h2, ?_⟩)
    simp only [decB, decF]
    rw [if_neg (by omega), if_pos (by omega)]; rfl
  by_cases h3 : n < 1000
  · refine .inr (.inr (.inl ⟨by omega, h3, ?_⟩))
    simp only [decB, decF]
    rw [if_neg (by omega), if_neg (by omega), if_pos (by omega)]
    simp only [dg, Nat.div_div_eq_div_mul]
  by_cases h4 : n < 10000
  · refine .inr (.inr (.inr (.inl ⟨by omega, h4, ?_⟩)))
    simp only [decB, decF]
    rw [if_neg (by omega), if_neg (by omega), if_neg (by omega), if_pos (by omega)]
    simp only [dg, Nat.div_div_eq_div_mul]
  · refine .inr (.inr (.inr (.inr ⟨by omega, ?_⟩)))
    simp only [decB, decF]
    rw [if_neg (by omega), if_neg (by omega), if_neg (by omega), if_neg (by omega), if_pos (by omega)]
    simp only [dg, Nat.div_div_eq_div_mul]

/-- One more unit. -/
theorem idxValL_snoc (l : List Nat) (u : Nat) : idxValL (l ++ [u]) (l.length + 1) = match idxValL l l.length with
    | none => none
    | some v => if 48 ≤ u ∧ u ≤ 57 then some (v * 10 + (u - 48)) else none := by
  have hk : ∀ k, k ≤ l.length → idxValL (l ++ [u]) k = idxValL l k := by
    intro k
    induction k with
    | zero => intro _; rfl
    | succ k ih =>
      intro hk
      rw [idxValL, idxValL, ih (by omega), show (l ++ [u]).getD k 0 = l.getD k 0 by rw [List.getD_eq_getElem?_getD, List.getD_eq_getElem?_getD, List.getElem?_append_left (by omega)]]
  rw [idxValL, hk _ (Nat.le_refl _), show (l ++ [u]).getD l.length 0 = u by simp]

/-- What starts with something that is no digit from 1 to 9, and is longer than one, is no place. -/
theorem idxL_head (u : Nat) (l : List Nat) (h0 : l ≠ []) (h : ¬ (49 ≤ u ∧ u ≤ 57)) : idxL (u :: l) = -1 := by
  have hl : 0 < l.length := List.length_pos_iff.2 h0
  by_cases h48 : u = 48
  · rw [idxL, if_pos (.inr (.inr ⟨by simp; omega, by simpa using h48⟩))]
  · have h1 : idxValL (u :: l) 1 = none := by
      rw [idxValL, idxValL]
      show (if 48 ≤ (u :: l).getD 0 0 ∧ (u :: l).getD 0 0 ≤ 57 then some (0 * 10 + ((u :: l).getD 0 0 - 48)) else none) = none
      rw [List.getD_cons_zero, if_neg (by omega)]
    have hn : ∀ k, 1 ≤ k → idxValL (u :: l) k = none := by
      intro k
      induction k with
      | zero => intro h; omega
      | succ k ih =>
        intro _
        by_cases hk : k = 0
        · subst hk; exact h1
        · rw [idxValL, ih (by omega)]
    unfold idxL
    rw [hn _ (by simp)]
    by_cases hc : (u :: l).length = 0 ∨ 5 < (u :: l).length ∨ 1 < (u :: l).length ∧ (u :: l).getD 0 0 = 48
    · rw [if_pos hc]
    · rw [if_neg hc]; rfl

theorem idxL_last (u : Nat) (l : List Nat) (h : ¬ (48 ≤ u ∧ u ≤ 57)) : idxL (l ++ [u]) = -1 := by
  have : idxValL (l ++ [u]) (l ++ [u]).length = none := by
    rw [show (l ++ [u]).length = l.length + 1 by simp, idxValL_snoc]
    split
    · rfl
    · rw [if_neg h]
  unfold idxL
  rw [this]
  by_cases hc : (l ++ [u]).length = 0 ∨ 5 < (l ++ [u]).length ∨ 1 < (l ++ [u]).length ∧ (l ++ [u]).getD 0 0 = 48
  · rw [if_pos hc]
  · rw [if_neg hc]; rfl

theorem idx_digits (rs : List Nat) (h : ∀ d, d ∈ rs → d ≤ 9) : idxValL (rs.reverse.map (48 + ·)) rs.length = some (rs.reverse.foldl (fun v d => v * 10 + d) 0) := by
  induction rs with
  | nil => rfl
  | cons d rs ih =>
    have h1 := idxValL_snoc (rs.reverse.map (48 + ·)) (48 + d)
    rw [List.length_map, List.length_reverse, ih fun d' hd => h d' (List.mem_cons_of_mem _ hd)] at h1
    have h9 := h d (List.mem_cons_self ..)
    rw [List.reverse_cons, List.map_append, List.length_cons, List.foldl_append]
    refine h1.trans ?_
    show (if 48 ≤ 48 + d ∧ 48 + d ≤ 57 then _ else none) = _
    rw [if_pos (by omega)]
    simp

theorem idxL_digits (ds : List Nat) (h : ∀ d, d ∈ ds → d ≤ 9) (h0 : ds ≠ []) (h5 : ds.length ≤ 5) (hz : ds.length ≤ 1 ∨ ds.getD 0 0 ≠ 0) :
    idxL (ds.map (48 + ·)) = if 1000 ≤ ds.foldl (fun v d => v * 10 + d) 0 then -1 else ((ds.foldl (fun v d => v * 10 + d) 0 : Nat) : Int) := by
  have h1 := idx_digits ds.reverse (fun d hd => h d (List.mem_reverse.1 hd))
  rw [List.reverse_reverse, List.length_reverse] at h1
  have hl : 0 < ds.length := List.length_pos_iff.2 h0
  rw [idxL, if_neg, List.length_map, h1]
  · rfl
  · rw [List.length_map]
    rintro (h2 | h2 | ⟨h2, h3⟩)
    · omega
    · omega
    · rcases hz with hz | hz
      · omega
      · apply hz
        cases ds with
        | nil => exact absurd rfl h0
        | cons d ds => simp at h3; simpa using h3

theorem decB_ne (n : Nat) (h : n < 12000) : decB n ≠ [] := by
  rcases decB_cases n h with ⟨_, e⟩ | ⟨_, _, e⟩ | ⟨_, _, e⟩ | ⟨_, _, e⟩ | ⟨_, e⟩ <;> rw [e] <;> simp

theorem decB_ascii (n : Nat) (h : n < 12000) : ∀ c, c ∈ decB n → c.toNat < 128 := by
  rcases decB_cases n h with ⟨_, e⟩ | ⟨_, _, e⟩ | ⟨_, _, e⟩ | ⟨_, _, e⟩ | ⟨_, e⟩ <;> rw [e] <;> simp [dg_toNat] <;> omega

theorem idxL_dec (n : Nat) (h : n < 12000) : idxL ((decB n).map (·.toNat)) = if 1000 ≤ n then -1 else (n : Int) := by
  have key : ∀ ds : List Nat, (decB n).map (·.toNat) = ds.map (48 + ·) → (∀ d, d ∈ ds → d ≤ 9) → ds ≠ [] → ds.length ≤ 5 → (ds.length ≤ 1 ∨ ds.getD 0 0 ≠ 0) → ds.foldl (fun v d => v * 10 + d) 0 = n → idxL ((decB n).map (·.toNat)) = if 1000 ≤ n then -1 else (n : Int) := by
    intro ds e h1 h2 h3 h4 h5
    rw [e, idxL_digits ds h1 h2 h3 h4, h5]
  rcases decB_cases n h with ⟨h1, e⟩ | ⟨h1, h2, e⟩ | ⟨h1, h2, e⟩ | ⟨h1, h2, e⟩ | ⟨h1, e⟩
  · refine key [n % 10] (by rw [e]; simp [dg_toNat]) (by simp; omega) (by simp) (by simp) (by simp) (by simp; omega)
  · refine key [n / 10 % 10, n % 10] (by rw [e]; simp [dg_toNat]) (by simp; omega) (by simp) (by simp) (by simp; omega) (by simp; omega)
  · refine key [n / 100 % 10, n / 10 % 10, n % 10] (by rw [e]; simp [dg_toNat]) (by simp; omega) (by simp) (by simp) (by simp; omega) (by simp; omega)
  · refine key [n / 1000 % 10, n / 100 % 10, n / 10 % 10, n % 10] (by rw [e]; simp [dg_toNat]) (by simp; omega) (by simp) (by simp) (by simp; omega) (by simp; omega)
  · refine key [n / 10000 % 10, n / 1000 % 10, n / 100 % 10, n / 10 % 10, n % 10] (by rw [e]; simp [dg_toNat]) (by simp; omega) (by simp) (by simp) (by simp; omega) (by simp; omega)

end Go.Proofs.YtdeboajjhpecbaaDoor.Tx

/- Contract of the statements' own example 'fit': it returns true. -/
set_option linter.unusedVariables false
namespace Go.Proofs.YtdeboajjhpecbaaDoor.Tx
open Go.RowKit

theorem norm_mod (n m : Int) (hm : 0 < m) (h9 : m < 1000000000) : ∃ N : Nat, (wrap64 (n.tmod m + m)).tmod m = (N : Int) ∧ (N : Int) < m := by
  have h1 := Int.tmod_lt_of_pos n hm
  have h2 := Int.lt_tmod_of_pos n hm
  rw [IntWalk.wrap64_in _ (by omega)]
  rw [Int.tmod_eq_emod_of_nonneg (by omega)]
  have h3 := Int.emod_nonneg (n.tmod m + m) (by omega : m ≠ 0)
  have h4 := Int.emod_lt_of_pos (n.tmod m + m) hm
  exact ⟨((n.tmod m + m) % m).toNat, by omega, by omega⟩

theorem of_lit (l r : List UInt8) (w : World) (hl : l.length ≤ 100) (h : Hid (ofB ⟨l.toArray⟩ = r)) :
    Calls Tryd.prog 18 #[.string ⟨l.toArray⟩] w fun e w' => e = .returned (.string ⟨r.toArray⟩) ∧ Below w.heap.size w w' := by
  have := of_any ⟨l.toArray⟩ w (by show l.toArray.size ≤ _; simp; omega)
  rw [h.out] at this
  exact this

theorem index_lit (l : List UInt8) (r : Int) (w : World) (hl : l.length ≤ 9223372036854775807) (h : Hid (indexOf ⟨l.toArray⟩ = r)) :
    Calls Tryd.prog 56 #[.string ⟨l.toArray⟩] w fun e w' => e = .returned (.int .i64 r) ∧ ∃ n, w' = w.drewN n := by
  have := index_any ⟨l.toArray⟩ w (by show l.toArray.size ≤ _; simpa using hl)
  rw [h.out] at this
  exact this

theorem app_s (a b : List UInt8) : (⟨a.toArray⟩ ++ ⟨b.toArray⟩ : ByteArray) = ⟨(a ++ b).toArray⟩ := by
  rw [ByteArray.ext_iff]; simp

end Go.Proofs.YtdeboajjhpecbaaDoor.Tx

/- What a row of bytes reads as when it is turned into a string. -/
set_option linter.unusedVariables false
namespace Go.Proofs.YtdeboajjhpecbaaDoor.Tx
open Go.RowKit

theorem strOfNums_bytes (l : List UInt8) : strOfNums (l.map fun c => (c.toNat : Int)) = ⟨l.toArray⟩ := by
  simp only [strOfNums, List.map_map]
  congr 2
  conv => rhs; rw [← List.map_id l]
  refine List.map_congr_left fun c _ => ?_
  show UInt8.ofNat ((c.toNat : Int).toNat) = c
  rw [Int.toNat_natCast, UInt8.ofNat_toNat]

/-- 'string(b)' of an owned row of bytes. -/
theorem conv_row (w : World) (B g cap : Nat) (l : List UInt8) (h : w.ownsRow B 5 1 (.slice (some ⟨g, 0, none⟩) l.length cap) l.length (Lib.byteCells l)) :
    (convert 82 9 (.slice (some ⟨g, 0, none⟩) l.length cap)).run Tryd.prog w = .ok (.string ⟨l.toArray⟩) w := by
  rw [run_convert_bytes_arg w 82 5 Tryd.underlying82 Tryd.underlying5 g 0 l.length cap (l.map fun c => (c.toNat : Int)) (by simp) (fun i hi => ?_) 9 Tryd.underlying9, strOfNums_bytes]
  have := h.cellAt i (by omega)
  rw [Nat.zero_add, this]
  simp [Lib.byteCells, List.getD_eq_getElem?_getD, List.getElem?_eq_getElem hi]

/-- .. whatever owns them, a nil slice too. -/
theorem conv_own (w : World) (B n : Nat) (v : Value) (l : List UInt8) (h : w.ownsRow B 5 1 v n (Lib.byteCells l)) :
    (convert 82 9 v).run Tryd.prog w = .ok (.string ⟨l.toArray⟩) w := by
  have hl : l.length = n := by have := h.1; rw [Lib.byteCells_length] at this; omega
  subst hl
  rcases h.2 with ⟨rfl, h0⟩ | ⟨g, cap, cur, rfl, _⟩
  · rw [run_convert_bytes_nil w 82 5 Tryd.underlying82 Tryd.underlying5 0 0 9 Tryd.underlying9, List.length_eq_zero_iff.1 h0]
    rfl
  · exact conv_row w B g cap l h

/-- 'make([]byte, n)' holds n bytes 0. -/
def zeros (n : Nat) : List UInt8 := List.replicate n 0
theorem zeros_length (n : Nat) : (zeros n).length = n := List.length_replicate
theorem madeCells_bytes (n : Nat) : (madeCells #[Value.int .u8 0] n).toList = Lib.byteCells (zeros n) := by
  rw [toList_madeCells_one]
  simp [Lib.byteCells, zeros]

theorem size_bytes (l : List UInt8) : (⟨l.toArray⟩ : ByteArray).size = l.length := by show l.toArray.size = _; simp

end Go.Proofs.YtdeboajjhpecbaaDoor.Tx

/- Contracts of text.Join. -/
set_option linter.unusedVariables false
namespace Go.Proofs.YtdeboajjhpecbaaDoor.Tx
open Go.RowKit

end Go.Proofs.YtdeboajjhpecbaaDoor.Tx

/- Slices of integers as contracts see them: what is read of one that came in or that the call has made. -/
set_option linter.unusedVariables false
namespace Go.Proofs.YtdeboajjhpecbaaDoor.Tx
open Go.RowKit

theorem dr2 (w : World) (a b : Nat) : ∃ m, (w.drewN a).drewN b = w.drewN m := ⟨_, World.drewN_drewN _ _ _⟩
theorem dr3 (w : World) (a b c : Nat) : ∃ m, ((w.drewN a).drewN b).drewN c = w.drewN m := ⟨_, by rw [World.drewN_drewN, World.drewN_drewN]⟩

theorem bcell {W w1 : World} (hb : Below W.heap.size W w1) : (∀ b o, b < W.heap.size → w1.cell? ⟨b, o, none⟩ = W.cell? ⟨b, o, none⟩) ∧ (∀ b o, b < W.heap.size → w1.frozen? ⟨b, o, none⟩ = W.frozen? ⟨b, o, none⟩) :=
  ⟨fun b o h => hb.cell (p := ⟨b, o, none⟩) h, fun b o h => hb.frozen (p := ⟨b, o, none⟩) h⟩

/-- The numbers as cells of kind k. -/
def numCells (k : IntKind) (l : List Int) : List Value := l.map (Value.int k)
theorem numCells_length (k : IntKind) (l : List Int) : (numCells k l).length = l.length := List.length_map _
theorem numCells_append (k : IntKind) (l m : List Int) : numCells k (l ++ m) = numCells k l ++ numCells k m := List.map_append
theorem numCells_get (k : IntKind) (l : List Int) (i : Nat) (h : i < l.length) : (numCells k l)[i]? = some (.int k (l.getD i 0)) := by
  simp [numCells, List.getElem?_eq_getElem h]

/-- A slice value whose elements are the numbers l. -/
def SliceR (k : IntKind) (w : World) (a : Option Addr) (n cap : Nat) (l : List Int) : Prop :=
  l.length = n ∧ n ≤ cap ∧ cap ≤ maxLen ∧ (0 < cap → a ≠ none) ∧ (0 < n → ∃ b off, a = some ⟨b, off, none⟩ ∧ b < w.heap.size ∧ ∀ i, i < n → w.cell? ⟨b, off + i, none⟩ = some (.int k (l.getD i 0)))

theorem SliceR.kept {k : IntKind} {w w' : World} {a : Option Addr} {n cap : Nat} {l : List Int} (h : SliceR k w a n cap l) {B : Nat} (hb : Below B w w') (hB : ∀ x, a = some x → x.block < B) : SliceR k w' a n cap l := by
  obtain ⟨h1, h2, h3, h3', h4⟩ := h
  refine ⟨h1, h2, h3, h3', fun hn => ?_⟩
  obtain ⟨b, off, rfl, hlt, hc⟩ := h4 hn
  exact ⟨b, off, rfl, Nat.lt_of_lt_of_le hlt hb.size, fun i hi => by rw [hb.cell (p := ⟨b, off + i, none⟩) (hB ⟨b, off, none⟩ rfl)]; exact hc i hi⟩

theorem SliceR.below {k : IntKind} {w w' : World} {a : Option Addr} {n cap : Nat} {l : List Int} (h : SliceR k w a n cap l) (hb : Below w.heap.size w w') : SliceR k w' a n cap l := by
  obtain ⟨h1, h2, h3, h3', h4⟩ := h
  refine ⟨h1, h2, h3, h3', fun hn => ?_⟩
  obtain ⟨b, off, rfl, hlt, hc⟩ := h4 hn
  exact ⟨b, off, rfl, Nat.lt_of_lt_of_le hlt hb.size, fun i hi => by rw [hb.cell (p := ⟨b, off + i, none⟩) hlt]; exact hc i hi⟩

theorem SliceR.drewN {k : IntKind} {w : World} {a : Option Addr} {n cap : Nat} {l : List Int} (h : SliceR k w a n cap l) (m : Nat) : SliceR k (w.drewN m) a n cap l :=
  h.below (below_drewN (Below.refl _ _) m)

/-- Of a row that the call owns. -/
theorem sliceR_own {k : IntKind} {w : World} {B : Nat} {e : TypeId} {v : Value} {l : List Int} (h : w.ownsRow B e 1 v l.length (numCells k l)) :
    ∃ a cap, v = .slice a l.length cap ∧ SliceR k w a l.length cap l ∧ (∀ x, a = some x → B ≤ x.block) := by
  rcases h.2 with ⟨rfl, hn⟩ | ⟨g, cap, cur, rfl, hB, hg, hnc, hcm, hcs, ht⟩
  · rw [hn]
    exact ⟨none, 0, rfl, ⟨hn, Nat.le_refl _, Nat.zero_le _, fun h => absurd h (by decide), fun h => absurd h (by omega)⟩, fun _ h => by cases h⟩
  · refine ⟨some ⟨g, 0, none⟩, cap, rfl, ⟨rfl, hnc, hcm, fun _ => by simp, fun hn => ⟨g, 0, rfl, (Array.getElem?_eq_some_iff.1 hg).1, fun i hi => ?_⟩⟩, fun x hx => by cases hx; exact hB⟩
    rw [Nat.zero_add, h.cellAt i (by omega), numCells_get k l i hi]

/-- What came in as a row of numbers. -/
def IsRow (k : IntKind) (w : World) (a : Option Addr) (len cap : Nat) (zs : List Int) : Prop :=
  (a = none ∧ len = 0 ∧ cap = 0 ∧ zs = []) ∨
  ∃ x, a = some x ∧ len ≤ cap ∧ cap ≤ maxLen ∧ zs.length = cap ∧ (∀ i, i < zs.length → w.cell? (x.add i) = some (.int k (zs.getD i 0))) ∧ ∀ n ∈ zs, (Lit.int k n).wf = true

theorem sliceR_in {k : IntKind} {w : World} {a : Option Addr} {len cap : Nat} {zs : List Int} (h : IsRow k w a len cap zs) : SliceR k w a len cap (zs.take len) ∧ ∀ n ∈ zs.take len, (Lit.int k n).wf = true := by
  rcases h with ⟨rfl, rfl, rfl, rfl⟩ | ⟨x, rfl, hl, hm, hz, hc, hw⟩
  · exact ⟨⟨rfl, Nat.le_refl _, Nat.zero_le _, fun h => absurd h (by decide), fun h => absurd h (by decide)⟩, fun n hn => by simp at hn⟩
  · refine ⟨⟨by rw [List.length_take]; omega, hl, hm, fun _ => by simp, fun hn => ?_⟩, fun n hn => hw n (List.mem_of_mem_take hn)⟩
    obtain ⟨b, off, rfl, hc'⟩ := ints_at hc (by omega)
    refine ⟨b, off, rfl, World.block_lt_of_cell? w ⟨b, off + 0, none⟩ (hc' 0 (by omega)), fun i hi => ?_⟩
    rw [hc' i (by omega)]
    simp [List.getD_eq_getElem?_getD, hi]

/-- The address behind 's[lo:]'. -/
def slAddr (a : Option Addr) (lo cap : Nat) : Option Addr := if cap = lo then a else a.map (·.add lo)
theorem SliceR.sub {k : IntKind} {w : World} {a : Option Addr} {n cap : Nat} {l : List Int} (h : SliceR k w a n cap l) (lo hi : Nat) (h1 : lo ≤ hi) (h2 : hi ≤ n) :
    SliceR k w (slAddr a lo cap) (hi - lo) (cap - lo) ((l.take hi).drop lo) := by
  obtain ⟨g1, g2, g3, g4, g5⟩ := h
  refine ⟨by rw [List.length_drop, List.length_take]; omega, by omega, by omega, fun hc => ?_, fun hn => ?_⟩
  · rw [slAddr, if_neg (by omega)]
    have := g4 (by omega)
    cases a with
    | none => exact absurd rfl this
    | some x => simp
  · obtain ⟨b, off, rfl, hb, hc⟩ := g5 (by omega)
    refine ⟨b, off + lo, by rw [slAddr, if_neg (by omega), Option.map_some, WideShapes.add_plain], hb, fun i hi' => ?_⟩
    rw [Nat.add_assoc, hc (lo + i) (by omega)]
    simp [List.getD_eq_getElem?_getD, show lo + i < hi by omega]

theorem sliceOp {P : Program} {T E : TypeId} (ht : P.underlying T = some (.slice E)) (he : P.elem T = E) {i0 : TypeInfo} (hi0 : P.info? E = some i0) (hs : i0.size = 1) (a : Option Addr) (n cap lo hi : Nat) (h1 : lo ≤ hi) (h2 : hi ≤ n) (h3 : n ≤ cap) (W : World) :
    (Instr.slice T (.slice a n cap) (some (.int .i64 (lo : Int))) (some (.int .i64 (hi : Int))) none).run P W = .ok (.slice (slAddr a lo cap) (hi - lo) (cap - lo)) W := by
  rw [run_slice_lh W T a n cap (by rw [he]; exact ht) .i64 .i64 lo hi (by omega) (by omega) (by omega), he]
  simp [sizeOf, typeInfo, hi0, hs, Result.andThen, sliced, slAddr]

end Go.Proofs.YtdeboajjhpecbaaDoor.Tx

/- Contract of the reference's Str: the string of a slice of units. -/
set_option linter.unusedVariables false
namespace Go.Proofs.YtdeboajjhpecbaaDoor.Tx
open Go.RowKit

theorem infoInt : (Tryd.prog.info? 3).map (fun i => (i.zero, i.size, i.bytes)) = some (some (.int .i64 0), 1, 8) := by kernel_rfl

/-- The first k units of a string, as numbers. -/
def unitsTo (s : ByteArray) (k : Nat) : List Nat := (List.range k).map (unitAt s)
theorem unitsTo_succ (s : ByteArray) (k : Nat) : unitsTo s (k + 1) = unitsTo s k ++ [unitAt s k] := by simp [unitsTo, List.range_succ]
theorem unitsTo_length (s : ByteArray) (k : Nat) : (unitsTo s k).length = k := by simp [unitsTo]
def ints (l : List Nat) : List Int := l.map Int.ofNat
theorem ints_length (l : List Nat) : (ints l).length = l.length := List.length_map _
theorem ints_append (l m : List Nat) : ints (l ++ m) = ints l ++ ints m := List.map_append
theorem ints_getD (l : List Nat) (i : Nat) : (ints l).getD i 0 = ((l.getD i 0 : Nat) : Int) := by
  by_cases h : i < l.length
  · simp [ints, List.getD_eq_getElem?_getD, List.getElem?_eq_getElem h]
  · simp [ints, List.getD_eq_getElem?_getD, List.getElem?_eq_none (show l.length ≤ i by omega)]

theorem take_snocN (l : List Nat) (k : Nat) (h : k < l.length) : l.take (k + 1) = l.take k ++ [l.getD k 0] := by
  rw [List.take_succ_eq_append_getElem h, List.getD_eq_getElem?_getD, List.getElem?_eq_getElem h]; rfl

set_option maxHeartbeats 4000000 in
set_option maxRecDepth 100000 in
theorem str_any (a : Option Addr) (n cap : Nat) (l : List Nat) (w : World) (h : SliceR .i64 w a n cap (ints l)) (hf : Fits l) (hn : n ≤ 100000000) :
    Calls Tryd.prog 28 #[.slice a n cap] w fun e w' => e = .returned (.string (uS l)) ∧ Below w.heap.size w w' := by
  obtain ⟨i0, hi, hz0, hz1, hz2⟩ := info_parts infoByte
  obtain ⟨h1, h2, h3, h3', h4⟩ := h
  rw [ints_length] at h1
  have hm2 : IntKind.i64.wrap (2 * (n : Int)) = ((2 * n : Nat) : Int) := by rw [IntWalk.i64_in _ (by omega)]; omega
  go_enter Tryd.func28, Tryd.ntmps28
  go_wp2_with (at_make; refine wpList_make_own _ rfl _ _ 82 rfl w.heap.size 5 i0 (.int .u8 0) 1 Tryd.underlying82 hi hz0 hz1 .i64 .i64 _ (2 * n) rfl rfl (by first | rfl | omega) (by rw [hz2]; omega) (by unfold maxLen; omega) (Nat.le_refl _) ?_)
  intro w1 hown1 hg1
  have b1 := (Below.refl w.heap.size w).grown hg1 (Nat.le_refl _) (fun k hk => by cases hk)
  clear hm2
  go_wp2
  go_loopw [3, 4] (fun v i wr => ∃ k : Nat, k ≤ n ∧ i = .int .i64 k ∧ wr.ownsRow w.heap.size 5 1 v (2 * k) (Lib.byteCells (unitsB (l.take k))) ∧ Below w.heap.size w wr) (fun _ i _ => n - (intOf i).toNat)
  case atStart => exact ⟨0, Nat.zero_le _, rfl, hown1, b1⟩
  case round =>
    obtain ⟨k, hk, rfl, hown, hb⟩ := hrel
    by_cases hlt : k < n
    · obtain ⟨b, off, rfl, hbl, hcell⟩ := h4 (by omega)
      have hck := (hb.cell (p := ⟨b, off + k, none⟩) hbl).trans (hcell k hlt)
      rw [ints_getD] at hck
      have hul : l.getD k 0 < 65536 := by
        rw [List.getD_eq_getElem?_getD, List.getElem?_eq_getElem (by omega)]; exact hf _ (List.getElem_mem _)
      have hts := take_snocN l k (by omega)
      obtain ⟨u, hu⟩ : ∃ u, u = l.getD k 0 := ⟨_, rfl⟩
      rw [← hu] at hck hul hts
      have HT := Lib.hid hts
      clear hts h4 hcell h3' h1 hown1 hg1 b1 hu
      have hz := hb.size
      have hk0 : (0 : Int) ≤ (k : Int) := by omega
      have hk1 : (k : Int) < (n : Int) := by omega
      have y0 : (0 : Int) ≤ (u : Int) := by omega
      have hne : ∀ g, u3.ownBlock = some g → b ≠ g := fun g hg => by have := (hown.lt g hg).1; omega
      have hnb : u3.ownBlock ≠ some b := fun hg => hne b hg rfl
      have x1 : IntKind.u8.wrap ((u : Int) / 256) = (u : Int) / 256 := IntWalk.u8_in _ (by omega)
      have x2 : IntKind.u8.wrap ((u : Int) % 256) = (u : Int) % 256 := IntWalk.u8_in _ (by omega)
      have x3 : IntKind.i64.wrap ((u : Int) / 256) = (u : Int) / 256 := IntWalk.i64_in _ (by omega)
      have x4 : (u : Int).tdiv 256 = (u : Int) / 256 := Int.tdiv_eq_ediv_of_nonneg y0
      have x5 : (u : Int).tmod 256 = (u : Int) % 256 := Int.tmod_eq_emod_of_nonneg y0
      go_wp2_with fail
      go_region_held3 (fun w' => w'.cell? ⟨b, off + k, none⟩ = some (.int .i64 u)) (first | go_keep | (rw [hgrow.cell_far _ (by simp; omega) (Ne.symm hnb)]; assumption))
        ((refine step_append_lies _ (by rfl) _ _ _ (by rfl) w.heap.size 5 i0 _ 1 1 Tryd.underlying82 hi hz0 hz1 hz2 rfl (by omega) u3 (2 * k) _ (by rfl) ((hown.alloc _).drew) ⟨wr.heap.size, 0, none⟩ 2 2 [.int .u8 ((u : Int) / 256), .int .u8 ((u : Int) % 256)] (by rfl) (by rfl) (World.news_of_block (cs := #[.int .u8 ((u : Int) / 256), .int .u8 ((u : Int) % 256)]) (t := 5) (fr := (0, 0)) (heap_alloc_new wr _)) (by simp [Value.oneCell']) (by omega) (by unfold maxLen; omega) (by omega) (by simp; omega) (wr.heap.size + 1) (by simp) ?_; intro gg cap w1 hown1 hgrow hat hlt))
      all_goals
        have hb2 := ((hb.alloc hz (.cells #[.int .u8 ((u : Int) / 256), .int .u8 ((u : Int) % 256)] 5)).drew).grown hgrow (by simp; omega) (fun k' hk' => ((hown.alloc (.cells #[.int .u8 ((u : Int) / 256), .int .u8 ((u : Int) % 256)] 5)).lt k' hk').1)
        clear x1 x2 x3 x4 x5
        go_wp2
        go_roundw
        case rel =>
          refine ⟨k + 1, by omega, by go_num, ?_, hb2⟩
          rw [HT.out, unitsB_append, show unitsB [u] = unitB u from List.append_nil _]
          have := byteCells_unit (unitsB (l.take k)) (u : Int) y0 (by omega)
          rw [Int.toNat_natCast, List.append_assoc] at this
          rw [this]
          exact hown1
        case measure => simp [intOf]; omega
    · have hk2 : k = n := by omega
      have t1 : decide ((k : Int) < (n : Int)) = false := by simp; omega
      have hcv := conv_own _ _ _ _ _ hown
      rw [List.take_of_length_le (by omega)] at hcv
      clear hk2
      go_wp2
      go_ret
      exact ⟨rfl, hb⟩

end Go.Proofs.YtdeboajjhpecbaaDoor.Tx

/- Contract of the reference's List: the units of a string as a new row. -/
set_option linter.unusedVariables false
namespace Go.Proofs.YtdeboajjhpecbaaDoor.Tx
open Go.RowKit

/-- A new row of the call's own that holds these numbers. -/
def NewInts (B : Nat) (w : World) (l : List Nat) (e : Ending) (w' : World) : Prop :=
  ∃ v, e = .returned v ∧ w'.ownsRow B 3 1 v l.length (numCells .i64 (ints l)) ∧ Below B w w'

end Go.Proofs.YtdeboajjhpecbaaDoor.Tx

/- Contract of the statements' Str: the string of a slice of units; what such a slice is when it comes in. -/
set_option linter.unusedVariables false
namespace Go.Proofs.YtdeboajjhpecbaaDoor.Tx
open Go.RowKit

/-- A slice of units that came in. -/
theorem units_in {w : World} {a : Option Addr} {n cap : Nat} {zs : List Int} (h : IsRow .u16 w a n cap zs) : ∃ l : List Nat, SliceR .u16 w a n cap (ints l) ∧ Fits l ∧ l.length = n := by
  obtain ⟨h1, h2⟩ := sliceR_in h
  have hl : ints ((zs.take n).map Int.toNat) = zs.take n := by
    unfold ints
    rw [List.map_map]
    conv => rhs; rw [← List.map_id (zs.take n)]
    refine List.map_congr_left fun z hz => ?_
    have := bounds_u16 (h2 z hz)
    show Int.ofNat z.toNat = z
    simp; omega
  refine ⟨(zs.take n).map Int.toNat, by rw [hl]; exact h1, ?_, by have := h1.1; rw [List.length_map]; exact this⟩
  intro u hu
  obtain ⟨z, hz, rfl⟩ := List.mem_map.1 hu
  have := bounds_u16 (h2 z hz)
  omega

theorem unitsTo_uS (l : List Nat) (hf : Fits l) : unitsTo (uS l) ((uS l).size / 2) = l := by
  rw [uS_size, show 2 * l.length / 2 = l.length by omega]
  apply List.ext_getElem
  · rw [unitsTo_length]
  · intro i h1 h2
    simp only [unitsTo, List.getElem_map, List.getElem_range]
    rw [unitAt_uS l hf, List.getD_eq_getElem?_getD, List.getElem?_eq_getElem h2]
    rfl

theorem uS_append (l m : List Nat) : uS l ++ uS m = uS (l ++ m) := by
  unfold uS; rw [unitsB_append]; exact app_s _ _

theorem uS_extract (l : List Nat) (lo hi : Nat) (h1 : lo ≤ hi) (h2 : hi ≤ l.length) : (uS l).extract (2 * lo) (2 * hi) = uS ((l.take hi).drop lo) := by
  have key : ∀ (m : List Nat) (k : Nat), (unitsB m).take (2 * k) = unitsB (m.take k) ∧ (unitsB m).drop (2 * k) = unitsB (m.drop k) := by
    intro m
    induction m with
    | nil => intro k; simp [unitsB]
    | cons u m ih =>
      intro k
      cases k with
      | zero => simp [unitsB]
      | succ k =>
        rw [show 2 * (k + 1) = 2 * k + 1 + 1 by omega, unitsB_cons]
        have := ih k
        exact ⟨by rw [List.take_succ_cons, unitsB_cons]; simp [unitB, this.1], by rw [List.drop_succ_cons]; simp [unitB, this.2]⟩
  have hd : ((uS l).extract (2 * lo) (2 * hi)).data.toList = unitsB ((l.take hi).drop lo) := by
    rw [Lib.extract_data]
    show ((unitsB l).drop (2 * lo)).take (2 * hi - 2 * lo) = _
    rw [(key l lo).2, show 2 * hi - 2 * lo = 2 * (hi - lo) by omega, (key _ _).1, List.drop_take]
  apply ByteArray.ext
  apply Array.toList_inj.1
  rw [hd]
  rfl

end Go.Proofs.YtdeboajjhpecbaaDoor.Tx

/- Contracts of the reference's Compare and Index, and of text.Compare and text.Sub. -/
set_option linter.unusedVariables false
namespace Go.Proofs.YtdeboajjhpecbaaDoor.Tx
open Go.RowKit

def cmpL : List Nat → List Nat → Int
  | [], [] => 0
  | [], _ :: _ => -1
  | _ :: _, [] => 1
  | x :: a, y :: b => if x < y then -1 else if y < x then 1 else cmpL a b

theorem cmpL_nil_left (b : List Nat) : cmpL [] b = if 0 < b.length then -1 else 0 := by cases b <;> simp [cmpL]
theorem cmpL_nil_right (a : List Nat) : cmpL a [] = if 0 < a.length then 1 else 0 := by cases a <;> simp [cmpL]
theorem cmpL_drop (a b : List Nat) (k : Nat) (ha : k < a.length) (hb : k < b.length) :
    cmpL (a.drop k) (b.drop k) = if a.getD k 0 < b.getD k 0 then -1 else if b.getD k 0 < a.getD k 0 then 1 else cmpL (a.drop (k + 1)) (b.drop (k + 1)) := by
  rw [List.drop_eq_getElem_cons ha, List.drop_eq_getElem_cons hb, cmpL]
  simp [List.getD_eq_getElem?_getD, List.getElem?_eq_getElem ha, List.getElem?_eq_getElem hb]

/-- A cell of a slice of numbers. -/
theorem SliceR.at {k : IntKind} {w : World} {a : Option Addr} {n cap : Nat} {l : List Nat} (h : SliceR k w a n cap (ints l)) (hn : 0 < n) :
    ∃ b off, a = some ⟨b, off, none⟩ ∧ ∀ i, i < n → w.cell? ⟨b, off + i, none⟩ = some (.int k ((l.getD i 0 : Nat) : Int)) := by
  obtain ⟨_, _, _, _, h4⟩ := h
  obtain ⟨b, off, e, _, hc⟩ := h4 hn
  exact ⟨b, off, e, fun i hi => by rw [hc i hi, ints_getD]⟩

theorem compareBytes_units (a b : List Nat) (ha : Fits a) (hb : Fits b) : Lib.compareBytes (unitsB a) (unitsB b) = cmpL a b := by
  induction a generalizing b with
  | nil =>
    cases b with
    | nil => rfl
    | cons y b => rfl
  | cons x a ih =>
    cases b with
    | nil => rfl
    | cons y b =>
      have hx := ha x (List.mem_cons_self ..)
      have hy := hb y (List.mem_cons_self ..)
      have ih' := ih b (fun u hu => ha u (List.mem_cons_of_mem _ hu)) (fun u hu => hb u (List.mem_cons_of_mem _ hu))
      have n1 : (UInt8.ofNat (x / 256)).toNat = x / 256 := by rw [UInt8.toNat_ofNat']; omega
      have n2 : (UInt8.ofNat (x % 256)).toNat = x % 256 := by rw [UInt8.toNat_ofNat']; omega
      have n3 : (UInt8.ofNat (y / 256)).toNat = y / 256 := by rw [UInt8.toNat_ofNat']; omega
      have n4 : (UInt8.ofNat (y % 256)).toNat = y % 256 := by rw [UInt8.toNat_ofNat']; omega
      rw [unitsB_cons, unitsB_cons, cmpL]
      show Lib.compareBytes (UInt8.ofNat (x / 256) :: UInt8.ofNat (x % 256) :: unitsB a) (UInt8.ofNat (y / 256) :: UInt8.ofNat (y % 256) :: unitsB b) = _
      rw [Lib.compareBytes, Lib.compareBytes, ih']
      simp only [UInt8.lt_iff_toNat_lt, n1, n2, n3, n4]
      by_cases h1 : x / 256 < y / 256
      · rw [if_pos h1, if_pos (by omega)]
      · rw [if_neg h1]
        by_cases h2 : y / 256 < x / 256
        · rw [if_pos h2, if_neg (by omega), if_pos (by omega)]
        · rw [if_neg h2]
          by_cases h3 : x % 256 < y % 256
          · rw [if_pos h3, if_pos (by omega)]
          · rw [if_neg h3]
            by_cases h4 : y % 256 < x % 256
            · rw [if_pos h4, if_neg (by omega), if_pos (by omega)]
            · rw [if_neg h4, if_neg (by omega), if_neg (by omega)]

/-- The bounds of Sub. -/
def subTo (n : Nat) (to : Int) : Nat := (min (max to 0) (n : Int)).toNat
def subFrom (n : Nat) (fr to : Int) : Nat := (min (max fr 0) ((subTo n to : Nat) : Int)).toNat
theorem subTo_le (n : Nat) (to : Int) : subTo n to ≤ n := by unfold subTo; omega
theorem subFrom_le (n : Nat) (fr to : Int) : subFrom n fr to ≤ subTo n to := by unfold subFrom; omega
theorem subTo_eq (n : Nat) (to : Int) : min (max to 0) (n : Int) = (subTo n to : Int) := by unfold subTo; omega
theorem subFrom_eq (n : Nat) (fr to : Int) : min (max fr 0) (subTo n to : Int) = (subFrom n fr to : Int) := by unfold subFrom; omega

set_option maxHeartbeats 1000000 in
theorem sub_any (s : ByteArray) (fr to : Int) (w : World) (hs : s.size ≤ 9223372036854775807) :
    Calls Tryd.prog 51 #[.string s, .int .i64 fr, .int .i64 to] w fun e w' =>
      e = .returned (.string (s.extract (2 * subFrom (s.size / 2) fr to) (2 * subTo (s.size / 2) to))) ∧ w = w' := by
  obtain ⟨n, hn⟩ : ∃ n, n = s.size / 2 := ⟨_, rfl⟩
  have Hn := Lib.hid hn
  have q1 := subTo_le n to
  have q2 := subFrom_le n fr to
  have q3 : 2 * n ≤ s.size := by omega
  have e1 := subTo_eq n to
  have e2 := subFrom_eq n fr to
  rw [← hn]
  generalize subTo n to = T at *
  generalize subFrom n fr to = F at *
  have m1 : IntKind.i64.wrap (2 * (F : Int)) = 2 * (F : Int) := IntWalk.i64_in _ (by omega)
  have m2 : IntKind.i64.wrap (2 * (T : Int)) = 2 * (T : Int) := IntWalk.i64_in _ (by omega)
  have r1 : 0 ≤ 2 * (F : Int) := by omega
  have r2 : 2 * (F : Int) ≤ 2 * (T : Int) := by omega
  have r3 : 2 * (T : Int) ≤ (s.size : Int) := by omega
  have r4 : (2 * (F : Int)).toNat = 2 * F := by omega
  have r5 : (2 * (T : Int)).toNat = 2 * T := by omega
  clear hn
  go_enter Tryd.func51, Tryd.ntmps51
  go_wp2_with (go_at_call 50; refine (len_n _ n _ hs Hn).mono ?_; rintro e w' ⟨rfl, rfl⟩)
  go_ret
  exact ⟨rfl, rfl⟩

end Go.Proofs.YtdeboajjhpecbaaDoor.Tx

/- Contract of the reference's Index: it is the number of a place as text.Index has it. -/
set_option linter.unusedVariables false
namespace Go.Proofs.YtdeboajjhpecbaaDoor.Tx
open Go.RowKit

theorem idxValL_lt (l : List Nat) (k v : Nat) (h : idxValL l k = some v) : v < 10 ^ k := by
  induction k generalizing v with
  | zero => simp [idxValL] at h; omega
  | succ k ih =>
    rw [idxValL] at h
    cases e : idxValL l k with
    | none => rw [e] at h; cases h
    | some x =>
      rw [e] at h
      simp only [] at h
      by_cases hd : 48 ≤ l.getD k 0 ∧ l.getD k 0 ≤ 57
      · rw [if_pos hd] at h
        have := ih x e
        injection h with h
        rw [Nat.pow_succ]; omega
      · rw [if_neg hd] at h; cases h

/-- A number told by at least four digits without a 0 ahead is at least 1000. -/
theorem idxValL_ge (l : List Nat) (k v : Nat) (h : idxValL l (k + 1) = some v) (h0 : l.getD 0 0 ≠ 48) : 10 ^ k ≤ v := by
  induction k generalizing v with
  | zero =>
    rw [idxValL, idxValL] at h
    simp only [] at h
    by_cases hd : 48 ≤ l.getD 0 0 ∧ l.getD 0 0 ≤ 57
    · rw [if_pos hd] at h; injection h with h; simp; omega
    · rw [if_neg hd] at h; cases h
  | succ k ih =>
    rw [idxValL] at h
    cases e : idxValL l (k + 1) with
    | none => rw [e] at h; cases h
    | some x =>
      rw [e] at h
      simp only [] at h
      by_cases hd : 48 ≤ l.getD (k + 1) 0 ∧ l.getD (k + 1) 0 ≤ 57
      · rw [if_pos hd] at h
        have := ih x e
        injection h with h
        rw [Nat.pow_succ]; omega
      · rw [if_neg hd] at h; cases h

theorem idxL_long (l : List Nat) (h : 3 < l.length) : idxL l = -1 := by
  unfold idxL
  by_cases hc : l.length = 0 ∨ 5 < l.length ∨ 1 < l.length ∧ l.getD 0 0 = 48
  · rw [if_pos hc]
  · rw [if_neg hc]
    cases e : idxValL l l.length with
    | none => rfl
    | some v =>
      have h1 := idxValL_ge l (l.length - 1) v (by rw [show l.length - 1 + 1 = l.length by omega]; exact e) (fun h0 => hc (.inr (.inr ⟨by omega, h0⟩)))
      have h2 : 10 ^ 3 ≤ 10 ^ (l.length - 1) := Nat.pow_le_pow_right (by decide) (by omega)
      show (if 1000 ≤ v then -1 else (v : Int)) = -1
      rw [if_pos (by omega)]

theorem idxValL_none (l : List Nat) (k n : Nat) (h : idxValL l k = none) (hn : k ≤ n) : idxValL l n = none := by
  induction n with
  | zero => have : k = 0 := by omega
            subst this; exact h
  | succ n ih =>
    by_cases he : k = n + 1
    · subst he; exact h
    · rw [idxValL, ih (by omega)]

end Go.Proofs.YtdeboajjhpecbaaDoor.Tx

/- Contracts of text's functions at strings that are written as lists of units. -/
set_option linter.unusedVariables false
namespace Go.Proofs.YtdeboajjhpecbaaDoor.Tx
open Go.RowKit

theorem index_uS (l : List Nat) (hl : Fits l) (w : World) (hn : l.length ≤ 100000000) :
    Calls Tryd.prog 56 #[.string (uS l)] w fun e w' => e = .returned (.int .i64 (idxL l)) ∧ ∃ n, w' = w.drewN n := by
  have := index_any (uS l) w (by rw [uS_size]; omega)
  rw [indexOf_uS l hl] at this
  exact this

theorem sub_uS (l : List Nat) (n : Nat) (fr to : Int) (w : World) (hn : l.length = n) (hn2 : n ≤ 100000000) :
    Calls Tryd.prog 51 #[.string (uS l), .int .i64 fr, .int .i64 to] w fun e w' => e = .returned (.string (uS ((l.take (subTo n to)).drop (subFrom n fr to)))) ∧ w = w' := by
  have := sub_any (uS l) fr to w (by rw [uS_size]; omega)
  rw [uS_size, show 2 * l.length / 2 = n by omega, uS_extract l _ _ (subFrom_le n fr to) (by rw [hn]; exact subTo_le n to)] at this
  exact this

theorem sub_uS' (l : List Nat) (n : Nat) (fr to : Int) (T F : Nat) (w : World) (hn : Hid (l.length = n)) (hn2 : n ≤ 100000000) (hT : Hid (subTo n to = T)) (hF : Hid (subFrom n fr to = F)) :
    Calls Tryd.prog 51 #[.string (uS l), .int .i64 fr, .int .i64 to] w fun e w' => e = .returned (.string (uS ((l.take T).drop F))) ∧ w = w' := by
  have := sub_uS l n fr to w hn.out hn2
  rw [hT.out, hF.out] at this
  exact this

end Go.Proofs.YtdeboajjhpecbaaDoor.Tx

/- Contract of text.Val; when the bytes of two strings compare as equal. -/
set_option linter.unusedVariables false
namespace Go.Proofs.YtdeboajjhpecbaaDoor.Tx
open Go.RowKit

theorem compareBytes_zero (a b : List UInt8) : Lib.compareBytes a b = 0 ↔ a = b := by
  induction a generalizing b with
  | nil => cases b <;> simp [Lib.compareBytes]
  | cons x a ih =>
    cases b with
    | nil => simp [Lib.compareBytes]
    | cons y b =>
      rw [Lib.compareBytes]
      by_cases h1 : x < y
      · rw [if_pos h1]
        have : x ≠ y := fun h => by subst h; exact absurd h1 (by simp)
        simp [this]
      · rw [if_neg h1]
        by_cases h2 : y < x
        · rw [if_pos h2]
          have : x ≠ y := fun h => by subst h; exact absurd h2 (by simp)
          simp [this]
        · rw [if_neg h2, ih]
          have : x = y := UInt8.toNat_inj.1 (by rw [UInt8.lt_iff_toNat_lt] at h1 h2; omega)
          simp [this]

set_option maxHeartbeats 1000000 in
theorem val_any (s : ByteArray) (w : World) (hs : s.size ≤ 17592186044416) :
    Calls Tryd.prog 20 #[.string s] w fun e w' => e = .returned (.agg #[.int .i64 7, .int .i64 0, .string ⟨(ofB s).toArray⟩]) ∧ Below w.heap.size w w' := by
  go_enter Tryd.func20, Tryd.ntmps20
  go_wp2_with fail
  refine (of_any s _ hs).mono ?_
  rintro e w1 ⟨rfl, b1⟩
  obtain ⟨hc, hf⟩ := bcell b1
  have hz : w.heap.size < w1.heap.size := by have := b1.size; simp at this; omega
  go_wp2
  refine bodyPost_ret (v := .agg #[.int .i64 7, .int .i64 0, .string ⟨(ofB s).toArray⟩]) (by simp [results, Tryd.results20, go_sem, hc]) rfl ⟨rfl, ?_⟩
  exact ((((((Below.refl _ _).alloc (Nat.le_refl _) _).trans (b1.mono (by simp))).setCell (p := ⟨w.heap.size, 0, none⟩) (Nat.le_refl _) _)).setCell (p := ⟨w.heap.size, 1, none⟩) (Nat.le_refl _) _).setCell (p := ⟨w.heap.size, 2, none⟩) (Nat.le_refl _) _

end Go.Proofs.YtdeboajjhpecbaaDoor.Tx
