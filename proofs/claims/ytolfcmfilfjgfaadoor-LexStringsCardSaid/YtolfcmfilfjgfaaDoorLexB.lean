/- Blanks and comments: what 'blank' computes, over the bytes that are left; its contract. -/
import Derived.Test.YtolfcmfilfjgfaaDoorLexA
set_option linter.unusedVariables false
set_option linter.unusedSimpArgs false
namespace Go.Proofs.YtolfcmfilfjgfaaDoor
open Go.RowKit

def spB (b : UInt8) : Bool := b == 32 || b == 9 || b == 10 || b == 13
/-- How many bytes of blanks and comments stand ahead (the first 'k' are passed over); false: a comment has no end. -/
def blkL : Nat → List UInt8 → Nat × Bool
  | _, [] => (0, true)
  | k + 1, _ :: r => ((blkL k r).1 + 1, (blkL k r).2)
  | 0, b :: r =>
    if spB b then ((blkL 0 r).1 + 1, (blkL 0 r).2)
    else if Lib.hasPrefix (b :: r) [47, 47] then
      if Lib.indexByte (b :: r) 10 < 0 then ((b :: r).length, true) else ((blkL (Lib.indexByte (b :: r) 10).toNat r).1 + 1, (blkL (Lib.indexByte (b :: r) 10).toNat r).2)
    else if Lib.hasPrefix (b :: r) [47, 42] then
      if Lib.index (r.drop 1) [42, 47] < 0 then (0, false) else ((blkL ((Lib.index (r.drop 1) [42, 47]).toNat + 3) r).1 + 1, (blkL ((Lib.index (r.drop 1) [42, 47]).toNat + 3) r).2)
    else (0, true)
theorem blk_skip (k : Nat) : ∀ (r : List UInt8), k ≤ r.length → blkL k r = (k + (blkL 0 (r.drop k)).1, (blkL 0 (r.drop k)).2) := by
  induction k with
  | zero => intro r _; simp
  | succ k ih =>
    intro r h
    cases r with
    | nil => simp at h
    | cons b r =>
      rw [blkL, ih r (by simpa using h)]
      simp only [List.drop_succ_cons]
      rw [Nat.add_right_comm]
theorem blk_sp (b : UInt8) (r : List UInt8) (h : spB b = true) : blkL 0 (b :: r) = ((blkL 0 r).1 + 1, (blkL 0 r).2) := by rw [blkL, if_pos h]
theorem blk_end (b : UInt8) (r : List UInt8) (h : spB b = false) (h2 : Lib.hasPrefix (b :: r) [47, 47] = true) (hi : Lib.indexByte (b :: r) 10 < 0) : blkL 0 (b :: r) = ((b :: r).length, true) := by
  rw [blkL, if_neg (by simp [h]), if_pos h2, if_pos hi]
theorem blk_line (b : UInt8) (r : List UInt8) (i : Nat) (h : spB b = false) (h2 : Lib.hasPrefix (b :: r) [47, 47] = true) (hi : Lib.indexByte (b :: r) 10 = i) (hl : i ≤ r.length) :
    blkL 0 (b :: r) = (i + 1 + (blkL 0 ((b :: r).drop (i + 1))).1, (blkL 0 ((b :: r).drop (i + 1))).2) := by
  rw [blkL, if_neg (by simp [h]), if_pos h2, if_neg (by omega), hi, Int.toNat_natCast, blk_skip i r hl]
  simp only [List.drop_succ_cons]
  rw [Nat.add_right_comm]
theorem blk_bad (b : UInt8) (r : List UInt8) (h : spB b = false) (h2 : Lib.hasPrefix (b :: r) [47, 47] = false) (h3 : Lib.hasPrefix (b :: r) [47, 42] = true) (hi : Lib.index ((b :: r).drop 2) [42, 47] < 0) : blkL 0 (b :: r) = (0, false) := by
  rw [blkL, if_neg (by simp [h]), if_neg (by simp [h2]), if_pos h3, if_pos (by simpa using hi)]
theorem blk_com (b : UInt8) (r : List UInt8) (i : Nat) (h : spB b = false) (h2 : Lib.hasPrefix (b :: r) [47, 47] = false) (h3 : Lib.hasPrefix (b :: r) [47, 42] = true) (hi : Lib.index ((b :: r).drop 2) [42, 47] = i) (hl : i + 3 ≤ r.length) :
    blkL 0 (b :: r) = (i + 4 + (blkL 0 ((b :: r).drop (i + 4))).1, (blkL 0 ((b :: r).drop (i + 4))).2) := by
  have hi' : Lib.index (r.drop 1) [42, 47] = i := by simpa using hi
  rw [blkL, if_neg (by simp [h]), if_neg (by simp [h2]), if_pos h3, if_neg (by omega), hi', Int.toNat_natCast, blk_skip (i + 3) r hl]
  simp only [List.drop_succ_cons]
  rw [Nat.add_right_comm]
theorem blk_stop (b : UInt8) (r : List UInt8) (h : spB b = false) (h2 : Lib.hasPrefix (b :: r) [47, 47] = false) (h3 : Lib.hasPrefix (b :: r) [47, 42] = false) : blkL 0 (b :: r) = (0, true) := by
  rw [blkL, if_neg (by simp [h]), if_neg (by simp [h2]), if_neg (by simp [h3])]

theorem ext_drop (s : ByteArray) (k : Nat) : (s.extract k s.size).data.toList = s.data.toList.drop k := by
  obtain ⟨⟨l⟩⟩ := s
  rw [ByteArray.extract_mk]
  show (l.drop k).take (l.length - k) = l.drop k
  exact List.take_of_length_le (by simp)
theorem ext_piece (s : ByteArray) (i j : Nat) : (s.extract i j).data.toList = (s.data.toList.drop i).take (j - i) := by
  obtain ⟨⟨l⟩⟩ := s
  rw [ByteArray.extract_mk]
theorem drop_at (s : ByteArray) (k : Nat) (h : k < s.size) : s.data.toList.drop k = s[k] :: s.data.toList.drop (k + 1) := List.drop_eq_getElem_cons (by simpa using h)
theorem len_of (s : ByteArray) : s.data.toList.length = s.size := by simp
theorem pre_k (s p : ByteArray) (k : Nat) (g : Bool) (h : Lib.hasPrefix (s.data.toList.drop k) p.data.toList = g) (w : World) :
    Calls Tryd.prog 12 #[.string (s.extract k s.size), .string p] w fun e w' => e = .returned (.bool g) ∧ w = w' := by
  refine (Tryd.strings_HasPrefix _ _ _).mono ?_
  rintro e w' ⟨rfl, rfl⟩
  exact ⟨by rw [ext_drop, h], rfl⟩
theorem byte_k (s : ByteArray) (k : Nat) (c : UInt8) (cz : Int) (hc : cz = c.toNat) (z : Int) (h : Lib.indexByte (s.data.toList.drop k) c = z) (w : World) :
    Calls Tryd.prog 13 #[.string (s.extract k s.size), .int .u8 cz] w fun e w' => e = .returned (.int .i64 z) ∧ w = w' := by
  refine (Tryd.strings_IndexByte _ _ _).mono ?_
  rintro e w' ⟨rfl, rfl⟩
  subst hc
  exact ⟨by rw [ext_drop, show ((c.toNat : Int)).toNat.toUInt8 = c by simp, h], rfl⟩
theorem index_k (s p : ByteArray) (k : Nat) (z m : Int) (hs : s.size ≤ 16384) (h : Lib.index (s.data.toList.drop k) p.data.toList = z) (w : World) (hm : w.cell? ⟨1, 0, none⟩ = some (.int .i64 m)) :
    Calls Tryd.prog 14 #[.string (s.extract k s.size), .string p] w fun e w' => e = .returned (.int .i64 z) ∧ w = w' := by
  refine (Tryd.strings_Index _ _ m _ (by rw [ByteArray.size_extract]; omega) hm).mono ?_
  rintro e w' ⟨rfl, rfl⟩
  exact ⟨by rw [ext_drop, h], rfl⟩
theorem spB_eq (b : UInt8) : spB b = ((((b.toNat : Int) == 32) || ((b.toNat : Int) == 9)) || ((b.toNat : Int) == 10) || ((b.toNat : Int) == 13)) := by
  unfold spB
  rw [u8_eq, u8_eq, u8_eq, u8_eq]; rfl
theorem index_in : ∀ (l sub : List UInt8) (i : Nat), Lib.index l sub = i → i + sub.length ≤ l.length
  | [], sub, i, h => by
    cases sub with
    | nil => simp [Lib.index] at h; simp; omega
    | cons a t => simp [Lib.index] at h
  | b :: l, sub, i, h => by
    unfold Lib.index at h
    split at h
    · rename_i hp
      have := (List.isPrefixOf_iff_prefix.1 hp).length_le
      omega
    · split at h
      · omega
      · rename_i h1 h2
        have hg := Lib.index_ge l sub
        have h2' : Lib.index l sub ≠ -1 := by simpa using h2
        have := index_in l sub (i - 1) (by omega)
        simp only [List.length_cons]; omega
theorem indexByte_in (l : List UInt8) (c : UInt8) (i : Nat) (h : Lib.indexByte l c = i) : i < l.length := (List.getElem?_eq_some_iff.1 (Lib.indexByte_some h).1).1

set_option maxHeartbeats 1000000 in
theorem blank_any (s : ByteArray) (a : Nat) (m : Int) (w : World) (ha : a ≤ s.size) (hs : s.size ≤ 16384) (hm : w.cell? ⟨1, 0, none⟩ = some (.int .i64 m)) :
    Calls Tryd.prog 10 #[.string s, .int .i64 a] w fun e w' => e = .returned (.tuple #[.int .i64 ((a + (blkL 0 (s.data.toList.drop a)).1 : Nat) : Int), .bool (blkL 0 (s.data.toList.drop a)).2]) ∧ w = w' := by
  have hlen := len_of s
  go_enter Tryd.func10, Tryd.ntmps10
  go_wp2_with fail
  go_loop [1] (fun v => ∃ k : Nat, k ≤ s.size ∧ v = .int .i64 k ∧ k + (blkL 0 (s.data.toList.drop k)).1 = a + (blkL 0 (s.data.toList.drop a)).1 ∧ (blkL 0 (s.data.toList.drop k)).2 = (blkL 0 (s.data.toList.drop a)).2) (fun v => s.size - (intOf v).toNat)
  case atStart => exact ⟨a, ha, rfl, rfl, rfl⟩
  case round =>
    obtain ⟨k, hk, rfl, h1, h2⟩ := hrel
    have H1 := Lib.hid h1
    have H2 := Lib.hid h2
    clear h1 h2
    by_cases hl : k < s.size
    · have L1 : decide ((k : Int) < (s.size : Int)) = true := by simpa using hl
      have hd := drop_at s k hl
      have hsp := spB_eq s[k]
      have x0 : (0 : Int) ≤ k := by omega
      have x1 : (k : Int) < s.size := by omega
      have x2 : (k : Int).toNat = k := by omega
      obtain ⟨g1, e1⟩ : ∃ g, ((s[k].toNat : Int) == 32) = g := ⟨_, rfl⟩
      obtain ⟨g2, e2⟩ : ∃ g, ((s[k].toNat : Int) == 9) = g := ⟨_, rfl⟩
      obtain ⟨g3, e3⟩ : ∃ g, ((s[k].toNat : Int) == 10) = g := ⟨_, rfl⟩
      obtain ⟨g4, e4⟩ : ∃ g, ((s[k].toNat : Int) == 13) = g := ⟨_, rfl⟩
      rw [e1, e2, e3, e4] at hsp
      have HD := Lib.hid hd
      clear hd
      cases hq : (((g1 || g2) || g3) || g4)
      · rw [hq] at hsp
        have HS := Lib.hid hsp
        clear hsp
        simp only [Bool.or_eq_false_iff] at hq
        obtain ⟨⟨⟨rfl, rfl⟩, rfl⟩, rfl⟩ := hq
        obtain ⟨p1, q1⟩ : ∃ g, Lib.hasPrefix (s.data.toList.drop k) [47, 47] = g := ⟨_, rfl⟩
        have Q1 := Lib.hid q1
        clear q1
        cases p1
        · obtain ⟨p2, q2⟩ : ∃ g, Lib.hasPrefix (s.data.toList.drop k) [47, 42] = g := ⟨_, rfl⟩
          have Q2 := Lib.hid q2
          clear q2
          cases p2
          · go_wp2_with fail
            refine (pre_k s _ k false Q1.out _).mono ?_
            rintro e w' ⟨rfl, rfl⟩
            go_wp2_with fail
            refine (pre_k s _ k false Q2.out _).mono ?_
            rintro e w' ⟨rfl, rfl⟩
            go_wp2
            go_ret2
            refine ⟨?_, rfl⟩
            have hb := blk_stop _ _ HS.out (HD.out ▸ Q1.out) (HD.out ▸ Q2.out)
            rw [← HD.out] at hb
            rw [← H1.out, ← H2.out, hb]; rfl
          · obtain ⟨z, hz⟩ : ∃ z, Lib.index (s.data.toList.drop (k + 2)) [42, 47] = z := ⟨_, rfl⟩
            have hl2 : k + 2 ≤ s.size := by
              have := (List.isPrefixOf_iff_prefix.1 Q2.out).length_le
              simp at this; omega
            have a2 : IntKind.i64.wrap ((k : Int) + 2) = ((k + 2 : Nat) : Int) := by rw [IntWalk.i64_in _ (by omega)]; rfl
            have y0 : (0 : Int) ≤ ((k + 2 : Nat) : Int) := by omega
            have y1 : ((k + 2 : Nat) : Int) ≤ s.size := by omega
            have y2 : ((k + 2 : Nat) : Int).toNat = k + 2 := by omega
            have HZ := Lib.hid hz
            clear hz
            by_cases hzn : z < 0
            · have L2 : decide (z < 0) = true := by simpa using hzn
              go_wp2_with fail
              refine (pre_k s _ k false Q1.out _).mono ?_
              rintro e w' ⟨rfl, rfl⟩
              go_wp2_with fail
              refine (pre_k s _ k true Q2.out _).mono ?_
              rintro e w' ⟨rfl, rfl⟩
              go_wp2_with fail
              refine (index_k s _ (k + 2) z m hs HZ.out _ hm).mono ?_
              rintro e w' ⟨rfl, rfl⟩
              go_wp2
              go_ret2
              refine ⟨?_, rfl⟩
              have hb := blk_bad _ _ HS.out (HD.out ▸ Q1.out) (HD.out ▸ Q2.out) (by rw [← HD.out, List.drop_drop, HZ.out]; exact hzn)
              rw [← HD.out] at hb
              rw [← H1.out, ← H2.out, hb]; rfl
            · obtain ⟨i, rfl⟩ := Int.eq_ofNat_of_zero_le (show 0 ≤ z by omega)
              have hil := index_in _ _ i HZ.out
              simp only [List.length_drop, hlen, List.length_cons, List.length_nil] at hil
              have L2 : decide ((i : Int) < 0) = false := by simp
              have a3 : IntKind.i64.wrap ((i : Int) + 4) = ((i + 4 : Nat) : Int) := by rw [IntWalk.i64_in _ (by omega)]; rfl
              have a4 : IntKind.i64.wrap ((k : Int) + ((i + 4 : Nat) : Int)) = ((k + (i + 4) : Nat) : Int) := by rw [IntWalk.i64_in _ (by omega)]; omega
              go_wp2_with fail
              refine (pre_k s _ k false Q1.out _).mono ?_
              rintro e w' ⟨rfl, rfl⟩
              go_wp2_with fail
              refine (pre_k s _ k true Q2.out _).mono ?_
              rintro e w' ⟨rfl, rfl⟩
              go_wp2_with fail
              refine (index_k s _ (k + 2) _ m hs HZ.out _ hm).mono ?_
              rintro e w' ⟨rfl, rfl⟩
              go_wp2
              go_round
              have hb := blk_com _ _ i HS.out (HD.out ▸ Q1.out) (HD.out ▸ Q2.out) (by rw [← HD.out, List.drop_drop]; exact HZ.out) (by rw [List.length_drop, hlen]; omega)
              rw [← HD.out, List.drop_drop] at hb
              case rel => exact ⟨k + (i + 4), by omega, rfl, by rw [← H1.out, hb]; simp only; omega, by rw [← H2.out, hb]⟩
              case measure => simp only [intOf]; omega
        · obtain ⟨z, hz⟩ : ∃ z, Lib.indexByte (s.data.toList.drop k) 10 = z := ⟨_, rfl⟩
          have HZ := Lib.hid hz
          clear hz
          by_cases hzn : z < 0
          · have L2 : decide (z < 0) = true := by simpa using hzn
            go_wp2_with fail
            refine (pre_k s _ k true Q1.out _).mono ?_
            rintro e w' ⟨rfl, rfl⟩
            go_wp2_with fail
            refine (byte_k s k 10 10 rfl z HZ.out _).mono ?_
            rintro e w' ⟨rfl, rfl⟩
            go_wp2
            go_ret2
            refine ⟨?_, rfl⟩
            have hb := blk_end _ _ HS.out (HD.out ▸ Q1.out) (by rw [← HD.out, HZ.out]; exact hzn)
            rw [← HD.out] at hb
            rw [← H1.out, ← H2.out, hb, List.length_drop, hlen, show k + (s.size - k) = s.size by omega]; rfl
          · obtain ⟨i, rfl⟩ := Int.eq_ofNat_of_zero_le (show 0 ≤ z by omega)
            have hil := indexByte_in _ _ i HZ.out
            simp only [List.length_drop, hlen] at hil
            have L2 : decide ((i : Int) < 0) = false := by simp
            have a3 : IntKind.i64.wrap ((i : Int) + 1) = ((i + 1 : Nat) : Int) := by rw [IntWalk.i64_in _ (by omega)]; rfl
            have a4 : IntKind.i64.wrap ((k : Int) + ((i + 1 : Nat) : Int)) = ((k + (i + 1) : Nat) : Int) := by rw [IntWalk.i64_in _ (by omega)]; omega
            go_wp2_with fail
            refine (pre_k s _ k true Q1.out _).mono ?_
            rintro e w' ⟨rfl, rfl⟩
            go_wp2_with fail
            refine (byte_k s k 10 10 rfl _ HZ.out _).mono ?_
            rintro e w' ⟨rfl, rfl⟩
            go_wp2
            go_round
            have hb := blk_line _ _ i HS.out (HD.out ▸ Q1.out) (by rw [← HD.out]; exact HZ.out) (by rw [List.length_drop, hlen]; omega)
            rw [← HD.out, List.drop_drop] at hb
            case rel => exact ⟨k + (i + 1), by omega, rfl, by rw [← H1.out, hb]; simp only; omega, by rw [← H2.out, hb]⟩
            case measure => simp only [intOf]; omega
      · rw [hq] at hsp
        have HS := Lib.hid hsp
        clear hsp
        have a1 : IntKind.i64.wrap ((k : Int) + 1) = ((k + 1 : Nat) : Int) := by rw [IntWalk.i64_in _ (by omega)]; rfl
        have hb := blk_sp _ (s.data.toList.drop (k + 1)) HS.out
        rw [← HD.out] at hb
        have HB := Lib.hid hb
        clear hb
        cases g1 <;> cases g2 <;> cases g3 <;> cases g4
        all_goals first
          | (exfalso; revert hq; decide)
          | (clear hq
             go_wp2
             go_round
             case rel => exact ⟨k + 1, by omega, rfl, by rw [← H1.out, HB.out]; simp only; omega, by rw [← H2.out, HB.out]⟩
             case measure => simp only [intOf]; omega)
    · have L1 : decide ((k : Int) < (s.size : Int)) = false := by simpa using hl
      have hz : s.data.toList.drop k = [] := List.drop_eq_nil_of_le (by omega)
      go_wp2
      go_ret2
      refine ⟨?_, rfl⟩
      rw [← Int.natCast_add, ← H1.out, ← H2.out, hz]; rfl
end Go.Proofs.YtolfcmfilfjgfaaDoor
