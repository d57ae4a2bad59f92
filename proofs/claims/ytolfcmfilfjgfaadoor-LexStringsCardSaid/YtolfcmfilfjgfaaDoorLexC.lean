/- Names and key words. -/
import Derived.Test.YtolfcmfilfjgfaaDoorLexB
import Derived.Test.YtolfcmfilfjgfaaDoorWld
set_option linter.unusedVariables false
set_option linter.unusedSimpArgs false
namespace Go.Proofs.YtolfcmfilfjgfaaDoor
open Go.RowKit

def wordsL : List UInt8 := [32, 98, 114, 101, 97, 107, 32, 99, 97, 116, 99, 104, 32, 99, 108, 97, 115, 115, 32, 99, 111, 110, 115, 116, 32, 99, 111, 110, 116, 105, 110, 117, 101, 32, 100, 101, 108, 101, 116, 101, 32, 100, 111, 32, 101, 108, 115, 101, 32, 101, 120, 116, 101, 110, 100, 115, 32, 102, 97, 108, 115, 101, 32, 102, 105, 110, 97, 108, 108, 121, 32, 102, 111, 114, 32, 102, 117, 110, 99, 116, 105, 111, 110, 32, 105, 102, 32, 105, 110, 32, 105, 110, 115, 116, 97, 110, 99, 101, 111, 102, 32, 108, 101, 116, 32, 110, 101, 119, 32, 110, 117, 108, 108, 32, 114, 101, 116, 117, 114, 110, 32, 115, 117, 112, 101, 114, 32, 116, 104, 105, 115, 32, 116, 104, 114, 111, 119, 32, 116, 114, 117, 101, 32, 116, 114, 121, 32, 116, 121, 112, 101, 111, 102, 32, 119, 104, 105, 108, 101, 32, 121, 105, 101, 108, 100, 32]
def wordB (l : List UInt8) : Bool := !l.isEmpty && !Lib.contains l [32] && Lib.contains wordsL (32 :: l ++ [32])
theorem contains_k (s p : ByteArray) (g : Bool) (m : Int) (hs : s.size ≤ 16384) (h : Lib.contains s.data.toList p.data.toList = g) (w : World) (hm : w.cell? ⟨1, 0, none⟩ = some (.int .i64 m)) :
    Calls Tryd.prog 33 #[.string s, .string p] w fun e w' => e = .returned (.bool g) ∧ w = w' := by
  refine (Tryd.strings_Contains _ _ m _ (by omega) hm).mono ?_
  rintro e w' ⟨rfl, rfl⟩
  exact ⟨by rw [h], rfl⟩
theorem isWord_any (s : ByteArray) (m : Int) (w : World) (hs : s.size ≤ 16384) (hm : w.cell? ⟨1, 0, none⟩ = some (.int .i64 m)) :
    Calls Tryd.prog 24 #[.string s] w fun e w' => e = .returned (.bool (wordB s.data.toList)) ∧ w = w' := by
  obtain ⟨g1, h1⟩ : ∃ g, Lib.contains s.data.toList [32] = g := ⟨_, rfl⟩
  obtain ⟨g2, h2⟩ : ∃ g, Lib.contains wordsL (32 :: s.data.toList ++ [32]) = g := ⟨_, rfl⟩
  have H1 := Lib.hid h1
  have H2 := Lib.hid h2
  by_cases he : s.data.toList = []
  · have hE : s.toList = [] := by rw [ByteArray.toList_eq]; exact he
    have hw : wordB s.data.toList = false := by rw [he]; rfl
    have HW := Lib.hid hw
    clear h1 h2 hw he
    go_enter Tryd.func24, Tryd.ntmps24
    go_wp2
    go_ret
    exact ⟨by rw [HW.out]; rfl, rfl⟩
  · have hE : ¬ s.toList = [] := by rw [ByteArray.toList_eq]; exact he
    have hw : wordB s.data.toList = (!g1 && g2) := by
      unfold wordB
      rw [h1, h2]
      cases hl : s.data.toList with
      | nil => exact absurd hl he
      | cons _ _ => simp
    have HW := Lib.hid hw
    clear h1 h2 hw he
    have hE2 : s.toList.isEmpty = false := by cases h : s.toList with | nil => exact absurd h hE | cons _ _ => rfl
    have hz : ((⟨#[32]⟩ : ByteArray) ++ s ++ ⟨#[32]⟩).data.toList = 32 :: s.data.toList ++ [32] := by simp
    cases g1
    · go_enter Tryd.func24, Tryd.ntmps24
      go_wp2_with fail
      refine (contains_k s _ false m hs H1.out _ hm).mono ?_
      rintro e w' ⟨rfl, rfl⟩
      go_wp2_with fail
      refine (contains_k _ _ g2 m (of_decide_eq_true (by kernel_rfl)) (by rw [hz]; exact H2.out) _ hm).mono ?_
      rintro e w' ⟨rfl, rfl⟩
      go_wp2
      go_ret
      exact ⟨by rw [HW.out]; rfl, rfl⟩
    · go_enter Tryd.func24, Tryd.ntmps24
      go_wp2_with fail
      refine (contains_k s _ true m hs H1.out _ hm).mono ?_
      rintro e w' ⟨rfl, rfl⟩
      go_wp2
      go_ret
      exact ⟨by rw [HW.out]; rfl, rfl⟩

/-- Bytes of a name that stand ahead. -/
def nameB (b : UInt8) : Bool := letterB b || digitB b
def nameN (l : List UInt8) : Nat := (l.takeWhile nameB).length
theorem nameN_cons (b : UInt8) (l : List UInt8) : nameN (b :: l) = if nameB b then nameN l + 1 else 0 := by
  unfold nameN
  rw [List.takeWhile_cons]
  split <;> simp
abbrev TokV (k : Int) (s : ByteArray) (a n : Int) : Value := .agg #[.int .i64 k, .string s, .int .i64 a, .int .i64 n]

theorem keep_m {w w' : World} {m : Int} (b : Below w.heap.size w w') (h2 : 2 ≤ w.heap.size) (hm : w.cell? ⟨1, 0, none⟩ = some (.int .i64 m)) : w'.cell? ⟨1, 0, none⟩ = some (.int .i64 m) :=
  (World.cell?_of_block (b.block 1 (by omega))).trans hm

set_option maxHeartbeats 1000000 in
theorem name_false (s : ByteArray) (a F : Nat) (m : Int) (w : World) (ha : a ≤ s.size) (hs : s.size ≤ 16384) (h2 : 2 ≤ w.heap.size) (hm : w.cell? ⟨1, 0, none⟩ = some (.int .i64 m))
    (HF : Hid (a + nameN (s.data.toList.drop a) = F)) (HW : Hid (wordB (s.extract a F).data.toList = false)) :
    Calls Tryd.prog 16 #[.string s, .int .i64 a] w fun e w' =>
      e = .returned (.tuple #[TokV 1 (s.extract a F) 0 0, .int .i64 F, .bool (decide (F - a ≤ 60))]) ∧ Below w.heap.size w w' := by
  have hlen := len_of s
  go_enter Tryd.func16, Tryd.ntmps16
  go_wp2_with fail
  go_loop [7] (fun v => ∃ k : Nat, k ≤ s.size ∧ v = .int .i64 k ∧ a ≤ k ∧ k + nameN (s.data.toList.drop k) = F) (fun v => s.size - (intOf v).toNat)
  case atStart => exact ⟨a, ha, rfl, Nat.le_refl _, HF.out⟩
  case round =>
    obtain ⟨k, hk, rfl, hak, h1⟩ := hrel
    have H1 := Lib.hid h1
    clear h1
    by_cases hl : k < s.size
    · have L1 : decide ((k : Int) < (s.size : Int)) = true := by simpa using hl
      have hd := drop_at s k hl
      have x0 : (0 : Int) ≤ k := by omega
      have x1 : (k : Int) < s.size := by omega
      have x2 : (k : Int).toNat = k := by omega
      have hn := nameN_cons s[k] (s.data.toList.drop (k + 1))
      rw [← hd, nameB] at hn
      have a1 : IntKind.i64.wrap ((k : Int) + 1) = ((k + 1 : Nat) : Int) := by rw [IntWalk.i64_in _ (by omega)]; rfl
      obtain ⟨g1, q1⟩ : ∃ g, letterB s[k] = g := ⟨_, rfl⟩
      obtain ⟨g2, q2⟩ : ∃ g, digitB s[k] = g := ⟨_, rfl⟩
      rw [q1, q2] at hn
      have HN := Lib.hid hn
      have Q1 := Lib.hid q1
      have Q2 := Lib.hid q2
      clear hd hn q1 q2
      cases g1
      · cases g2
        · go_wp2_with fail
          refine (letter_any _ _).mono ?_
          rintro e w' ⟨rfl, rfl⟩
          rw [Q1.out]
          go_wp2_with fail
          refine (digit_any _ _).mono ?_
          rintro e w' ⟨rfl, rfl⟩
          rw [Q2.out]
          have hkF : k = F := by have := H1.out; rw [HN.out] at this; simpa using this
          subst hkF
          have hkn : nameN (s.data.toList.drop a) = k - a := by have := HF.out; omega
          have L3 : IntKind.i64.wrap ((k : Int) - (a : Int)) = ((k - a : Nat) : Int) := by rw [IntWalk.i64_in _ (by omega)]; omega
          have L4 : decide (((k - a : Nat) : Int) ≤ 60) = decide (k - a ≤ 60) := by rw [decide_eq_decide]; omega
          have y0 : (0 : Int) ≤ a := by omega
          have y1 : (a : Int) ≤ k := by omega
          have y2 : (k : Int) ≤ s.size := by omega
          have y3 : (a : Int).toNat = a := by omega
          have y4 : (k : Int).toNat = k := by omega
          go_wp2_with fail
          have bb : Below w.heap.size w _ := ((Below.refl _ w).alloc (Nat.le_refl _) (.cells #[.int .i64 0, .string ⟨#[]⟩, .int .i64 0, .int .i64 0] 31)).alloc (by simp) (.cells #[.int .i64 1, .string (s.extract a k), .int .i64 0, .int .i64 0] 31)
          refine (isWord_any _ m _ (by rw [ByteArray.size_extract]; omega) (keep_m bb h2 hm)).mono ?_
          rintro e w' ⟨rfl, rfl⟩
          rw [HW.out]
          clear bb
          go_wp2
          exact bodyPost_ret (v := .tuple #[TokV 1 (s.extract a k) 0 0, .int .i64 k, .bool (decide (k - a ≤ 60))]) (by simp [results, Tryd.results16, go_sem]) rfl ⟨rfl, by repeat (first | exact Below.refl _ _ | (refine Below.alloc ?_ (by first | omega | (simp; omega) | simp) _) | (refine Below.setCell ?_ (by first | omega | (simp; omega) | simp) _))⟩
        · go_wp2_with fail
          refine (letter_any _ _).mono ?_
          rintro e w' ⟨rfl, rfl⟩
          rw [Q1.out]
          go_wp2_with fail
          refine (digit_any _ _).mono ?_
          rintro e w' ⟨rfl, rfl⟩
          rw [Q2.out]
          go_wp2
          go_round
          case rel => exact ⟨k + 1, by omega, rfl, by omega, by rw [← H1.out, HN.out]; simp; omega⟩
          case measure => simp only [intOf]; omega
      · go_wp2_with fail
        refine (letter_any _ _).mono ?_
        rintro e w' ⟨rfl, rfl⟩
        rw [Q1.out]
        go_wp2
        go_round
        case rel => exact ⟨k + 1, by omega, rfl, by omega, by rw [← H1.out, HN.out]; simp; omega⟩
        case measure => simp only [intOf]; omega
    · have L1 : decide ((k : Int) < (s.size : Int)) = false := by simpa using hl
      have hz : s.data.toList.drop k = [] := List.drop_eq_nil_of_le (by omega)
      have hkF : k = F := by have := H1.out; rw [hz] at this; simpa [nameN] using this
      subst hkF
      have hkn : nameN (s.data.toList.drop a) = k - a := by have := HF.out; omega
      have L3 : IntKind.i64.wrap ((k : Int) - (a : Int)) = ((k - a : Nat) : Int) := by rw [IntWalk.i64_in _ (by omega)]; omega
      have L4 : decide (((k - a : Nat) : Int) ≤ 60) = decide (k - a ≤ 60) := by rw [decide_eq_decide]; omega
      have y0 : (0 : Int) ≤ a := by omega
      have y1 : (a : Int) ≤ k := by omega
      have y2 : (k : Int) ≤ s.size := by omega
      have y3 : (a : Int).toNat = a := by omega
      have y4 : (k : Int).toNat = k := by omega
      go_wp2_with fail
      have bb : Below w.heap.size w _ := ((Below.refl _ w).alloc (Nat.le_refl _) (.cells #[.int .i64 0, .string ⟨#[]⟩, .int .i64 0, .int .i64 0] 31)).alloc (by simp) (.cells #[.int .i64 1, .string (s.extract a k), .int .i64 0, .int .i64 0] 31)
      refine (isWord_any _ m _ (by rw [ByteArray.size_extract]; omega) (keep_m bb h2 hm)).mono ?_
      rintro e w' ⟨rfl, rfl⟩
      rw [HW.out]
      clear bb
      go_wp2
      exact bodyPost_ret (v := .tuple #[TokV 1 (s.extract a k) 0 0, .int .i64 k, .bool (decide (k - a ≤ 60))]) (by simp [results, Tryd.results16, go_sem]) rfl ⟨rfl, by repeat (first | exact Below.refl _ _ | (refine Below.alloc ?_ (by first | omega | (simp; omega) | simp) _) | (refine Below.setCell ?_ (by first | omega | (simp; omega) | simp) _))⟩
set_option maxHeartbeats 1000000 in
theorem name_true (s : ByteArray) (a F : Nat) (m : Int) (w : World) (ha : a ≤ s.size) (hs : s.size ≤ 16384) (h2 : 2 ≤ w.heap.size) (hm : w.cell? ⟨1, 0, none⟩ = some (.int .i64 m))
    (HF : Hid (a + nameN (s.data.toList.drop a) = F)) (HW : Hid (wordB (s.extract a F).data.toList = true)) :
    Calls Tryd.prog 16 #[.string s, .int .i64 a] w fun e w' =>
      e = .returned (.tuple #[TokV 2 (s.extract a F) 0 0, .int .i64 F, .bool (decide (F - a ≤ 60))]) ∧ Below w.heap.size w w' := by
  have hlen := len_of s
  go_enter Tryd.func16, Tryd.ntmps16
  go_wp2_with fail
  go_loop [7] (fun v => ∃ k : Nat, k ≤ s.size ∧ v = .int .i64 k ∧ a ≤ k ∧ k + nameN (s.data.toList.drop k) = F) (fun v => s.size - (intOf v).toNat)
  case atStart => exact ⟨a, ha, rfl, Nat.le_refl _, HF.out⟩
  case round =>
    obtain ⟨k, hk, rfl, hak, h1⟩ := hrel
    have H1 := Lib.hid h1
    clear h1
    by_cases hl : k < s.size
    · have L1 : decide ((k : Int) < (s.size : Int)) = true := by simpa using hl
      have hd := drop_at s k hl
      have x0 : (0 : Int) ≤ k := by omega
      have x1 : (k : Int) < s.size := by omega
      have x2 : (k : Int).toNat = k := by omega
      have hn := nameN_cons s[k] (s.data.toList.drop (k + 1))
      rw [← hd, nameB] at hn
      have a1 : IntKind.i64.wrap ((k : Int) + 1) = ((k + 1 : Nat) : Int) := by rw [IntWalk.i64_in _ (by omega)]; rfl
      obtain ⟨g1, q1⟩ : ∃ g, letterB s[k] = g := ⟨_, rfl⟩
      obtain ⟨g2, q2⟩ : ∃ g, digitB s[k] = g := ⟨_, rfl⟩
      rw [q1, q2] at hn
      have HN := Lib.hid hn
      have Q1 := Lib.hid q1
      have Q2 := Lib.hid q2
      clear hd hn q1 q2
      cases g1
      · cases g2
        · go_wp2_with fail
          refine (letter_any _ _).mono ?_
          rintro e w' ⟨rfl, rfl⟩
          rw [Q1.out]
          go_wp2_with fail
          refine (digit_any _ _).mono ?_
          rintro e w' ⟨rfl, rfl⟩
          rw [Q2.out]
          have hkF : k = F := by have := H1.out; rw [HN.out] at this; simpa using this
          subst hkF
          have hkn : nameN (s.data.toList.drop a) = k - a := by have := HF.out; omega
          have L3 : IntKind.i64.wrap ((k : Int) - (a : Int)) = ((k - a : Nat) : Int) := by rw [IntWalk.i64_in _ (by omega)]; omega
          have L4 : decide (((k - a : Nat) : Int) ≤ 60) = decide (k - a ≤ 60) := by rw [decide_eq_decide]; omega
          have y0 : (0 : Int) ≤ a := by omega
          have y1 : (a : Int) ≤ k := by omega
          have y2 : (k : Int) ≤ s.size := by omega
          have y3 : (a : Int).toNat = a := by omega
          have y4 : (k : Int).toNat = k := by omega
          go_wp2_with fail
          have bb : Below w.heap.size w _ := ((Below.refl _ w).alloc (Nat.le_refl _) (.cells #[.int .i64 0, .string ⟨#[]⟩, .int .i64 0, .int .i64 0] 31)).alloc (by simp) (.cells #[.int .i64 1, .string (s.extract a k), .int .i64 0, .int .i64 0] 31)
          refine (isWord_any _ m _ (by rw [ByteArray.size_extract]; omega) (keep_m bb h2 hm)).mono ?_
          rintro e w' ⟨rfl, rfl⟩
          rw [HW.out]
          clear bb
          go_wp2
          exact bodyPost_ret (v := .tuple #[TokV 2 (s.extract a k) 0 0, .int .i64 k, .bool (decide (k - a ≤ 60))]) (by simp [results, Tryd.results16, go_sem]) rfl ⟨rfl, by repeat (first | exact Below.refl _ _ | (refine Below.alloc ?_ (by first | omega | (simp; omega) | simp) _) | (refine Below.setCell ?_ (by first | omega | (simp; omega) | simp) _))⟩
        · go_wp2_with fail
          refine (letter_any _ _).mono ?_
          rintro e w' ⟨rfl, rfl⟩
          rw [Q1.out]
          go_wp2_with fail
          refine (digit_any _ _).mono ?_
          rintro e w' ⟨rfl, rfl⟩
          rw [Q2.out]
          go_wp2
          go_round
          case rel => exact ⟨k + 1, by omega, rfl, by omega, by rw [← H1.out, HN.out]; simp; omega⟩
          case measure => simp only [intOf]; omega
      · go_wp2_with fail
        refine (letter_any _ _).mono ?_
        rintro e w' ⟨rfl, rfl⟩
        rw [Q1.out]
        go_wp2
        go_round
        case rel => exact ⟨k + 1, by omega, rfl, by omega, by rw [← H1.out, HN.out]; simp; omega⟩
        case measure => simp only [intOf]; omega
    · have L1 : decide ((k : Int) < (s.size : Int)) = false := by simpa using hl
      have hz : s.data.toList.drop k = [] := List.drop_eq_nil_of_le (by omega)
      have hkF : k = F := by have := H1.out; rw [hz] at this; simpa [nameN] using this
      subst hkF
      have hkn : nameN (s.data.toList.drop a) = k - a := by have := HF.out; omega
      have L3 : IntKind.i64.wrap ((k : Int) - (a : Int)) = ((k - a : Nat) : Int) := by rw [IntWalk.i64_in _ (by omega)]; omega
      have L4 : decide (((k - a : Nat) : Int) ≤ 60) = decide (k - a ≤ 60) := by rw [decide_eq_decide]; omega
      have y0 : (0 : Int) ≤ a := by omega
      have y1 : (a : Int) ≤ k := by omega
      have y2 : (k : Int) ≤ s.size := by omega
      have y3 : (a : Int).toNat = a := by omega
      have y4 : (k : Int).toNat = k := by omega
      go_wp2_with fail
      have bb : Below w.heap.size w _ := ((Below.refl _ w).alloc (Nat.le_refl _) (.cells #[.int .i64 0, .string ⟨#[]⟩, .int .i64 0, .int .i64 0] 31)).alloc (by simp) (.cells #[.int .i64 1, .string (s.extract a k), .int .i64 0, .int .i64 0] 31)
      refine (isWord_any _ m _ (by rw [ByteArray.size_extract]; omega) (keep_m bb h2 hm)).mono ?_
      rintro e w' ⟨rfl, rfl⟩
      rw [HW.out]
      clear bb
      go_wp2
      exact bodyPost_ret (v := .tuple #[TokV 2 (s.extract a k) 0 0, .int .i64 k, .bool (decide (k - a ≤ 60))]) (by simp [results, Tryd.results16, go_sem]) rfl ⟨rfl, by repeat (first | exact Below.refl _ _ | (refine Below.alloc ?_ (by first | omega | (simp; omega) | simp) _) | (refine Below.setCell ?_ (by first | omega | (simp; omega) | simp) _))⟩

theorem nameN_le (l : List UInt8) : nameN l ≤ l.length := (List.takeWhile_prefix _).length_le
/-- The name at a place: kind, length. -/
theorem name_any (s : ByteArray) (a : Nat) (m : Int) (w : World) (ha : a ≤ s.size) (hs : s.size ≤ 16384) (h2 : 2 ≤ w.heap.size) (hm : w.cell? ⟨1, 0, none⟩ = some (.int .i64 m)) :
    Calls Tryd.prog 16 #[.string s, .int .i64 a] w fun e w' =>
      e = .returned (.tuple #[TokV (if wordB ((s.data.toList.drop a).take (nameN (s.data.toList.drop a))) then 2 else 1) ⟨((s.data.toList.drop a).take (nameN (s.data.toList.drop a))).toArray⟩ 0 0, .int .i64 ((a + nameN (s.data.toList.drop a) : Nat) : Int), .bool (decide (nameN (s.data.toList.drop a) ≤ 60))]) ∧ Below w.heap.size w w' := by
  have hx := ext_piece s a (a + nameN (s.data.toList.drop a))
  rw [Nat.add_sub_cancel_left] at hx
  have hb : (⟨((s.data.toList.drop a).take (nameN (s.data.toList.drop a))).toArray⟩ : ByteArray) = s.extract a (a + nameN (s.data.toList.drop a)) := by
    rw [← hx]
  rw [hb]
  cases hW : wordB ((s.data.toList.drop a).take (nameN (s.data.toList.drop a)))
  · refine (name_false s a _ m w ha hs h2 hm (Lib.hid rfl) (Lib.hid (by rw [hx]; exact hW))).mono ?_
    rintro e w' ⟨rfl, b⟩
    exact ⟨by rw [Nat.add_sub_cancel_left]; rfl, b⟩
  · refine (name_true s a _ m w ha hs h2 hm (Lib.hid rfl) (Lib.hid (by rw [hx]; exact hW))).mono ?_
    rintro e w' ⟨rfl, b⟩
    exact ⟨by rw [Nat.add_sub_cancel_left]; rfl, b⟩
end Go.Proofs.YtolfcmfilfjgfaaDoor
