/- The statement LexEnds: its walk. -/
import Derived.Test.YtolfcmfilfjgfaaDoorLexI
set_option linter.unusedVariables false
set_option linter.unusedSimpArgs false
namespace Go.Proofs.YtolfcmfilfjgfaaDoor
open Go.RowKit

theorem norm_mod (n m : Int) (hm : 0 < m) (h9 : m < 1000000000) : ∃ N : Nat, (wrap64 (n.tmod m + m)).tmod m = (N : Int) ∧ (N : Int) < m := by
  have h1 := Int.tmod_lt_of_pos n hm
  have h2 := Int.lt_tmod_of_pos n hm
  rw [IntWalk.wrap64_in _ (by omega)]
  rw [Int.tmod_eq_emod_of_nonneg (by omega)]
  have h3 := Int.emod_nonneg (n.tmod m + m) (by omega : m ≠ 0)
  have h4 := Int.emod_lt_of_pos (n.tmod m + m) hm
  exact ⟨((n.tmod m + m) % m).toNat, by omega, by omega⟩
theorem blk_pad (n : Nat) (R : List UInt8) : blkL 0 (List.replicate n 32 ++ R) = (n + (blkL 0 R).1, (blkL 0 R).2) := by
  induction n with
  | zero => simp
  | succ n ih =>
    rw [List.replicate_succ, List.cons_append, blk_sp 32 _ rfl, ih]
    simp only [Prod.mk.injEq, and_true]; omega
theorem scan_pad (n f a : Nat) (R : List UInt8) : scanL (f + 1) (List.replicate n 32 ++ R) a = scanL (f + 1) R (a + n) := by
  rw [scanL, scanL, blk_pad]
  have h : (List.replicate n (32 : UInt8) ++ R).drop (n + (blkL 0 R).1) = R.drop (blkL 0 R).1 := by
    rw [List.drop_append, List.length_replicate, List.drop_of_length_le (by simp), show n + (blkL 0 R).1 - n = (blkL 0 R).1 by omega, List.nil_append]
  simp only [h, show a + (n + (blkL 0 R).1) = a + n + (blkL 0 R).1 by omega]
theorem scan_bad (f a : Nat) (c : UInt8) (r : List UInt8) (h : (blkL 0 (c :: r)).1 = 0) (h2 : (blkL 0 (c :: r)).2 = false ∨ oneL (c :: r) = none) : scanL (f + 1) (c :: r) a = .bad a := by
  rw [scanL, h]
  rcases h2 with h2 | h2
  · rw [if_pos h2]; rfl
  · split
    · rfl
    · simp only [List.drop_zero, h2]; rfl
def endsT : Nat → List UInt8
  | 0 => [39, 97, 98, 99]
  | 1 => [47, 42, 32, 97, 98, 99]
  | 2 => [34, 97, 98, 99, 10, 34]
  | 3 => [39, 92, 122, 39]
  | _ => [35]
theorem ends_scan (n k f : Nat) : scanL (f + 1) (List.replicate n 32 ++ endsT k) 0 = .bad n := by
  rw [scan_pad, Nat.zero_add]
  match k with
  | 0 => exact scan_bad f n _ _ (by kernel_rfl) (.inr (by kernel_rfl))
  | 1 => exact scan_bad f n _ _ (by kernel_rfl) (.inl (by kernel_rfl))
  | 2 => exact scan_bad f n _ _ (by kernel_rfl) (.inr (by kernel_rfl))
  | 3 => exact scan_bad f n _ _ (by kernel_rfl) (.inr (by kernel_rfl))
  | _ + 4 => exact scan_bad f n _ _ (by kernel_rfl) (.inr (by kernel_rfl))
theorem endsT_len (k : Nat) : (endsT k).length ≤ 6 := by
  match k with
  | 0 => decide
  | 1 => decide
  | 2 => decide
  | 3 => decide
  | _ + 4 => exact (by decide : ([35] : List UInt8).length ≤ 6)
theorem ends_call (k n : Nat) (hn : n < 50) (S : ByteArray) (m : Int) (w : World) (hm : w.cell? ⟨1, 0, none⟩ = some (.int .i64 m)) (tb : Tb w) (hS : S.data.toList = List.replicate n 32 ++ endsT k) :
    Calls Tryd.prog 7 #[.string S] w fun e w' => e = .returned (.tuple #[.slice none 0 0, FaultV 3 n]) ∧ Below w.heap.size w w' := by
  have hl := len_of S
  have ht := endsT_len k
  have hl2 : S.size = n + (endsT k).length := by rw [← hl, hS]; simp
  refine (scan_any S m (.bad n) w (by omega) (cell_lt hm) hm tb (Lib.hid (by rw [hS]; exact ends_scan n k _))).mono ?_
  rintro e W ⟨v, f, rfl, ⟨rfl, rfl⟩, b⟩
  exact ⟨rfl, b⟩
def padB (k : Nat) : ByteArray := ⟨(List.replicate k (32 : UInt8)).toArray⟩
theorem padB_size (k : Nat) : (padB k).size = k := by show (List.replicate k (32 : UInt8)).toArray.size = k; simp
theorem pad_more (k : Nat) : padB k ++ ⟨#[32]⟩ = padB (k + 1) := by
  unfold padB
  rw [show (⟨#[32]⟩ : ByteArray) = ⟨[32].toArray⟩ from rfl, ba_app, List.replicate_succ']
theorem pad_tail (k : Nat) (T : List UInt8) : (padB k ++ ⟨T.toArray⟩).data.toList = List.replicate k 32 ++ T := by unfold padB; rw [ba_app]

set_option maxHeartbeats 2000000 in
theorem ends_walk (n c : Int) (m : Int) (w : World) (hm : w.cell? ⟨1, 0, none⟩ = some (.int .i64 m)) (tb : Tb w) :
    Calls Tryd.prog 5 #[.int .i64 n, .int .i64 c] w fun e w' => e = .returned (.bool true) ∧ Below w.heap.size w w' := by
  obtain ⟨N, hN, hN50⟩ := norm_mod n 50 (by omega) (by omega)
  obtain ⟨C, hC, hC5⟩ := norm_mod c 5 (by omega) (by omega)
  go_enter Tryd.func5, Tryd.ntmps5
  go_wp2_with fail
  refine (fit_any m _ hm tb).mono ?_
  rintro e W ⟨rfl, b⟩
  have h2 := cell_lt hm
  have hmW := keep_m b h2 hm
  have tbW := tb.below b
  have HM := Lib.hid hmW
  have HT := Lib.hid tbW
  have HB := Lib.hid b
  clear hmW tbW b tb hm
  go_wp2_with fail
  go_loop [5, 17] (fun vp vi => ∃ k : Nat, k ≤ N ∧ vp = .string (padB k) ∧ vi = .int .i64 k) (fun _ vi => N - (intOf vi).toNat)
  case atStart => exact ⟨0, by omega, rfl, rfl⟩
  case round =>
    obtain ⟨k, hk, rfl, rfl⟩ := hrel
    by_cases hl : k < N
    · have L1 : decide ((k : Int) < (N : Int)) = true := by simp; omega
      have a1 : IntKind.i64.wrap ((k : Int) + 1) = ((k + 1 : Nat) : Int) := by rw [IntWalk.i64_in _ (by omega)]; rfl
      have s1 : ¬ 9223372036854775807 < (padB k).size + 1 := by rw [padB_size]; omega
      go_wp2
      go_round
      case rel => exact ⟨k + 1, by omega, by rw [← pad_more k], by first | rfl | rw [Int.natCast_add]⟩
      case measure => simp only [intOf]; omega
    · obtain rfl : k = N := by omega
      have L1 : decide ((k : Int) < (k : Int)) = false := by simp
      have hC4 : C = 0 ∨ C = 1 ∨ C = 2 ∨ C = 3 ∨ C = 4 := by omega
      rcases hC4 with rfl | rfl | rfl | rfl | rfl
      · have hC0 : (wrap64 (c.tmod 5 + 5)).tmod 5 = 0 := by simpa using hC
        clear hC hC5
        have s1 : ¬ 9223372036854775807 < (padB k).size + 4 := by rw [padB_size]; omega
        have hS := pad_tail k [39, 97, 98, 99]
        have HS := Lib.hid (show (padB k ++ ⟨#[39, 97, 98, 99]⟩).data.toList = List.replicate k 32 ++ endsT 0 from hS)
        clear hS
        go_wp2_with fail
        refine (ends_call 0 k (by omega) _ m _ HM.out HT.out HS.out).mono ?_
        rintro e W2 ⟨rfl, b2⟩
        have bb := HB.out.trans (b2.mono HB.out.size)
        have bz := bb.size
        go_wp2
        go_ret
        exact ⟨rfl, bb.alloc bz _⟩
      · have hC0 : (wrap64 (c.tmod 5 + 5)).tmod 5 = 1 := by simpa using hC
        clear hC hC5
        have s1 : ¬ 9223372036854775807 < (padB k).size + 6 := by rw [padB_size]; omega
        have hS := pad_tail k [47, 42, 32, 97, 98, 99]
        have HS := Lib.hid (show (padB k ++ ⟨#[47, 42, 32, 97, 98, 99]⟩).data.toList = List.replicate k 32 ++ endsT 1 from hS)
        clear hS
        go_wp2_with fail
        refine (ends_call 1 k (by omega) _ m _ HM.out HT.out HS.out).mono ?_
        rintro e W2 ⟨rfl, b2⟩
        have bb := HB.out.trans (b2.mono HB.out.size)
        have bz := bb.size
        go_wp2
        go_ret
        exact ⟨rfl, bb.alloc bz _⟩
      · have hC0 : (wrap64 (c.tmod 5 + 5)).tmod 5 = 2 := by simpa using hC
        clear hC hC5
        have s1 : ¬ 9223372036854775807 < (padB k).size + 6 := by rw [padB_size]; omega
        have hS := pad_tail k [34, 97, 98, 99, 10, 34]
        have HS := Lib.hid (show (padB k ++ ⟨#[34, 97, 98, 99, 10, 34]⟩).data.toList = List.replicate k 32 ++ endsT 2 from hS)
        clear hS
        go_wp2_with fail
        refine (ends_call 2 k (by omega) _ m _ HM.out HT.out HS.out).mono ?_
        rintro e W2 ⟨rfl, b2⟩
        have bb := HB.out.trans (b2.mono HB.out.size)
        have bz := bb.size
        go_wp2
        go_ret
        exact ⟨rfl, bb.alloc bz _⟩
      · have hC0 : (wrap64 (c.tmod 5 + 5)).tmod 5 = 3 := by simpa using hC
        clear hC hC5
        have s1 : ¬ 9223372036854775807 < (padB k).size + 4 := by rw [padB_size]; omega
        have hS := pad_tail k [39, 92, 122, 39]
        have HS := Lib.hid (show (padB k ++ ⟨#[39, 92, 122, 39]⟩).data.toList = List.replicate k 32 ++ endsT 3 from hS)
        clear hS
        go_wp2_with fail
        refine (ends_call 3 k (by omega) _ m _ HM.out HT.out HS.out).mono ?_
        rintro e W2 ⟨rfl, b2⟩
        have bb := HB.out.trans (b2.mono HB.out.size)
        have bz := bb.size
        go_wp2
        go_ret
        exact ⟨rfl, bb.alloc bz _⟩
      · have hC0 : (wrap64 (c.tmod 5 + 5)).tmod 5 = 4 := by simpa using hC
        clear hC hC5
        have s1 : ¬ 9223372036854775807 < (padB k).size + 1 := by rw [padB_size]; omega
        have hS := pad_tail k [35]
        have HS := Lib.hid (show (padB k ++ ⟨#[35]⟩).data.toList = List.replicate k 32 ++ endsT 4 from hS)
        clear hS
        go_wp2_with fail
        refine (ends_call 4 k (by omega) _ m _ HM.out HT.out HS.out).mono ?_
        rintro e W2 ⟨rfl, b2⟩
        have bb := HB.out.trans (b2.mono HB.out.size)
        have bz := bb.size
        go_wp2
        go_ret
        exact ⟨rfl, bb.alloc bz _⟩
end Go.Proofs.YtolfcmfilfjgfaaDoor
