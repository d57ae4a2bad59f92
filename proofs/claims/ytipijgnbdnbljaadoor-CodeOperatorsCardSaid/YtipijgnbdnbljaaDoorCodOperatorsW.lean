/- The walk of the statement CodeOperators. -/
import Derived.Test.YtipijgnbdnbljaaDoorCodF
import Derived.Lib.QuietBelow
set_option linter.unusedVariables false
set_option linter.unusedSimpArgs false
namespace Go.Proofs.YtipijgnbdnbljaaDoor
open Go.RowKit

theorem texts_any (w : World) : Calls Tryd.prog 8 #[] w fun e w' => e = .returned (.slice (some ⟨w.heap.size, 0, none⟩) 11 11) ∧ w' = w.alloc (.cells opsV 9) := by
  go_enter Tryd.func8, Tryd.ntmps8
  go_wp2
  go_ret
  exact ⟨rfl, rfl⟩

/-- What the law wants behind j rounds. -/
def wantR (n : Int) (j : Nat) : ByteArray := if 0 ≤ n ∧ n < j then opB n.toNat else ⟨#[]⟩
theorem wantR_end (n : Int) : wantR n 11 = operR n := by
  unfold wantR operR
  by_cases h : n < 0 ∨ 11 ≤ n
  · rw [if_pos h, if_neg (by omega)]
  · rw [if_neg h, if_pos (by omega)]
theorem operR_last (s : ByteArray) (h : 0 ≤ lastOp s 11) : operR (lastOp s 11) = s := by
  have := lastOp_bd s 11
  rw [operR, if_neg (by omega)]
  exact lastOp_get s 11 h

set_option maxHeartbeats 4000000 in
theorem operators_walk (n : Int) (s : ByteArray) (w : World) (h : Tb w) :
    Calls Tryd.prog 3 #[.int .i64 n, .string s] w fun e w' => e = .returned (.bool true) ∧ Below w.heap.size w w' := by
  have HT := Lib.hid h
  clear h
  go_enter Tryd.func3, Tryd.ntmps3
  go_wp2_with fail
  refine (fit_any _ HT.out).mono ?_
  rintro e w1 ⟨rfl, b1⟩
  go_wp2_with fail
  refine (texts_any _).mono ?_
  rintro e w2 ⟨rfl, rfl⟩
  have hk := Blk.new w1 9 opsV
  have hb := b1.alloc b1.size (.cells opsV 9)
  obtain ⟨g, hg⟩ : ∃ g, w1.heap.size = g := ⟨_, rfl⟩
  rw [hg] at hk ⊢
  generalize w1.alloc (.cells opsV 9) = W at *
  clear hg b1
  have HC : ∀ k, k < 11 → W.cell? ⟨g, k, none⟩ = some (.string (opB k)) := fun k hk2 => by rw [hk.cell]; exact opsV_at k hk2
  have HC := Lib.hid HC
  clear hk
  go_wp2_with fail
  go_loop [5, 6, 13] (fun wa ki i => ∃ k : Nat, k ≤ 11 ∧ i = .int .i64 k ∧ wa = .string (wantR n k) ∧ ki = .int .i64 (lastOp s k)) (fun _ _ i => 11 - (intOf i).toNat)
  case atStart => exact ⟨0, by omega, rfl, by rw [wantR, if_neg (by omega)], rfl⟩
  case round =>
    obtain ⟨k, hk, rfl, rfl, rfl⟩ := hrel
    by_cases hlt : k < 11
    · have t1 : decide ((k : Int) < 11) = true := by simp; omega
      have c1 := HC.out k hlt
      have y0 : 0 ≤ (k : Int) := by omega
      have y1 : (k : Int) < 11 := by omega
      obtain ⟨o, ho⟩ : ∃ o, wantR n k = o := ⟨_, rfl⟩
      obtain ⟨lo, hlo⟩ : ∃ lo, lastOp s k = lo := ⟨_, rfl⟩
      have HO := Lib.hid ho
      have HLO := Lib.hid hlo
      rw [ho, hlo]
      clear ho hlo
      by_cases hn : (k : Int) = n
      case' pos =>
        have t2 : ((k : Int) == n) = true := by simpa using hn
        have H1 := Lib.hid (show wantR n (k + 1) = opB k by rw [wantR, if_pos (by omega)]; congr 1; omega)
      case' neg =>
        have t2 : ((k : Int) == n) = false := by simpa using hn
        have H1 := Lib.hid (show wantR n (k + 1) = o by
          rw [← HO.out]; unfold wantR
          by_cases hc : 0 ≤ n ∧ n < k
          · rw [if_pos hc, if_pos (by omega)]
          · rw [if_neg hc, if_neg (by omega)])
      all_goals
        clear hn
        by_cases he : (opB k).toList = s.toList
        case' pos =>
          have t3 : ((opB k).toList == s.toList) = true := by simpa using he
          have H2 := Lib.hid (show lastOp s (k + 1) = k by rw [lastOp, if_pos he])
        case' neg =>
          have t3 : ((opB k).toList == s.toList) = false := by simpa using he
          have H2 := Lib.hid (show lastOp s (k + 1) = lo by rw [lastOp, if_neg he]; exact HLO.out)
        all_goals
          clear he
          go_wp2
          go_round
          case rel => exact ⟨k + 1, by omega, by go_num, by rw [H1.out], by rw [H2.out]⟩
          case measure => simp [intOf]; omega
    · obtain rfl : k = 11 := by omega
      have t1 : decide (((11 : Nat) : Int) < 11) = false := by simp
      rw [wantR_end]
      have HL := Lib.hid (lastOp_bd s 11)
      have HQ := Lib.hid (operR_last s)
      have C1 := Lib.hid (fun (V : World) (hV : Tb V) => operator_any n V hV)
      have C2 := Lib.hid (fun (V : World) (hV : Tb V) => operators_any s V hV)
      have C3 := Lib.hid (fun (V : World) (hV : Tb V) => operator_any (lastOp s 11) V hV)
      generalize operR n = R at *
      obtain ⟨m, hm⟩ : ∃ m, lastOp s 11 = m := ⟨_, rfl⟩
      rw [hm] at C2 C3 HQ HL ⊢
      clear hm HC
      go_wp2_with fail
      refine (C1.out _ (HT.out.below hb)).mono ?_
      rintro e w3 ⟨rfl, b3⟩
      have hb3 := hb.trans (b3.mono hb.size)
      clear hb b3
      go_wp2_with fail
      refine (C2.out _ (HT.out.below hb3)).mono ?_
      rintro e w4 ⟨rfl, b4⟩
      have hb4 := hb3.trans (b4.mono hb3.size)
      clear hb3 b4
      by_cases hneg : m < 0
      · have t2 : decide (m < 0) = true := by simpa using hneg
        go_wp2
        go_ret
        exact ⟨by simp, hb4⟩
      · have t2 : decide (m < 0) = false := by simpa using hneg
        have hq := HQ.out (by omega)
        rw [hq] at C3
        clear hq HQ
        go_wp2_with fail
        refine (C3.out _ (HT.out.below hb4)).mono ?_
        rintro e w5 ⟨rfl, b5⟩
        have hb5 := hb4.trans (b5.mono hb4.size)
        go_wp2
        go_ret
        exact ⟨by simp, hb5⟩
end Go.Proofs.YtipijgnbdnbljaaDoor
