/- Show: contract of the statements' str: the string of a slice of units. -/
import Derived.Test.YtdeboajjhpecbaaGreatDoorTxt
set_option linter.unusedVariables false
namespace Go.Proofs.YtdeboajjhpecbaaGreatDoor.Tx
open Go.RowKit

set_option maxHeartbeats 4000000 in
set_option maxRecDepth 100000 in
theorem str14_any (a : Option Addr) (n cap : Nat) (l : List Nat) (w : World) (h : SliceR .u16 w a n cap (ints l)) (hf : Fits l) (hn : n ≤ 100000000) :
    Calls Tryz.prog 16 #[.slice a n cap] w fun e w' => e = .returned (.string (uS l)) ∧ Below w.heap.size w w' := by
  obtain ⟨i0, hi, hz0, hz1, hz2⟩ := info_parts infoInt
  obtain ⟨h1, h2, h3, h3', h4⟩ := h
  rw [ints_length] at h1
  go_enter Tryz.func16, Tryz.ntmps16
  go_wp2
  go_loopw [3, 8] (fun v i wr => ∃ k : Nat, k ≤ n ∧ i = .int .i64 k ∧ wr.ownsRow w.heap.size 3 1 v k (numCells .i64 (ints (l.take k))) ∧ Below w.heap.size w wr) (fun _ i _ => n - (intOf i).toNat)
  case atStart => exact ⟨0, Nat.zero_le _, rfl, World.ownsRow_nil _ _ _ _, Below.refl _ _⟩
  case round =>
    obtain ⟨k, hk, rfl, hown, hb⟩ := hrel
    by_cases hlt : k < n
    · obtain ⟨b, off, rfl, hbl, hcell⟩ := h4 (by omega)
      have hck := (hb.cell (p := ⟨b, off + k, none⟩) hbl).trans (hcell k hlt)
      rw [ints_getD] at hck
      have hul : l.getD k 0 < 65536 := by
        rw [List.getD_eq_getElem?_getD, List.getElem?_eq_getElem (by omega)]; exact hf _ (List.getElem_mem _)
      have hts := take_snocN l k (by omega)
      obtain ⟨u, hu⟩ : ∃ u, u = l.getD k 0 := ⟨_, rfl⟩
      rw [← hu] at hck hul hts
      have HT := Lib.hid hts
      clear hts h4 hcell h3' h1 hu
      have hz := hb.size
      have hk0 : (0 : Int) ≤ (k : Int) := by omega
      have hk1 : (k : Int) < (n : Int) := by omega
      have y0 : (0 : Int) ≤ (u : Int) := by omega
      go_wp2_with (at_builtin; refine wpList_append_own _ rfl _ _ 65 rfl w.heap.size 3 i0 (.int .i64 0) 1 8 Tryz.underlying65 hi hz0 hz1 hz2 rfl (by decide) _ _ _ rfl (hown.alloc _) ⟨wr.heap.size, 0, none⟩ 1 1 [.int .i64 (u : Int)] rfl rfl (by intro j v hj; match j, hj with | 0, hj => simp at hj; subst hj; simp [Addr.add]) (by simp [Value.oneCell']) (by unfold maxLen; omega) (by omega) (by simp; omega) ?_)
      intro v' w1 hown1 hgrow _
      have hb2 := (hb.alloc hz (.cells #[.int .i64 (u : Int)] 3)).grown hgrow (by simp; omega) (fun k' hk' => ((hown.alloc (.cells #[.int .i64 (u : Int)] 3)).lt k' hk').1)
      clear hown hgrow
      go_wp2
      go_roundw
      case rel =>
        refine ⟨k + 1, by omega, by go_num, ?_, hb2⟩
        rw [HT.out, ints_append, numCells_append]
        exact hown1
      case measure => simp [intOf]; omega
    · have hk2 : k = n := by omega
      subst hk2
      have t1 : decide ((k : Int) < (k : Int)) = false := by simp
      rw [List.take_of_length_le (by omega)] at hown
      subst h1
      obtain ⟨a', cap', rfl, hR, hB⟩ := sliceR_own (l := ints l) (by rw [ints_length]; exact hown)
      rw [ints_length] at hR ⊢
      clear h2 h3 h3' h4
      go_wp2_with (go_at_call 28; refine (str_any a' l.length cap' l _ hR hf hn).mono ?_)
      rintro e w2 ⟨rfl, b2⟩
      go_wp2
      go_ret
      exact ⟨rfl, hb.trans (b2.mono hb.size)⟩
end Go.Proofs.YtdeboajjhpecbaaGreatDoor.Tx
