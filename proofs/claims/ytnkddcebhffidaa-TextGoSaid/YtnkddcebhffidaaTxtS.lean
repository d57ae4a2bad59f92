/- Contract of the statements' Str: the string of a slice of units; what such a slice is when it comes in. -/
import Derived.Test.YtnkddcebhffidaaTxtR
set_option linter.unusedVariables false
namespace Go.Proofs.Ytnkddcebhffidaa
open Go.RowKit

set_option maxHeartbeats 4000000 in
set_option maxRecDepth 100000 in
theorem lawStr_any (a : Option Addr) (n cap : Nat) (l : List Nat) (w : World) (h : SliceR .u16 w a n cap (ints l)) (hf : Fits l) (hn : n ≤ 100000000) :
    Calls Try.prog 13 #[.slice a n cap] w fun e w' => e = .returned (.string (uS l)) ∧ Below w.heap.size w w' := by
  obtain ⟨i0, hi, hz0, hz1, hz2⟩ := info_parts infoInt
  obtain ⟨h1, h2, h3, h3', h4⟩ := h
  rw [ints_length] at h1
  go_enter Try.func13, Try.ntmps13
  go_wp2
  go_loopw [3, 8] (fun v i wr => ∃ k : Nat, k ≤ n ∧ i = .int .i64 k ∧ wr.ownsRow w.heap.size 3 1 v k (numCells .i64 (ints (l.take k))) ∧ Below w.heap.size w wr) (fun _ i _ => n - (intOf i).toNat)
  case atStart => exact ⟨0, Nat.zero_le _, rfl, World.ownsRow_nil _ _ _ _, Below.refl _ _⟩
  case round =>
    obtain ⟨k, hk, rfl, hown, hb⟩ := hrel
    by_cases hlt : k < n
    · obtain ⟨b, off, rfl, hbl, hcell⟩ := h4 (by omega)
      have hck := (hb.cell (p := ⟨b, off + k, none⟩) hbl).trans (hcell k hlt)
      rw [ints_getD] at hck
      have hul : l.getD k 0 < 65536 := by
        rw [List.getD_eq_getElem?_getD, List.getElem?_eq_getElem (by omega)]; exact hf _ (List.getElem_mem _)
      have hts := take_snocN l k (by omega)
      obtain ⟨u, hu⟩ : ∃ u, u = l.getD k 0 := ⟨_, rfl⟩
      rw [← hu] at hck hul hts
      have HT := Lib.hid hts
      clear hts h4 hcell h3' h1 hu
      have hz := hb.size
      have hk0 : (0 : Int) ≤ (k : Int) := by omega
      have hk1 : (k : Int) < (n : Int) := by omega
      have y0 : (0 : Int) ≤ (u : Int) := by omega
      go_wp2_with (at_builtin; refine wpList_append_own _ rfl _ _ 34 rfl w.heap.size 3 i0 (.int .i64 0) 1 8 Try.underlying34 hi hz0 hz1 hz2 rfl (by decide) _ _ _ rfl (hown.alloc _) ⟨wr.heap.size, 0, none⟩ 1 1 [.int .i64 (u : Int)] rfl rfl (by intro j v hj; match j, hj with | 0, hj => simp at hj; subst hj; simp [Addr.add]) (by simp [Value.oneCell']) (by unfold maxLen; omega) (by omega) (by simp; omega) ?_)
      intro v' w1 hown1 hgrow _
      have hb2 := (hb.alloc hz (.cells #[.int .i64 (u : Int)] 3)).grown hgrow (by simp; omega) (fun k' hk' => ((hown.alloc (.cells #[.int .i64 (u : Int)] 3)).lt k' hk').1)
      clear hown hgrow
      go_wp2
      go_roundw
      case rel =>
        refine ⟨k + 1, by omega, by go_num, ?_, hb2⟩
        rw [HT.out, ints_append, numCells_append]
        exact hown1
      case measure => simp [intOf]; omega
    · have hk2 : k = n := by omega
      subst hk2
      have t1 : decide ((k : Int) < (k : Int)) = false := by simp
      rw [List.take_of_length_le (by omega)] at hown
      subst h1
      obtain ⟨a', cap', rfl, hR, hB⟩ := sliceR_own (l := ints l) (by rw [ints_length]; exact hown)
      rw [ints_length] at hR ⊢
      clear h2 h3 h3' h4
      go_wp2_with (go_at_call 23; refine (str_any a' l.length cap' l _ hR hf hn).mono ?_)
      rintro e w2 ⟨rfl, b2⟩
      go_wp2
      go_ret
      exact ⟨rfl, hb.trans (b2.mono hb.size)⟩

/-- A slice of units that came in. -/
theorem units_in {w : World} {a : Option Addr} {n cap : Nat} {zs : List Int} (h : IsRow .u16 w a n cap zs) : ∃ l : List Nat, SliceR .u16 w a n cap (ints l) ∧ Fits l ∧ l.length = n := by
  obtain ⟨h1, h2⟩ := sliceR_in h
  have hl : ints ((zs.take n).map Int.toNat) = zs.take n := by
    unfold ints
    rw [List.map_map]
    conv => rhs; rw [← List.map_id (zs.take n)]
    refine List.map_congr_left fun z hz => ?_
    have := bounds_u16 (h2 z hz)
    show Int.ofNat z.toNat = z
    simp; omega
  refine ⟨(zs.take n).map Int.toNat, by rw [hl]; exact h1, ?_, by have := h1.1; rw [List.length_map]; exact this⟩
  intro u hu
  obtain ⟨z, hz, rfl⟩ := List.mem_map.1 hu
  have := bounds_u16 (h2 z hz)
  omega

theorem unitsTo_uS (l : List Nat) (hf : Fits l) : unitsTo (uS l) ((uS l).size / 2) = l := by
  rw [uS_size, show 2 * l.length / 2 = l.length by omega]
  apply List.ext_getElem
  · rw [unitsTo_length]
  · intro i h1 h2
    simp only [unitsTo, List.getElem_map, List.getElem_range]
    rw [unitAt_uS l hf, List.getD_eq_getElem?_getD, List.getElem?_eq_getElem h2]
    rfl

theorem list_uS (l : List Nat) (hf : Fits l) (w : World) (hn : l.length ≤ 100000000) :
    Calls Try.prog 16 #[.string (uS l)] w fun e w' => ∃ a cap, e = .returned (.slice a l.length cap) ∧ SliceR .i64 w' a l.length cap (ints l) ∧ (∀ x, a = some x → w.heap.size ≤ x.block) ∧ Below w.heap.size w w' := by
  refine (list_any (uS l) w (by rw [uS_size]; omega)).mono ?_
  rintro e w' ⟨v, rfl, hown, hb⟩
  rw [unitsTo_uS l hf] at hown
  obtain ⟨a, cap, rfl, hR, hB⟩ := sliceR_own (l := ints l) (by rw [ints_length]; exact hown)
  rw [ints_length] at hR ⊢
  exact ⟨a, cap, rfl, hR, hB, hb⟩

theorem uS_append (l m : List Nat) : uS l ++ uS m = uS (l ++ m) := by
  unfold uS; rw [unitsB_append]; exact app_s _ _

theorem uS_extract (l : List Nat) (lo hi : Nat) (h1 : lo ≤ hi) (h2 : hi ≤ l.length) : (uS l).extract (2 * lo) (2 * hi) = uS ((l.take hi).drop lo) := by
  have key : ∀ (m : List Nat) (k : Nat), (unitsB m).take (2 * k) = unitsB (m.take k) ∧ (unitsB m).drop (2 * k) = unitsB (m.drop k) := by
    intro m
    induction m with
    | nil => intro k; simp [unitsB]
    | cons u m ih =>
      intro k
      cases k with
      | zero => simp [unitsB]
      | succ k =>
        rw [show 2 * (k + 1) = 2 * k + 1 + 1 by omega, unitsB_cons]
        have := ih k
        exact ⟨by rw [List.take_succ_cons, unitsB_cons]; simp [unitB, this.1], by rw [List.drop_succ_cons]; simp [unitB, this.2]⟩
  have hd : ((uS l).extract (2 * lo) (2 * hi)).data.toList = unitsB ((l.take hi).drop lo) := by
    rw [Lib.extract_data]
    show ((unitsB l).drop (2 * lo)).take (2 * hi - 2 * lo) = _
    rw [(key l lo).2, show 2 * hi - 2 * lo = 2 * (hi - lo) by omega, (key _ _).1, List.drop_take]
  apply ByteArray.ext
  apply Array.toList_inj.1
  rw [hd]
  rfl

end Go.Proofs.Ytnkddcebhffidaa
