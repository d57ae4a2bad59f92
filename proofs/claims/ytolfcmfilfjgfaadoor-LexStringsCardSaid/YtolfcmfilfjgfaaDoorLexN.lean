/- Contract of the reference's Str: the string of a slice of units. -/
import Derived.Test.YtolfcmfilfjgfaaDoorSlc
import Derived.Test.YtolfcmfilfjgfaaDoorLexK
set_option linter.unusedVariables false
namespace Go.Proofs.YtolfcmfilfjgfaaDoor
open Go.RowKit

theorem infoInt : (Tryd.prog.info? 3).map (fun i => (i.zero, i.size, i.bytes)) = some (some (.int .i64 0), 1, 8) := by kernel_rfl

/-- The first k units of a string, as numbers. -/
def unitsTo (s : ByteArray) (k : Nat) : List Nat := (List.range k).map (unitAt s)
theorem unitsTo_succ (s : ByteArray) (k : Nat) : unitsTo s (k + 1) = unitsTo s k ++ [unitAt s k] := by simp [unitsTo, List.range_succ]
theorem unitsTo_length (s : ByteArray) (k : Nat) : (unitsTo s k).length = k := by simp [unitsTo]
def ints (l : List Nat) : List Int := l.map Int.ofNat
theorem ints_length (l : List Nat) : (ints l).length = l.length := List.length_map _
theorem ints_append (l m : List Nat) : ints (l ++ m) = ints l ++ ints m := List.map_append
theorem ints_getD (l : List Nat) (i : Nat) : (ints l).getD i 0 = ((l.getD i 0 : Nat) : Int) := by
  by_cases h : i < l.length
  · simp [ints, List.getD_eq_getElem?_getD, List.getElem?_eq_getElem h]
  · simp [ints, List.getD_eq_getElem?_getD, List.getElem?_eq_none (show l.length ≤ i by omega)]

theorem take_snocN (l : List Nat) (k : Nat) (h : k < l.length) : l.take (k + 1) = l.take k ++ [l.getD k 0] := by
  rw [List.take_succ_eq_append_getElem h, List.getD_eq_getElem?_getD, List.getElem?_eq_getElem h]; rfl

set_option maxHeartbeats 4000000 in
set_option maxRecDepth 100000 in
theorem str_any (a : Option Addr) (n cap : Nat) (l : List Nat) (w : World) (h : SliceR .i64 w a n cap (ints l)) (hf : Fits l) (hn : n ≤ 100000000) :
    Calls Tryd.prog 9 #[.slice a n cap] w fun e w' => e = .returned (.string (uS l)) ∧ Below w.heap.size w w' := by
  obtain ⟨i0, hi, hz0, hz1, hz2⟩ := info_parts infoByte
  obtain ⟨h1, h2, h3, h3', h4⟩ := h
  rw [ints_length] at h1
  have hm2 : IntKind.i64.wrap (2 * (n : Int)) = ((2 * n : Nat) : Int) := by rw [IntWalk.i64_in _ (by omega)]; omega
  go_enter Tryd.func9, Tryd.ntmps9
  go_wp2_with (at_make; refine wpList_make_own _ rfl _ _ 37 rfl w.heap.size 5 i0 (.int .u8 0) 1 Tryd.underlying37 hi hz0 hz1 .i64 .i64 _ (2 * n) rfl rfl (by first | rfl | omega) (by rw [hz2]; omega) (by unfold maxLen; omega) (Nat.le_refl _) ?_)
  intro w1 hown1 hg1
  have b1 := (Below.refl w.heap.size w).grown hg1 (Nat.le_refl _) (fun k hk => by cases hk)
  clear hm2
  go_wp2
  go_loopw [3, 4] (fun v i wr => ∃ k : Nat, k ≤ n ∧ i = .int .i64 k ∧ wr.ownsRow w.heap.size 5 1 v (2 * k) (Lib.byteCells (unitsB (l.take k))) ∧ Below w.heap.size w wr) (fun _ i _ => n - (intOf i).toNat)
  case atStart => exact ⟨0, Nat.zero_le _, rfl, hown1, b1⟩
  case round =>
    obtain ⟨k, hk, rfl, hown, hb⟩ := hrel
    by_cases hlt : k < n
    · obtain ⟨b, off, rfl, hbl, hcell⟩ := h4 (by omega)
      have hck := (hb.cell (p := ⟨b, off + k, none⟩) hbl).trans (hcell k hlt)
      rw [ints_getD] at hck
      have hul : l.getD k 0 < 65536 := by
        rw [List.getD_eq_getElem?_getD, List.getElem?_eq_getElem (by omega)]; exact hf _ (List.getElem_mem _)
      have hts := take_snocN l k (by omega)
      obtain ⟨u, hu⟩ : ∃ u, u = l.getD k 0 := ⟨_, rfl⟩
      rw [← hu] at hck hul hts
      have HT := Lib.hid hts
      clear hts h4 hcell h3' h1 hown1 hg1 b1 hu
      have hz := hb.size
      have hk0 : (0 : Int) ≤ (k : Int) := by omega
      have hk1 : (k : Int) < (n : Int) := by omega
      have y0 : (0 : Int) ≤ (u : Int) := by omega
      have hne : ∀ g, u3.ownBlock = some g → b ≠ g := fun g hg => by have := (hown.lt g hg).1; omega
      have hnb : u3.ownBlock ≠ some b := fun hg => hne b hg rfl
      have x1 : IntKind.u8.wrap ((u : Int) / 256) = (u : Int) / 256 := IntWalk.u8_in _ (by omega)
      have x2 : IntKind.u8.wrap ((u : Int) % 256) = (u : Int) % 256 := IntWalk.u8_in _ (by omega)
      have x3 : IntKind.i64.wrap ((u : Int) / 256) = (u : Int) / 256 := IntWalk.i64_in _ (by omega)
      have x4 : (u : Int).tdiv 256 = (u : Int) / 256 := Int.tdiv_eq_ediv_of_nonneg y0
      have x5 : (u : Int).tmod 256 = (u : Int) % 256 := Int.tmod_eq_emod_of_nonneg y0
      go_wp2_with fail
      go_region_held3 (fun w' => w'.cell? ⟨b, off + k, none⟩ = some (.int .i64 u)) (first | go_keep | (rw [hgrow.cell_far _ (by simp; omega) (Ne.symm hnb)]; assumption))
        ((refine step_append_lies _ (by rfl) _ _ _ (by rfl) w.heap.size 5 i0 _ 1 1 Tryd.underlying37 hi hz0 hz1 hz2 rfl (by omega) u3 (2 * k) _ (by rfl) ((hown.alloc _).drew) ⟨wr.heap.size, 0, none⟩ 2 2 [.int .u8 ((u : Int) / 256), .int .u8 ((u : Int) % 256)] (by rfl) (by rfl) (World.news_of_block (cs := #[.int .u8 ((u : Int) / 256), .int .u8 ((u : Int) % 256)]) (t := 5) (fr := (0, 0)) (heap_alloc_new wr _)) (by simp [Value.oneCell']) (by omega) (by unfold maxLen; omega) (by omega) (by simp; omega) (wr.heap.size + 1) (by simp) ?_; intro gg cap w1 hown1 hgrow hat hlt))
      all_goals
        have hb2 := ((hb.alloc hz (.cells #[.int .u8 ((u : Int) / 256), .int .u8 ((u : Int) % 256)] 5)).drew).grown hgrow (by simp; omega) (fun k' hk' => ((hown.alloc (.cells #[.int .u8 ((u : Int) / 256), .int .u8 ((u : Int) % 256)] 5)).lt k' hk').1)
        clear x1 x2 x3 x4 x5
        go_wp2
        go_roundw
        case rel =>
          refine ⟨k + 1, by omega, by go_num, ?_, hb2⟩
          rw [HT.out, unitsB_append, show unitsB [u] = unitB u from List.append_nil _]
          have := byteCells_unit (unitsB (l.take k)) (u : Int) y0 (by omega)
          rw [Int.toNat_natCast, List.append_assoc] at this
          rw [this]
          exact hown1
        case measure => simp [intOf]; omega
    · have hk2 : k = n := by omega
      have t1 : decide ((k : Int) < (n : Int)) = false := by simp; omega
      have hcv := conv_own _ _ _ _ _ hown
      rw [List.take_of_length_le (by omega)] at hcv
      clear hk2
      go_wp2
      go_ret
      exact ⟨rfl, hb⟩

end Go.Proofs.YtolfcmfilfjgfaaDoor
