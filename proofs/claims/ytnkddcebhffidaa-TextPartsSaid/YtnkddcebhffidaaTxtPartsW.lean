/- The walk of the statement TextParts. -/
import Derived.Test.YtnkddcebhffidaaTxtS
import Derived.Test.YtnkddcebhffidaaTxtD
import Derived.BigCall
set_option linter.unusedVariables false
namespace Go.Proofs.Ytnkddcebhffidaa
open Go.RowKit

theorem comp_uS (l m : List Nat) (hl : Fits l) (hm : Fits m) (w : World) :
    Calls Try.prog 14 #[.string (uS l), .string (uS m)] w fun e w' => e = .returned (.int .i64 (cmpL l m)) ∧ w = w' := by
  have := compare_any (uS l) (uS m) w
  rw [show (uS l).data.toList = unitsB l from rfl, show (uS m).data.toList = unitsB m from rfl, compareBytes_units l m hl hm] at this
  exact this

theorem index_uS (l : List Nat) (hl : Fits l) (w : World) (hn : l.length ≤ 100000000) :
    Calls Try.prog 10 #[.string (uS l)] w fun e w' => e = .returned (.int .i64 (idxL l)) ∧ ∃ n, w' = w.drewN n := by
  have := index_any (uS l) w (by rw [uS_size]; omega)
  rw [indexOf_uS l hl] at this
  exact this

theorem sub_uS (l : List Nat) (n : Nat) (fr to : Int) (w : World) (hn : l.length = n) (hn2 : n ≤ 100000000) :
    Calls Try.prog 17 #[.string (uS l), .int .i64 fr, .int .i64 to] w fun e w' => e = .returned (.string (uS ((l.take (subTo n to)).drop (subFrom n fr to)))) ∧ w = w' := by
  have := sub_any (uS l) fr to w (by rw [uS_size]; omega)
  rw [uS_size, show 2 * l.length / 2 = n by omega, uS_extract l _ _ (subFrom_le n fr to) (by rw [hn]; exact subTo_le n to)] at this
  exact this

theorem sub_uS' (l : List Nat) (n : Nat) (fr to : Int) (T F : Nat) (w : World) (hn : Hid (l.length = n)) (hn2 : n ≤ 100000000) (hT : Hid (subTo n to = T)) (hF : Hid (subFrom n fr to = F)) :
    Calls Try.prog 17 #[.string (uS l), .int .i64 fr, .int .i64 to] w fun e w' => e = .returned (.string (uS ((l.take T).drop F))) ∧ w = w' := by
  have := sub_uS l n fr to w hn.out hn2
  rw [hT.out, hF.out] at this
  exact this

theorem ps_step {B : Nat} {W w w' : World} {x y : Value} (h : w.cell? ⟨B, 0, none⟩ = some x ∧ w.cell? ⟨B, 1, none⟩ = some y ∧ Below B W w ∧ B < w.heap.size) (b : Below w.heap.size w w') :
    w'.cell? ⟨B, 0, none⟩ = some x ∧ w'.cell? ⟨B, 1, none⟩ = some y ∧ Below B W w' ∧ B < w'.heap.size :=
  ⟨(b.cell (p := ⟨B, 0, none⟩) h.2.2.2).trans h.1, (b.cell (p := ⟨B, 1, none⟩) h.2.2.2).trans h.2.1, h.2.2.1.trans (b.mono (Nat.le_of_lt h.2.2.2)), Nat.lt_of_lt_of_le h.2.2.2 b.size⟩

theorem fits_sub {l : List Nat} (h : Fits l) (a b : Nat) : Fits ((l.take a).drop b) := fun u hu => h u (List.mem_of_mem_take (List.mem_of_mem_drop hu))

set_option maxHeartbeats 4000000 in
set_option maxRecDepth 100000 in
theorem parts_long (a : Option Addr) (n cap : Nat) (a' : Option Addr) (n' cap' : Nat) (x y : Int) (w : World) (hm : n ≤ 9223372036854775807) (hm' : n' ≤ 9223372036854775807) (h : 3000 < n ∨ 3000 < n') :
    Calls Try.prog 5 #[.slice a n cap, .slice a' n' cap', .agg #[.int .i64 x, .int .i64 y]] w fun e w' => e = .returned (.bool true) ∧ Below w.heap.size w w' := by
  by_cases h1 : 3000 < n
  · have t1 : decide ((3000 : Int) < (n : Int)) = true := by simp; omega
    clear h
    go_enter Try.func5, Try.ntmps5
    go_wp2_with fail
    refine (fit_any _).mono ?_
    rintro e w1 ⟨rfl, b1⟩
    go_wp2
    go_ret
    exact ⟨rfl, ((Below.refl _ _).alloc (Nat.le_refl _) _).trans (b1.mono (by simp))⟩
  · have t1 : decide ((3000 : Int) < (n : Int)) = false := by simp; omega
    have t2 : decide ((3000 : Int) < (n' : Int)) = true := by simp; omega
    clear h
    go_enter Try.func5, Try.ntmps5
    go_wp2_with fail
    refine (fit_any _).mono ?_
    rintro e w1 ⟨rfl, b1⟩
    go_wp2
    go_ret
    exact ⟨rfl, ((Below.refl _ _).alloc (Nat.le_refl _) _).trans (b1.mono (by simp))⟩

set_option maxHeartbeats 8000000 in
set_option maxRecDepth 100000 in
theorem parts_short (a : Option Addr) (n cap : Nat) (a' : Option Addr) (n' cap' : Nat) (x y : Int) (w : World) (l l' : List Nat) (hR : SliceR .u16 w a n cap (ints l)) (hR' : SliceR .u16 w a' n' cap' (ints l'))
    (hl : l.length = n) (hl' : l'.length = n') (hf : Fits l) (hf' : Fits l') (h1 : n ≤ 3000) (h2 : n' ≤ 3000) :
    Calls Try.prog 5 #[.slice a n cap, .slice a' n' cap', .agg #[.int .i64 x, .int .i64 y]] w fun e w' => e = .returned (.bool true) ∧ Below w.heap.size w w' := by
  have t1 : decide ((3000 : Int) < (n : Int)) = false := by simp; omega
  have t2 : decide ((3000 : Int) < (n' : Int)) = false := by simp; omega
  have HL := Lib.hid hl
  have HL' := Lib.hid hl'
  clear hl hl'
  obtain ⟨i0, hi, hz0, hz1, hz2⟩ := info_parts (show (Try.prog.info? 52).map (fun i => (i.zero, i.size, i.bytes)) = some (some (.int .u16 0), 1, 2) by kernel_rfl)
  have e1 := subTo_eq n y
  have e2 := subFrom_eq n x y
  have q1 := subTo_le n y
  have q2 := subFrom_le n x y
  obtain ⟨T, hT⟩ : ∃ T, subTo n y = T := ⟨_, rfl⟩
  obtain ⟨F, hF⟩ : ∃ F, subFrom n x y = F := ⟨_, rfl⟩
  rw [hT] at e1 e2 q1 q2
  rw [hF] at e2 q2
  have HT := Lib.hid hT
  have HF := Lib.hid hF
  clear hT hF
  have hcap := hR.2.1
  have hso := sliceOp (P := Try.prog) Try.underlying29 (by kernel_rfl) hi hz1 a n cap F T q2 q1 hcap
  have hRs := hR.sub F T q2 q1
  rw [show (List.take T (ints l)).drop F = ints ((l.take T).drop F) by simp [ints, List.map_drop, List.map_take]] at hRs
  go_enter Try.func5, Try.ntmps5
  go_wp2_with fail
  refine (fit_any _).mono ?_
  rintro e w1 ⟨rfl, b1⟩
  have k1 : w1.cell? ⟨w.heap.size, 0, none⟩ = some (.int .i64 x) := (b1.cell (p := ⟨w.heap.size, 0, none⟩) (by simp)).trans (by rw [Lib.cell_of_heap (heap_alloc_new w _)]; rfl)
  have k2 : w1.cell? ⟨w.heap.size, 1, none⟩ = some (.int .i64 y) := (b1.cell (p := ⟨w.heap.size, 1, none⟩) (by simp)).trans (by rw [Lib.cell_of_heap (heap_alloc_new w _)]; rfl)
  have bb : Below w.heap.size w w1 := ((Below.refl _ _).alloc (Nat.le_refl _) _).trans (b1.mono (by simp))
  have hsz : w.heap.size < w1.heap.size := by have := b1.size; simp at this; omega
  clear b1
  go_wp2_with fail
  refine (lawStr_any a n cap l _ (hR.below bb) hf (by omega)).mono ?_
  rintro e w2 ⟨rfl, b2⟩
  have bb2 := bb.trans (b2.mono bb.size)
  have k3 := (b2.cell (p := ⟨w.heap.size, 0, none⟩) hsz).trans k1
  have k4 := (b2.cell (p := ⟨w.heap.size, 1, none⟩) hsz).trans k2
  have hsz2 := Nat.lt_of_lt_of_le hsz b2.size
  clear bb k1 k2 hsz b2
  go_wp2_with fail
  refine (lawStr_any a' n' cap' l' _ (hR'.below bb2) hf' (by omega)).mono ?_
  rintro e w3 ⟨rfl, b3⟩
  have bb3 := bb2.trans (b3.mono bb2.size)
  have k5 := (b3.cell (p := ⟨w.heap.size, 0, none⟩) hsz2).trans k3
  have k6 := (b3.cell (p := ⟨w.heap.size, 1, none⟩) hsz2).trans k4
  have hsz3 := Nat.lt_of_lt_of_le hsz2 b3.size
  clear bb2 k3 k4 hsz2 b3
  go_wp2_with fail
  have z1 := uS_size l
  have z2 := uS_size l'
  refine (join_yes (uS l) (uS l') _ (show _ ≤ 16384 by rw [z1, z2, HL.out, HL'.out]; omega) (by rw [z1, HL.out]; omega) (by rw [z2, HL'.out]; omega)).mono ?_
  rintro e w' ⟨rfl, rfl⟩
  have zb1 : l.length ≤ 3000 := by rw [HL.out]; exact h1
  have zb2 : l'.length ≤ 3000 := by rw [HL'.out]; exact h2
  have sj : ((uS l ++ uS l').toList != (uS l ++ uS l').toList) = false := by simp
  go_wp2_with fail
  refine (comp_uS l l' hf hf' _).mono ?_
  rintro e w' ⟨rfl, rfl⟩
  go_wp2_with fail
  refine (list_uS l hf _ (by rw [HL.out]; omega)).mono ?_
  rintro e w4 ⟨a4, cap4, rfl, hR4, hB4, b4⟩
  go_wp2_with fail
  refine (list_uS l' hf' _ (by rw [HL'.out]; omega)).mono ?_
  rintro e w5 ⟨a5, cap5, rfl, hR5, hB5, b5⟩
  go_wp2_with fail
  refine (refCompare_any a4 _ cap4 l a5 _ cap5 l' _ (hR4.below b5) hR5).mono ?_
  rintro e w6 ⟨rfl, m6, rfl⟩
  have bb5 := bb3.trans ((b4.trans (b5.mono b4.size)).mono bb3.size)
  have k7 := ((b4.trans (b5.mono b4.size)).cell (p := ⟨w.heap.size, 0, none⟩) hsz3).trans k5
  have k8 := ((b4.trans (b5.mono b4.size)).cell (p := ⟨w.heap.size, 1, none⟩) hsz3).trans k6
  have hsz5 := Nat.lt_of_lt_of_le hsz3 (b4.trans (b5.mono b4.size)).size
  have cc : ((cmpL l l' : Int) != cmpL l l') = false := by simp
  clear bb3 k5 k6 hsz3 b4 b5 hR4 hB4 hR5 hB5
  go_wp2_with fail
  have kx := Lib.hid cc
  have hTF : T - F ≤ 100000000 := by omega
  have sS : Below w.heap.size w (w5.drewN m6).drew := (below_drewN bb5 m6).drew
  clear cc sj hR hR' q1 q2 e1 e2 t1 t2 hcap
  have hnl : l.length ≤ 100000000 := by omega
  go_region_held3 (fun w' => w'.cell? ⟨w.heap.size, 0, none⟩ = some (.int .i64 x) ∧ w'.cell? ⟨w.heap.size, 1, none⟩ = some (.int .i64 y) ∧ Below w.heap.size w w' ∧ w.heap.size < w'.heap.size)
    (first
      | exact ⟨k7, k8, sS, hsz5⟩
      | exact ps_step (by assumption) bq
      | exact ps_step (by assumption) (below_drewN (Below.refl _ _) _)
      | (go_split_ands; exact ps_step ⟨by assumption, by assumption, by assumption, by assumption⟩ bq)
      | (go_split_ands; exact ps_step ⟨by assumption, by assumption, by assumption, by assumption⟩ (below_drewN (Below.refl _ _) _))
      | go_keep)
    (first
      | (go_at_call 17; refine (sub_uS' l n x y T F _ HL (by omega) HT HF).mono ?_; rintro e w' ⟨rfl, rfl⟩)
      | (go_at_call 13; refine (lawStr_any _ _ _ ((l.take T).drop F) _ (hRs.below (by assumption)) (fits_sub hf T F) hTF).mono ?_; rintro e w' ⟨rfl, bq⟩)
      | (go_at_call 10; refine (index_uS l hf _ hnl).mono ?_; rintro e w' ⟨rfl, mq, rfl⟩)
      | (go_at_call 16; refine (list_uS l hf _ hnl).mono ?_; rintro e w' ⟨aq, cq, rfl, hRq, hBq, bq⟩)
      | (go_at_call 18; refine (refIndex_any _ _ _ l _ hRq hf).mono ?_; rintro e w' ⟨rfl, mq, rfl⟩))
  all_goals
    go_wp2
    go_ret
    refine ⟨by simp, ?_⟩
    first
      | assumption
      | (go_split_ands; assumption)

theorem parts_walk (a : Option Addr) (n cap : Nat) (z : List Int) (a' : Option Addr) (n' cap' : Nat) (z' : List Int) (x y : Int) (w : World) (h : IsRow .u16 w a n cap z) (h' : IsRow .u16 w a' n' cap' z') :
    Calls Try.prog 5 #[.slice a n cap, .slice a' n' cap', .agg #[.int .i64 x, .int .i64 y]] w fun e w' => e = .returned (.bool true) ∧ Below w.heap.size w w' := by
  obtain ⟨l, hR, hf, hl⟩ := units_in h
  obtain ⟨l', hR', hf', hl'⟩ := units_in h'
  by_cases hs : 3000 < n ∨ 3000 < n'
  · exact parts_long a n cap a' n' cap' x y w (by have := hR.2.1; have := hR.2.2.1; unfold maxLen at this; omega) (by have := hR'.2.1; have := hR'.2.2.1; unfold maxLen at this; omega) hs
  · exact parts_short a n cap a' n' cap' x y w l l' hR hR' hl hl' hf hf' (by omega) (by omega)
end Go.Proofs.Ytnkddcebhffidaa
