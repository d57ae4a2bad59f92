/- The walk of the statement CodeNames. -/
import Derived.Test.YtipijgnbdnbljaaDoorCodN
import Derived.Lib.QuietBelow
set_option linter.unusedVariables false
set_option linter.unusedSimpArgs false
namespace Go.Proofs.YtipijgnbdnbljaaDoor
open Go.RowKit Go.Sort

theorem norm_mod2 (n m : Int) (hm : 0 < m) (h9 : m < 1000000000) : ∃ N : Nat, (wrap64 (n.tmod m + m)).tmod m = (N : Int) ∧ (N : Int) < m := by
  have h1 := Int.tmod_lt_of_pos n hm
  have h2 := Int.lt_tmod_of_pos n hm
  rw [IntWalk.wrap64_in _ (by omega)]
  rw [Int.tmod_eq_emod_of_nonneg (by omega)]
  have h3 := Int.emod_nonneg (n.tmod m + m) (by omega : m ≠ 0)
  have h4 := Int.emod_lt_of_pos (n.tmod m + m) hm
  exact ⟨((n.tmod m + m) % m).toNat, by omega, by omega⟩

theorem ba_list (a : ByteArray) : a.toList = a.data.toList := ByteArray.toList_eq a
theorem showB_list (k A B : Nat) : (showB k A B).data.toList = nms.getD k [] ++ [32] ++ Lib.decDigits A ++ [32] ++ Lib.decDigits B := by
  simp [showB, nmB, decB, ByteArray.data_append]
theorem dec01 : Lib.decDigits 0 = [48] ∧ Lib.decDigits 1 = [49] := ⟨by rw [Lib.decDigits]; rfl, by rw [Lib.decDigits]; rfl⟩
theorem showB_ne (k j : Nat) (hk : k < 88) (hj : j < 88) (h : k ≠ j) : ((showB k 0 0).toList == (showB j 0 0).toList) = false := by
  rw [beq_eq_false_iff_ne, ba_list, ba_list, showB_list, showB_list]
  intro e
  exact h (nmB_inj k j hk hj (List.append_cancel_right (List.append_cancel_right (List.append_cancel_right (List.append_cancel_right e)))))
theorem showB_A (k : Nat) : ((showB k 0 0).toList == (showB k 1 0).toList) = false := by
  rw [beq_eq_false_iff_ne, ba_list, ba_list, showB_list, showB_list, dec01.1, dec01.2]
  intro e
  simp at e
theorem showB_B (k : Nat) : ((showB k 0 0).toList == (showB k 0 1).toList) = false := by
  rw [beq_eq_false_iff_ne, ba_list, ba_list, showB_list, showB_list, dec01.1, dec01.2]
  intro e
  simp at e
theorem showB_empty (k : Nat) : (showB k 0 0).toList.isEmpty = false := by
  rw [ba_list, showB_list]; simp

set_option maxHeartbeats 8000000 in
set_option maxRecDepth 100000 in
theorem names_walk (a b : Int) (w : World) (h : Tb w) (CI : True) :
    Calls Tryd.prog 6 #[.int .i64 a, .int .i64 b] w fun e w' => e = .returned (.bool true) ∧ Below w.heap.size w w' := by
  have HT := Lib.hid h
  clear h CI
  obtain ⟨k, hk, hk2⟩ := norm_mod2 a 88 (by decide) (by decide)
  obtain ⟨j, hj, hj2⟩ := norm_mod2 b 88 (by decide) (by decide)
  have HK := Lib.hid hk
  have HJ := Lib.hid hj
  clear hk hj
  go_enter Tryd.func6, Tryd.ntmps6
  go_wp2_with fail
  refine (fit_any _ HT.out).mono ?_
  rintro e w1 ⟨rfl, b1⟩
  have hk := HK.out
  have hj := HJ.out
  go_wp2_with fail
  clear hk hj
  have bb := (b1.alloc b1.size (.cells #[.int .i64 ((k : Int) + 1), .int .i64 0, .int .i64 0] 36)).alloc (by have := b1.size; simp; omega) (.cells #[.int .i64 ((j : Int) + 1), .int .i64 0, .int .i64 0] 36)
  have gx := (Blk.new w1 36 #[.int .i64 ((k : Int) + 1), .int .i64 0, .int .i64 0]).alloc (.cells #[.int .i64 ((j : Int) + 1), .int .i64 0, .int .i64 0] 36)
  have gy := Blk.new (w1.alloc (.cells #[.int .i64 ((k : Int) + 1), .int .i64 0, .int .i64 0] 36)) 36 #[.int .i64 ((j : Int) + 1), .int .i64 0, .int .i64 0]
  rw [World.size_alloc] at gy
  generalize (w1.alloc (.cells #[.int .i64 ((k : Int) + 1), .int .i64 0, .int .i64 0] 36)).alloc (.cells #[.int .i64 ((j : Int) + 1), .int .i64 0, .int .i64 0] 36) = W at *
  have x0 : W.cell? ⟨w1.heap.size, 0, none⟩ = some (.int .i64 ((k : Int) + 1)) := by rw [gx.cell]; rfl
  have x1 : W.cell? ⟨w1.heap.size, 1, none⟩ = some (.int .i64 0) := by rw [gx.cell]; rfl
  have x2 : W.cell? ⟨w1.heap.size, 2, none⟩ = some (.int .i64 0) := by rw [gx.cell]; rfl
  have y0 : W.cell? ⟨w1.heap.size + 1, 0, none⟩ = some (.int .i64 ((j : Int) + 1)) := by rw [gy.cell]; rfl
  have y1 : W.cell? ⟨w1.heap.size + 1, 1, none⟩ = some (.int .i64 0) := by rw [gy.cell]; rfl
  have y2 : W.cell? ⟨w1.heap.size + 1, 2, none⟩ = some (.int .i64 0) := by rw [gy.cell]; rfl
  clear gx gy b1
  have Qx0 := fun d os => cell_regrown x0 d os
  have Qx1 := fun d os => cell_regrown x1 d os
  have Qx2 := fun d os => cell_regrown x2 d os
  have Qy0 := fun d os => cell_regrown y0 d os
  have Qy1 := fun d os => cell_regrown y1 d os
  have Qy2 := fun d os => cell_regrown y2 d os
  clear x0 x1 x2 y0 y1 y2
  have up := fun d os => bb.trans ((below_regrown W d os).mono bb.size)
  have H1 : ∀ V, Below w.heap.size w V → Calls Tryd.prog 15 #[.agg #[.int .i64 ((k : Int) + 1), .int .i64 0, .int .i64 0]] V (Ret (.string (showB k 0 0)) V) := fun V hV => show_any k 0 0 V (HT.out.below hV) (by omega) (by decide) (by decide)
  have H2 : ∀ V, Below w.heap.size w V → Calls Tryd.prog 15 #[.agg #[.int .i64 ((j : Int) + 1), .int .i64 0, .int .i64 0]] V (Ret (.string (showB j 0 0)) V) := fun V hV => show_any j 0 0 V (HT.out.below hV) (by omega) (by decide) (by decide)
  have H3 : ∀ V, Below w.heap.size w V → Calls Tryd.prog 15 #[.agg #[.int .i64 ((k : Int) + 1), .int .i64 1, .int .i64 0]] V (Ret (.string (showB k 1 0)) V) := fun V hV => show_any k 1 0 V (HT.out.below hV) (by omega) (by decide) (by decide)
  have H4 : ∀ V, Below w.heap.size w V → Calls Tryd.prog 15 #[.agg #[.int .i64 ((k : Int) + 1), .int .i64 0, .int .i64 1]] V (Ret (.string (showB k 0 1)) V) := fun V hV => show_any k 0 1 V (HT.out.below hV) (by omega) (by decide) (by decide)
  have s3 := showB_A k
  have s4 := showB_B k
  have s5 := showB_empty k
  have D1 := fun d os => Calls.regrown_of (H1 (grow (redrawn W d) os) (up d os))
  have D2 := fun d os => Calls.regrown_of (H2 (grow (redrawn W d) os) (up d os))
  have D3 := fun d os => Calls.regrown_of (H3 (grow (redrawn W d) os) (up d os))
  have D4 := fun d os => Calls.regrown_of (H4 (grow (redrawn W d) os) (up d os))
  clear up H1 H2 H3 H4
  have s6 : (!(showB k 0 0).toList.isEmpty) = true := by rw [s5]; rfl
  by_cases hkj : k = j
  case' pos =>
    subst hkj
    have s1 : ((showB k 0 0).toList == (showB k 0 0).toList) = true := by simp
    have s2 : ((k : Int) + 1 == (k : Int) + 1) = true := by simp
  case' neg =>
    have s1 := showB_ne k j (by omega) (by omega) hkj
    have s2 : ((k : Int) + 1 == (j : Int) + 1) = false := by rw [beq_eq_false_iff_ne]; omega
    have s7 : ((k : Int) == (j : Int)) = false := by rw [beq_eq_false_iff_ne]; omega
  all_goals
    try clear hkj
    generalize showB k 0 0 = S1 at *
    generalize showB k 1 0 = S3 at *
    generalize showB k 0 1 = S4 at *
    try generalize showB j 0 0 = S2 at *
    refine wp_region_quiet_below (by kernel_rfl) (by kernel_rfl) ?_
    repeat (first | go_big_quiet_step (first | with_reducible exact D1 _ _ | with_reducible exact D2 _ _ | with_reducible exact D3 _ _ | with_reducible exact D4 _ _) | quiet_step (first | with_reducible exact D1 _ _ | with_reducible exact D2 _ _ | with_reducible exact D3 _ _ | with_reducible exact D4 _ _))
    refine wpQuiet_nil ?_
    intro _ hw'
    obtain ⟨⟨dq, osq⟩, hw''⟩ := hw'
    subst hw''
    clear D1 D2 D3 D4 Qx0 Qx1 Qx2 Qy0 Qy1 Qy2
    have bq := below_regrown W dq osq
    have be := bb.trans (bq.mono bb.size)
    go_wp2
    go_ret
    exact ⟨by simp, be⟩
end Go.Proofs.YtipijgnbdnbljaaDoor
