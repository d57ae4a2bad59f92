/- The walk of the statement NumHolds. -/
import Derived.Test.YtdacpebijljckaaDoorNumU
set_option linter.unusedVariables false
set_option linter.unusedSimpArgs false
namespace Go.Proofs.YtdacpebijljckaaDoor
open Go.RowKit Go.Sort

set_option maxHeartbeats 8000000 in
set_option maxRecDepth 100000 in
theorem holds_core (a b ka na kb nb da sa db sb c mk mn : Int) (ma mb l ok e : Bool) (T : ByteArray) (w : World)
    (CA : ∀ W, Calls Tryd.prog 12 #[.int .i64 a] W (Ret (VN ka na) W))
    (CB : ∀ W, Calls Tryd.prog 12 #[.int .i64 b] W (Ret (VN kb nb) W))
    (CO : ∀ W, Calls Tryd.prog 18 #[VN ka na] W fun e w' => e = .returned (RV da ma sa) ∧ w' = (W.alloc (VC ka na)).alloc (RC da ma sa))
    (CP : ∀ W, Calls Tryd.prog 18 #[VN kb nb] W fun e w' => e = .returned (RV db mb sb) ∧ w' = (W.alloc (VC kb nb)).alloc (RC db mb sb))
    (CL : ∀ W, Calls Tryd.prog 19 #[VN ka na, VN kb nb] W (Ret (.tuple #[.bool l, .bool ok]) W))
    (CC : ∀ W, Calls Tryd.prog 20 #[RV da ma sa, RV db mb sb] W (Ret (.int .i64 c) W))
    (CE : ∀ W, Calls Tryd.prog 21 #[VN ka na, VN kb nb] W (Ret (.bool e) W))
    (CT : ∀ W, Below w.heap.size w W → Calls Tryd.prog 22 #[VN ka na] W (Ret (.string T) W))
    (CU : ∀ W, Below w.heap.size w W → Calls Tryd.prog 23 #[RV da ma sa] W (Ret (.string T) W))
    (CI : ∀ W, Calls Tryd.prog 11 #[VN ka na] W (Ret (.bool true) W))
    (CN : ∀ W, Calls Tryd.prog 14 #[VN ka na] W (Ret (VN mk mn) W))
    (CM : ∀ W, Calls Tryd.prog 14 #[VN mk mn] W (Ret (VN ka na) W))
    (hh : (l = true ∧ ok = true ∧ c = -1 ∧ e = false) ∨ (l = false ∧ ok = true ∧ c = 0 ∧ e = true) ∨ (l = false ∧ ok = true ∧ c = 1 ∧ e = false) ∨ (l = false ∧ ok = false ∧ c = 2 ∧ e = false)) :
    Calls Tryd.prog 6 #[.int .i64 a, .int .i64 b] w fun e w' => e = .returned (.bool true) ∧ Below w.heap.size w w' := by
  have HCA := Lib.hid CA
  have HCB := Lib.hid CB
  have HCO := Lib.hid CO
  have HCP := Lib.hid CP
  have HCL := Lib.hid CL
  have HCC := Lib.hid CC
  have HCE := Lib.hid CE
  have HCT := Lib.hid CT
  have HCU := Lib.hid CU
  have HCI := Lib.hid CI
  have HCN := Lib.hid CN
  have HCM := Lib.hid CM
  have Hhh := Lib.hid hh
  clear CA CB CO CP CL CC CE CT CU CI CN CM hh
  go_enter Tryd.func6, Tryd.ntmps6
  go_wp2_with fail
  refine (fit_any _).mono ?_
  rintro e w1 ⟨rfl, b1⟩
  go_wp2_with fail
  refine (HCA.out _).mono ?_
  rintro e w2 ⟨rfl, b2⟩
  go_wp2_with fail
  refine (HCB.out _).mono ?_
  rintro e w3 ⟨rfl, b3⟩
  have hK := ((Kp.begin (b1.trans ((b2.trans (b3.mono b2.size)).mono b1.size))).new (.int .i64 ka) (.int .i64 na) (.string ⟨#[]⟩) 25).new (.int .i64 kb) (.int .i64 nb) (.string ⟨#[]⟩) 25
  rw [World.size_alloc] at hK
  clear b1 b2 b3
  go_upto_region 4 with fail
  go_cut [7, 8] (fun s7 s8 wx => ∃ g h, s7 = .pointer (some ⟨g, 0, none⟩) ∧ s8 = .pointer (some ⟨h, 0, none⟩) ∧ Kp w wx.heap.size wx [(h, Value.int .u8 db, Value.bool mb, Value.int .i64 sb), (g, Value.int .u8 da, Value.bool ma, Value.int .i64 sa), (w3.heap.size + 1, Value.int .i64 kb, Value.int .i64 nb, Value.string ⟨#[]⟩), (w3.heap.size, Value.int .i64 ka, Value.int .i64 na, Value.string ⟨#[]⟩)])
  case first =>
    have hm0 : (w3.heap.size, Value.int .i64 ka, Value.int .i64 na, Value.string ⟨#[]⟩) ∈ [(w3.heap.size + 1, Value.int .i64 kb, Value.int .i64 nb, Value.string ⟨#[]⟩), (w3.heap.size, Value.int .i64 ka, Value.int .i64 na, Value.string ⟨#[]⟩)] := by simp
    have hm1 : (w3.heap.size + 1, Value.int .i64 kb, Value.int .i64 nb, Value.string ⟨#[]⟩) ∈ [(w3.heap.size + 1, Value.int .i64 kb, Value.int .i64 nb, Value.string ⟨#[]⟩), (w3.heap.size, Value.int .i64 ka, Value.int .i64 na, Value.string ⟨#[]⟩)] := by simp
    go_region_held3 (fun W => W.cell? ⟨w3.heap.size, 0, none⟩ = some (Value.int .i64 ka) ∧ W.cell? ⟨w3.heap.size, 1, none⟩ = some (Value.int .i64 na) ∧ W.cell? ⟨w3.heap.size, 2, none⟩ = some (Value.string ⟨#[]⟩) ∧ W.cell? ⟨w3.heap.size + 1, 0, none⟩ = some (Value.int .i64 kb) ∧ W.cell? ⟨w3.heap.size + 1, 1, none⟩ = some (Value.int .i64 nb) ∧ W.cell? ⟨w3.heap.size + 1, 2, none⟩ = some (Value.string ⟨#[]⟩) ∧ Kp w (w3.heap.size + 1 + 1) W [(w3.heap.size + 1, Value.int .i64 kb, Value.int .i64 nb, Value.string ⟨#[]⟩), (w3.heap.size, Value.int .i64 ka, Value.int .i64 na, Value.string ⟨#[]⟩)])
      (((with_reducible refine Kp.q2 ?_ hm0 hm1); (repeat (first | with_reducible exact hK | (with_reducible refine Kp.drew ?_) | (with_reducible refine Kp.alloc ?_ _) | (with_reducible refine Kp.set ?_ _ _ _ (by omega))))))
      (first
        | (go_at_call 18; (with_reducible refine (HCO.out _).mono ?_); rintro e w' ⟨rfl, rfl⟩)
        | (go_at_call 18; (with_reducible refine (HCP.out _).mono ?_); rintro e w' ⟨rfl, rfl⟩))
    all_goals
      (try go_split_ands)
      go_wp2_with fail
      go_meet
      refine ⟨_, _, rfl, rfl, Kp.ins (Kp.ins (B := w3.heap.size + 1 + 1) ?_ _ _ _ _ ?_ ⟨?_, ?_, ?_⟩) _ _ _ _ ?_ ⟨?_, ?_, ?_⟩⟩
      all_goals first
        | with_reducible assumption
        | (simp; done)
        | (simp; omega)
        | (simp [go_sem]; done)
  case rest =>
    obtain ⟨g, h, rfl, rfl, hK4⟩ := hcut
    clear hK
    obtain ⟨x0, x1, x2⟩ := hK4.at (w3.heap.size) (Value.int .i64 ka) (Value.int .i64 na) (Value.string ⟨#[]⟩) (by simp)
    obtain ⟨y0, y1, y2⟩ := hK4.at (w3.heap.size + 1) (Value.int .i64 kb) (Value.int .i64 nb) (Value.string ⟨#[]⟩) (by simp)
    go_wp2_with fail
    refine (HCL.out _).mono ?_
    rintro e w5 ⟨rfl, b5⟩
    have hK5 := hK4.step b5
    clear x0 x1 x2 y0 y1 y2 b5 hK4
    obtain ⟨x0, x1, x2⟩ := hK5.at (g) (Value.int .u8 da) (Value.bool ma) (Value.int .i64 sa) (by simp)
    obtain ⟨y0, y1, y2⟩ := hK5.at (h) (Value.int .u8 db) (Value.bool mb) (Value.int .i64 sb) (by simp)
    go_wp2_with fail
    refine (HCC.out _).mono ?_
    rintro e w6 ⟨rfl, b6⟩
    have hK6 := hK5.step b6
    clear x0 x1 x2 y0 y1 y2 b6 hK5
    obtain ⟨x0, x1, x2⟩ := hK6.at (w3.heap.size) (Value.int .i64 ka) (Value.int .i64 na) (Value.string ⟨#[]⟩) (by simp)
    obtain ⟨y0, y1, y2⟩ := hK6.at (w3.heap.size + 1) (Value.int .i64 kb) (Value.int .i64 nb) (Value.string ⟨#[]⟩) (by simp)
    obtain ⟨m0, m1, m2⟩ := hK6.at (g) (Value.int .u8 da) (Value.bool ma) (Value.int .i64 sa) (by simp)
    have Qx0 := fun d os => cell_regrown x0 d os
    have Qx1 := fun d os => cell_regrown x1 d os
    have Qx2 := fun d os => cell_regrown x2 d os
    have Qy0 := fun d os => cell_regrown y0 d os
    have Qy1 := fun d os => cell_regrown y1 d os
    have Qy2 := fun d os => cell_regrown y2 d os
    have Qm0 := fun d os => cell_regrown m0 d os
    have Qm1 := fun d os => cell_regrown m1 d os
    have Qm2 := fun d os => cell_regrown m2 d os
    clear x0 x1 x2 y0 y1 y2 m0 m1 m2
    have bb := hK6.bel
    have up := fun d os => bb.trans ((below_regrown w6 d os).mono bb.size)
    have DE := fun d os => Calls.regrown_of (HCE.out (grow (redrawn w6 d) os))
    have DT := fun d os => Calls.regrown_of (HCT.out (grow (redrawn w6 d) os) (up d os))
    have DU := fun d os => Calls.regrown_of (HCU.out (grow (redrawn w6 d) os) (up d os))
    have DI := fun d os => Calls.regrown_of (HCI.out (grow (redrawn w6 d) os))
    have DN := fun d os => Calls.regrown_of (HCN.out (grow (redrawn w6 d) os))
    have DM := fun d os => Calls.regrown_of (HCM.out (grow (redrawn w6 d) os))
    clear up
    go_wp2_with fail
    rcases Hhh.out with ⟨rfl, rfl, rfl, rfl⟩ | ⟨rfl, rfl, rfl, rfl⟩ | ⟨rfl, rfl, rfl, rfl⟩ | ⟨rfl, rfl, rfl, rfl⟩
    all_goals
      refine wp_region_quiet_below (by kernel_rfl) (by kernel_rfl) ?_
      repeat (first | go_big_quiet_step (first | with_reducible exact DE _ _ | with_reducible exact DT _ _ | with_reducible exact DU _ _ | with_reducible exact DI _ _ | with_reducible exact DN _ _ | with_reducible exact DM _ _) | quiet_step (first | with_reducible exact DE _ _ | with_reducible exact DT _ _ | with_reducible exact DU _ _ | with_reducible exact DI _ _ | with_reducible exact DN _ _ | with_reducible exact DM _ _))
      refine wpQuiet_nil ?_
      intro _ hw'
      obtain ⟨⟨dq, osq⟩, hw''⟩ := hw'
      subst hw''
      clear DE DT DU DI DN DM Qx0 Qx1 Qx2 Qy0 Qy1 Qy2 Qm0 Qm1 Qm2
      have bq := below_regrown w6 dq osq
      have be := bb.trans (bq.mono bb.size)
      go_wp2
      go_ret
      exact ⟨by simp, be⟩
end Go.Proofs.YtdacpebijljckaaDoor
