/- The walk of the statement NumDoes. -/
import Derived.Test.YtdacpebijljckaaDoorNumV
import Derived.Test.YtdacpebijljckaaDoorNumH
import Derived.Lib.SlBytesConst
set_option linter.unusedVariables false
set_option linter.unusedSimpArgs false
namespace Go.Proofs.YtdacpebijljckaaDoor
open Go.RowKit Go.Sort

/-- The four signs, as bytes in a block of the call's own. -/
def Signs4 (q : Nat) (W : World) : Prop := q < W.heap.size ∧ W.cell? ⟨q, 0, none⟩ = some (.int .u8 43) ∧ W.cell? ⟨q, 1, none⟩ = some (.int .u8 45) ∧ W.cell? ⟨q, 2, none⟩ = some (.int .u8 42) ∧ W.cell? ⟨q, 3, none⟩ = some (.int .u8 47)
theorem Signs4.step {q : Nat} {W W' : World} (h : Signs4 q W) (b : Below W.heap.size W W') : Signs4 q W' :=
  ⟨Nat.lt_of_lt_of_le h.1 b.size, (b.cell (p := ⟨q, 0, none⟩) h.1).trans h.2.1, (b.cell (p := ⟨q, 1, none⟩) h.1).trans h.2.2.1, (b.cell (p := ⟨q, 2, none⟩) h.1).trans h.2.2.2.1, (b.cell (p := ⟨q, 3, none⟩) h.1).trans h.2.2.2.2⟩
theorem signs4_new (W : World) : Signs4 W.heap.size (W.alloc (.cells #[.int .u8 43, .int .u8 45, .int .u8 42, .int .u8 47] 5 (4, 5))) :=
  ⟨by simp, by rw [Lib.cell_of_heap (heap_alloc_new W _)]; rfl, by rw [Lib.cell_of_heap (heap_alloc_new W _)]; rfl, by rw [Lib.cell_of_heap (heap_alloc_new W _)]; rfl, by rw [Lib.cell_of_heap (heap_alloc_new W _)]; rfl⟩

theorem At.step {W W' : World} {b : Nat} {k n : Int} (h : At W b k n) (hb : b < W.heap.size) (bq : Below W.heap.size W W') : At W' b k n :=
  ⟨(bq.cell (p := ⟨b, 0, none⟩) hb).trans h.1, (bq.cell (p := ⟨b, 1, none⟩) hb).trans h.2.1, (bq.cell (p := ⟨b, 2, none⟩) hb).trans h.2.2⟩

set_option maxHeartbeats 16000000 in
set_option maxRecDepth 100000 in
theorem does_core (a b ka na kb nb da sa db sb rk rn dr sr pk0 pn0 d0 s0 pk1 pn1 d1 s1 pk2 pn2 d2 s2 pk3 pn3 d3 s3 : Int) (ma mb mr m0 ok0 m1 ok1 m2 ok2 m3 ok3 : Bool) (w : World)
    (CA : ∀ W, Calls Tryd.prog 12 #[.int .i64 a] W (Ret (VN ka na) W))
    (CB : ∀ W, Calls Tryd.prog 12 #[.int .i64 b] W (Ret (VN kb nb) W))
    (CO : ∀ W, Calls Tryd.prog 18 #[VN ka na] W fun e w' => e = .returned (RV da ma sa) ∧ w' = (W.alloc (VC ka na)).alloc (RC da ma sa))
    (CP : ∀ W, Calls Tryd.prog 18 #[VN kb nb] W fun e w' => e = .returned (RV db mb sb) ∧ w' = (W.alloc (VC kb nb)).alloc (RC db mb sb))
    (CR : ∀ W, Calls Tryd.prog 26 #[VN ka na, VN kb nb] W (Ret (VN rk rn) W))
    (CQ : ∀ W, Calls Tryd.prog 27 #[RV da ma sa, RV db mb sb] W (Ret (RV dr mr sr) W))
    (CV : ∀ W, Calls Tryd.prog 25 #[RV dr mr sr] W (Ret (VN rk rn) W))
    (C0 : ∀ W, Calls Tryd.prog 16 #[VN ka na, VN kb nb] W (Ret (V2 (pk0, pn0, ok0)) W))
    (D0 : ∀ W, Calls Tryd.prog 24 #[.int .u8 43, RV da ma sa, RV db mb sb] W (Ret (RT d0 m0 s0 ok0) W))
    (U0 : ok0 = true → ∀ W, Calls Tryd.prog 25 #[RV d0 m0 s0] W (Ret (VN pk0 pn0) W))
    (Z0 : ok0 = false → pk0 = 0 ∧ pn0 = 0)
    (C1 : ∀ W, Calls Tryd.prog 17 #[VN ka na, VN kb nb] W (Ret (V2 (pk1, pn1, ok1)) W))
    (D1 : ∀ W, Calls Tryd.prog 24 #[.int .u8 45, RV da ma sa, RV db mb sb] W (Ret (RT d1 m1 s1 ok1) W))
    (U1 : ok1 = true → ∀ W, Calls Tryd.prog 25 #[RV d1 m1 s1] W (Ret (VN pk1 pn1) W))
    (Z1 : ok1 = false → pk1 = 0 ∧ pn1 = 0)
    (C2 : ∀ W, Calls Tryd.prog 13 #[VN ka na, VN kb nb] W (Ret (V2 (pk2, pn2, ok2)) W))
    (D2 : ∀ W, Calls Tryd.prog 24 #[.int .u8 42, RV da ma sa, RV db mb sb] W (Ret (RT d2 m2 s2 ok2) W))
    (U2 : ok2 = true → ∀ W, Calls Tryd.prog 25 #[RV d2 m2 s2] W (Ret (VN pk2 pn2) W))
    (Z2 : ok2 = false → pk2 = 0 ∧ pn2 = 0)
    (C3 : ∀ W, Calls Tryd.prog 15 #[VN ka na, VN kb nb] W (Ret (V2 (pk3, pn3, ok3)) W))
    (D3 : ∀ W, Calls Tryd.prog 24 #[.int .u8 47, RV da ma sa, RV db mb sb] W (Ret (RT d3 m3 s3 ok3) W))
    (U3 : ok3 = true → ∀ W, Calls Tryd.prog 25 #[RV d3 m3 s3] W (Ret (VN pk3 pn3) W))
    (Z3 : ok3 = false → pk3 = 0 ∧ pn3 = 0) :
    Calls Tryd.prog 7 #[.int .i64 a, .int .i64 b] w fun e w' => e = .returned (.bool true) ∧ Below w.heap.size w w' := by
  have HCA := Lib.hid CA
  have HCB := Lib.hid CB
  have HCO := Lib.hid CO
  have HCP := Lib.hid CP
  have HCR := Lib.hid CR
  have HCQ := Lib.hid CQ
  have HCV := Lib.hid CV
  have HC0 := Lib.hid C0
  have HD0 := Lib.hid D0
  have HU0 := Lib.hid U0
  have HZ0 := Lib.hid Z0
  have HC1 := Lib.hid C1
  have HD1 := Lib.hid D1
  have HU1 := Lib.hid U1
  have HZ1 := Lib.hid Z1
  have HC2 := Lib.hid C2
  have HD2 := Lib.hid D2
  have HU2 := Lib.hid U2
  have HZ2 := Lib.hid Z2
  have HC3 := Lib.hid C3
  have HD3 := Lib.hid D3
  have HU3 := Lib.hid U3
  have HZ3 := Lib.hid Z3
  clear CA CB CO CP CR CQ CV C0 D0 U0 Z0 C1 D1 U1 Z1 C2 D2 U2 Z2 C3 D3 U3 Z3
  go_enter Tryd.func7, Tryd.ntmps7
  go_wp2_with fail
  refine (fit_any _).mono ?_
  rintro e w1 ⟨rfl, b1⟩
  go_wp2_with fail
  refine (HCA.out _).mono ?_
  rintro e w2 ⟨rfl, b2⟩
  go_wp2_with fail
  refine (HCB.out _).mono ?_
  rintro e w3 ⟨rfl, b3⟩
  have hK := ((Kp.begin (b1.trans ((b2.trans (b3.mono b2.size)).mono b1.size))).new (.int .i64 ka) (.int .i64 na) (.string ⟨#[]⟩) 25).new (.int .i64 kb) (.int .i64 nb) (.string ⟨#[]⟩) 25
  rw [World.size_alloc] at hK
  clear b1 b2 b3
  go_upto_region 4 with fail
  go_cut [7, 8] (fun s7 s8 wx => ∃ g h, s7 = .pointer (some ⟨g, 0, none⟩) ∧ s8 = .pointer (some ⟨h, 0, none⟩) ∧ Kp w wx.heap.size wx [(h, Value.int .u8 db, Value.bool mb, Value.int .i64 sb), (g, Value.int .u8 da, Value.bool ma, Value.int .i64 sa), (w3.heap.size + 1, Value.int .i64 kb, Value.int .i64 nb, Value.string ⟨#[]⟩), (w3.heap.size, Value.int .i64 ka, Value.int .i64 na, Value.string ⟨#[]⟩)])
  case first =>
    have hm0 : (w3.heap.size, Value.int .i64 ka, Value.int .i64 na, Value.string ⟨#[]⟩) ∈ [(w3.heap.size + 1, Value.int .i64 kb, Value.int .i64 nb, Value.string ⟨#[]⟩), (w3.heap.size, Value.int .i64 ka, Value.int .i64 na, Value.string ⟨#[]⟩)] := by simp
    have hm1 : (w3.heap.size + 1, Value.int .i64 kb, Value.int .i64 nb, Value.string ⟨#[]⟩) ∈ [(w3.heap.size + 1, Value.int .i64 kb, Value.int .i64 nb, Value.string ⟨#[]⟩), (w3.heap.size, Value.int .i64 ka, Value.int .i64 na, Value.string ⟨#[]⟩)] := by simp
    go_region_held3 (fun W => W.cell? ⟨w3.heap.size, 0, none⟩ = some (Value.int .i64 ka) ∧ W.cell? ⟨w3.heap.size, 1, none⟩ = some (Value.int .i64 na) ∧ W.cell? ⟨w3.heap.size, 2, none⟩ = some (Value.string ⟨#[]⟩) ∧ W.cell? ⟨w3.heap.size + 1, 0, none⟩ = some (Value.int .i64 kb) ∧ W.cell? ⟨w3.heap.size + 1, 1, none⟩ = some (Value.int .i64 nb) ∧ W.cell? ⟨w3.heap.size + 1, 2, none⟩ = some (Value.string ⟨#[]⟩) ∧ Kp w (w3.heap.size + 1 + 1) W [(w3.heap.size + 1, Value.int .i64 kb, Value.int .i64 nb, Value.string ⟨#[]⟩), (w3.heap.size, Value.int .i64 ka, Value.int .i64 na, Value.string ⟨#[]⟩)])
      (((with_reducible refine Kp.q2 ?_ hm0 hm1); (repeat (first | with_reducible exact hK | (with_reducible refine Kp.drew ?_) | (with_reducible refine Kp.alloc ?_ _) | (with_reducible refine Kp.set ?_ _ _ _ (by omega))))))
      (first
        | (go_at_call 18; (with_reducible refine (HCO.out _).mono ?_); rintro e w' ⟨rfl, rfl⟩)
        | (go_at_call 18; (with_reducible refine (HCP.out _).mono ?_); rintro e w' ⟨rfl, rfl⟩))
    all_goals
      (try go_split_ands)
      go_wp2_with fail
      go_meet
      refine ⟨_, _, rfl, rfl, Kp.ins (Kp.ins (B := w3.heap.size + 1 + 1) ?_ _ _ _ _ ?_ ⟨?_, ?_, ?_⟩) _ _ _ _ ?_ ⟨?_, ?_, ?_⟩⟩
      all_goals first
        | with_reducible assumption
        | (simp; done)
        | (simp; omega)
        | (simp [go_sem]; done)
  case rest =>
    obtain ⟨g, h, rfl, rfl, hK4⟩ := hcut
    clear hK
    have kc := fun (w : World) (C : Array Value) (n c : Nat) => Lib.run_convert_bytes_const (P := Tryd.prog) w 43 5 C n c Tryd.underlying43 Tryd.underlying5
    go_wp2_with fail
    clear kc
    have hS0 := signs4_new wc
    have hK5 := hK4.alloc (.cells #[.int .u8 43, .int .u8 45, .int .u8 42, .int .u8 47] 5 (4, 5))
    generalize hq : wc.heap.size = q at *
    generalize wc.alloc (.cells #[.int .u8 43, .int .u8 45, .int .u8 42, .int .u8 47] 5 (4, 5)) = W0 at *
    clear hK4
    obtain ⟨Ax0, Ax1, Ax2⟩ := hK5.at (w3.heap.size) (Value.int .i64 ka) (Value.int .i64 na) (Value.string ⟨#[]⟩) (by simp)
    have Lx : w3.heap.size < W0.heap.size := Nat.lt_of_lt_of_le (hK5.lt (w3.heap.size) (Value.int .i64 ka) (Value.int .i64 na) (Value.string ⟨#[]⟩) (by simp)) hK5.hi
    obtain ⟨Ay0, Ay1, Ay2⟩ := hK5.at (w3.heap.size + 1) (Value.int .i64 kb) (Value.int .i64 nb) (Value.string ⟨#[]⟩) (by simp)
    have Ly : w3.heap.size + 1 < W0.heap.size := Nat.lt_of_lt_of_le (hK5.lt (w3.heap.size + 1) (Value.int .i64 kb) (Value.int .i64 nb) (Value.string ⟨#[]⟩) (by simp)) hK5.hi
    obtain ⟨Am0, Am1, Am2⟩ := hK5.at (g) (Value.int .u8 da) (Value.bool ma) (Value.int .i64 sa) (by simp)
    have Lm : g < W0.heap.size := Nat.lt_of_lt_of_le (hK5.lt (g) (Value.int .u8 da) (Value.bool ma) (Value.int .i64 sa) (by simp)) hK5.hi
    obtain ⟨An0, An1, An2⟩ := hK5.at (h) (Value.int .u8 db) (Value.bool mb) (Value.int .i64 sb) (by simp)
    have Ln : h < W0.heap.size := Nat.lt_of_lt_of_le (hK5.lt (h) (Value.int .u8 db) (Value.bool mb) (Value.int .i64 sb) (by simp)) hK5.hi
    obtain ⟨Lq, Aq0, Aq1, Aq2, Aq3⟩ := hS0
    have bW0 := hK5.bel
    clear hK5
    have HAx0 := Lib.hid Ax0
    have HAx1 := Lib.hid Ax1
    have HAx2 := Lib.hid Ax2
    have HAy0 := Lib.hid Ay0
    have HAy1 := Lib.hid Ay1
    have HAy2 := Lib.hid Ay2
    have HAm0 := Lib.hid Am0
    have HAm1 := Lib.hid Am1
    have HAm2 := Lib.hid Am2
    have HAn0 := Lib.hid An0
    have HAn1 := Lib.hid An1
    have HAn2 := Lib.hid An2
    have HAq0 := Lib.hid Aq0
    have HAq1 := Lib.hid Aq1
    have HAq2 := Lib.hid Aq2
    have HAq3 := Lib.hid Aq3
    clear Ax0 Ax1 Ax2 Ay0 Ay1 Ay2 Am0 Am1 Am2 An0 An1 An2 Aq0 Aq1 Aq2 Aq3
    go_loopw [28] (fun i wr => ∃ k : Nat, k ≤ 4 ∧ i = .int .i64 k ∧ Below W0.heap.size W0 wr) (fun i _ => 4 - (intOf i).toNat)
    case atStart => exact ⟨0, by omega, rfl, Below.refl _ _⟩
    case round =>
      obtain ⟨k, hk, rfl, hb⟩ := hrel
      have hz := hb.size
      by_cases hlt : k < 4
      · have hk4 : k = 0 ∨ k = 1 ∨ k = 2 ∨ k = 3 := by omega
        rcases hk4 with rfl | rfl | rfl | rfl
        · have hba := hb.alloc hz (VC 0 0)
          have x0 := (hba.cell (p := ⟨w3.heap.size, 0, none⟩) Lx).trans HAx0.out
          have x1 := (hba.cell (p := ⟨w3.heap.size, 1, none⟩) Lx).trans HAx1.out
          have x2 := (hba.cell (p := ⟨w3.heap.size, 2, none⟩) Lx).trans HAx2.out
          have y0 := (hba.cell (p := ⟨w3.heap.size + 1, 0, none⟩) Ly).trans HAy0.out
          have y1 := (hba.cell (p := ⟨w3.heap.size + 1, 1, none⟩) Ly).trans HAy1.out
          have y2 := (hba.cell (p := ⟨w3.heap.size + 1, 2, none⟩) Ly).trans HAy2.out
          have q0 := (hb.cell (p := ⟨q, 0, none⟩) Lq).trans HAq0.out
          clear hlt hk
          go_wp2_with fail
          refine (HC0.out _).mono ?_
          rintro e w1 ⟨rfl, b1⟩
          have z := (zero_new wr).step b1
          have hb1 := (hb.alloc hz (VC 0 0)).trans (b1.mono (by simp; omega))
          obtain ⟨zl, z0, z1, z2, z3, z4, z5⟩ := id z
          clear x0 x1 x2 y0 y1 y2 q0 hba
          go_upto_region 18 with fail
          have hv : At (((w1.setCell ⟨wr.heap.size, 0, none⟩ (.int .i64 pk0)).setCell ⟨wr.heap.size, 1, none⟩ (.int .i64 pn0)).setCell ⟨wr.heap.size, 2, none⟩ (.string ⟨#[]⟩)) wr.heap.size pk0 pn0 := z.set pk0 pn0
          have hb2 : Below W0.heap.size W0 (((w1.setCell ⟨wr.heap.size, 0, none⟩ (.int .i64 pk0)).setCell ⟨wr.heap.size, 1, none⟩ (.int .i64 pn0)).setCell ⟨wr.heap.size, 2, none⟩ (.string ⟨#[]⟩)) := ((hb1.setCell (p := ⟨wr.heap.size, 0, none⟩) hz _).setCell (p := ⟨wr.heap.size, 1, none⟩) hz _).setCell (p := ⟨wr.heap.size, 2, none⟩) hz _
          have lv : wr.heap.size < (((w1.setCell ⟨wr.heap.size, 0, none⟩ (.int .i64 pk0)).setCell ⟨wr.heap.size, 1, none⟩ (.int .i64 pn0)).setCell ⟨wr.heap.size, 2, none⟩ (.string ⟨#[]⟩)).heap.size := by simp; exact zl
          clear z zl z0 z1 z2 z3 z4 z5 b1 hb1
          generalize ((w1.setCell ⟨wr.heap.size, 0, none⟩ (.int .i64 pk0)).setCell ⟨wr.heap.size, 1, none⟩ (.int .i64 pn0)).setCell ⟨wr.heap.size, 2, none⟩ (.string ⟨#[]⟩) = W2 at *
          go_cut [13, 14] (fun t13 t14 wx => ∃ u, t13 = .pointer (some ⟨u, 0, none⟩) ∧ t14 = .bool ok0 ∧ At wx wr.heap.size pk0 pn0 ∧ At3 wx u (.int .u8 d0) (.bool m0) (.int .i64 s0) ∧ Below W0.heap.size W0 wx)
          case first =>
            have m0 := (hb2.cell (p := ⟨g, 0, none⟩) Lm).trans HAm0.out
            have m1 := (hb2.cell (p := ⟨g, 1, none⟩) Lm).trans HAm1.out
            have m2 := (hb2.cell (p := ⟨g, 2, none⟩) Lm).trans HAm2.out
            have n0 := (hb2.cell (p := ⟨h, 0, none⟩) Ln).trans HAn0.out
            have n1 := (hb2.cell (p := ⟨h, 1, none⟩) Ln).trans HAn1.out
            have n2 := (hb2.cell (p := ⟨h, 2, none⟩) Ln).trans HAn2.out
            go_wp2_with fail
            refine (HD0.out _).mono ?_
            rintro e w3' ⟨rfl, b3⟩
            have lv3 := Nat.lt_of_lt_of_le lv b3.size
            have hb3 := hb2.trans (b3.mono hb2.size)
            go_wp2_with fail
            go_meet
            exact ⟨_, rfl, rfl, (hv.step lv b3).step lv3 ((Below.refl _ _).alloc (Nat.le_refl _) _), at3_new _ _ _ _ _, hb3.alloc hb3.size _⟩
          case rest =>
            obtain ⟨u, rfl, rfl, ⟨v0, v1, v2⟩, ⟨u0, u1, u2⟩, hb3⟩ := hcut
            clear hv lv hb2
            have Qv0 := fun d os => cell_regrown v0 d os
            have Qv1 := fun d os => cell_regrown v1 d os
            have Qv2 := fun d os => cell_regrown v2 d os
            have Qu0 := fun d os => cell_regrown u0 d os
            have Qu1 := fun d os => cell_regrown u1 d os
            have Qu2 := fun d os => cell_regrown u2 d os
            clear v0 v1 v2 u0 u1 u2
            cases ok0 with
            | true =>
              have DV := fun d os => Calls.regrown_of (HU0.out rfl (grow (redrawn wc d) os))
              go_wp2_with fail
              refine wp_region_quiet_below (by kernel_rfl) (by kernel_rfl) ?_
              repeat (first | go_big_quiet_step (with_reducible exact DV _ _) | quiet_step (with_reducible exact DV _ _))
              refine wpQuiet_nil ?_
              intro _ hw'
              obtain ⟨⟨dq, osq⟩, hw''⟩ := hw'
              subst hw''
              clear Qv0 Qv1 Qv2 Qu0 Qu1 Qu2
              have bq := below_regrown wc dq osq
              have be := hb3.trans (bq.mono hb3.size)
              go_wp2_with fail
              go_roundw
              case rel => exact ⟨0 + 1, by omega, by go_num, be⟩
              case measure => simp [intOf]
            | false =>
              obtain ⟨rfl, rfl⟩ := HZ0.out rfl
              go_wp2_with fail
              refine wp_region_quiet_below (by kernel_rfl) (by kernel_rfl) ?_
              repeat (first | go_big_quiet_step (fail) | quiet_step (fail))
              refine wpQuiet_nil ?_
              intro _ hw'
              obtain ⟨⟨dq, osq⟩, hw''⟩ := hw'
              subst hw''
              clear Qv0 Qv1 Qv2 Qu0 Qu1 Qu2
              have bq := below_regrown wc dq osq
              have be := hb3.trans (bq.mono hb3.size)
              go_wp2_with fail
              go_roundw
              case rel => exact ⟨0 + 1, by omega, by go_num, be⟩
              case measure => simp [intOf]
        · have hba := hb.alloc hz (VC 0 0)
          have x0 := (hba.cell (p := ⟨w3.heap.size, 0, none⟩) Lx).trans HAx0.out
          have x1 := (hba.cell (p := ⟨w3.heap.size, 1, none⟩) Lx).trans HAx1.out
          have x2 := (hba.cell (p := ⟨w3.heap.size, 2, none⟩) Lx).trans HAx2.out
          have y0 := (hba.cell (p := ⟨w3.heap.size + 1, 0, none⟩) Ly).trans HAy0.out
          have y1 := (hba.cell (p := ⟨w3.heap.size + 1, 1, none⟩) Ly).trans HAy1.out
          have y2 := (hba.cell (p := ⟨w3.heap.size + 1, 2, none⟩) Ly).trans HAy2.out
          have q1 := (hb.cell (p := ⟨q, 1, none⟩) Lq).trans HAq1.out
          clear hlt hk
          go_wp2_with fail
          refine (HC1.out _).mono ?_
          rintro e w1 ⟨rfl, b1⟩
          have z := (zero_new wr).step b1
          have hb1 := (hb.alloc hz (VC 0 0)).trans (b1.mono (by simp; omega))
          obtain ⟨zl, z0, z1, z2, z3, z4, z5⟩ := id z
          clear x0 x1 x2 y0 y1 y2 q1 hba
          go_upto_region 18 with fail
          have hv : At (((w1.setCell ⟨wr.heap.size, 0, none⟩ (.int .i64 pk1)).setCell ⟨wr.heap.size, 1, none⟩ (.int .i64 pn1)).setCell ⟨wr.heap.size, 2, none⟩ (.string ⟨#[]⟩)) wr.heap.size pk1 pn1 := z.set pk1 pn1
          have hb2 : Below W0.heap.size W0 (((w1.setCell ⟨wr.heap.size, 0, none⟩ (.int .i64 pk1)).setCell ⟨wr.heap.size, 1, none⟩ (.int .i64 pn1)).setCell ⟨wr.heap.size, 2, none⟩ (.string ⟨#[]⟩)) := ((hb1.setCell (p := ⟨wr.heap.size, 0, none⟩) hz _).setCell (p := ⟨wr.heap.size, 1, none⟩) hz _).setCell (p := ⟨wr.heap.size, 2, none⟩) hz _
          have lv : wr.heap.size < (((w1.setCell ⟨wr.heap.size, 0, none⟩ (.int .i64 pk1)).setCell ⟨wr.heap.size, 1, none⟩ (.int .i64 pn1)).setCell ⟨wr.heap.size, 2, none⟩ (.string ⟨#[]⟩)).heap.size := by simp; exact zl
          clear z zl z0 z1 z2 z3 z4 z5 b1 hb1
          generalize ((w1.setCell ⟨wr.heap.size, 0, none⟩ (.int .i64 pk1)).setCell ⟨wr.heap.size, 1, none⟩ (.int .i64 pn1)).setCell ⟨wr.heap.size, 2, none⟩ (.string ⟨#[]⟩) = W2 at *
          go_cut [13, 14] (fun t13 t14 wx => ∃ u, t13 = .pointer (some ⟨u, 0, none⟩) ∧ t14 = .bool ok1 ∧ At wx wr.heap.size pk1 pn1 ∧ At3 wx u (.int .u8 d1) (.bool m1) (.int .i64 s1) ∧ Below W0.heap.size W0 wx)
          case first =>
            have m0 := (hb2.cell (p := ⟨g, 0, none⟩) Lm).trans HAm0.out
            have m1 := (hb2.cell (p := ⟨g, 1, none⟩) Lm).trans HAm1.out
            have m2 := (hb2.cell (p := ⟨g, 2, none⟩) Lm).trans HAm2.out
            have n0 := (hb2.cell (p := ⟨h, 0, none⟩) Ln).trans HAn0.out
            have n1 := (hb2.cell (p := ⟨h, 1, none⟩) Ln).trans HAn1.out
            have n2 := (hb2.cell (p := ⟨h, 2, none⟩) Ln).trans HAn2.out
            go_wp2_with fail
            refine (HD1.out _).mono ?_
            rintro e w3' ⟨rfl, b3⟩
            have lv3 := Nat.lt_of_lt_of_le lv b3.size
            have hb3 := hb2.trans (b3.mono hb2.size)
            go_wp2_with fail
            go_meet
            exact ⟨_, rfl, rfl, (hv.step lv b3).step lv3 ((Below.refl _ _).alloc (Nat.le_refl _) _), at3_new _ _ _ _ _, hb3.alloc hb3.size _⟩
          case rest =>
            obtain ⟨u, rfl, rfl, ⟨v0, v1, v2⟩, ⟨u0, u1, u2⟩, hb3⟩ := hcut
            clear hv lv hb2
            have Qv0 := fun d os => cell_regrown v0 d os
            have Qv1 := fun d os => cell_regrown v1 d os
            have Qv2 := fun d os => cell_regrown v2 d os
            have Qu0 := fun d os => cell_regrown u0 d os
            have Qu1 := fun d os => cell_regrown u1 d os
            have Qu2 := fun d os => cell_regrown u2 d os
            clear v0 v1 v2 u0 u1 u2
            cases ok1 with
            | true =>
              have DV := fun d os => Calls.regrown_of (HU1.out rfl (grow (redrawn wc d) os))
              go_wp2_with fail
              refine wp_region_quiet_below (by kernel_rfl) (by kernel_rfl) ?_
              repeat (first | go_big_quiet_step (with_reducible exact DV _ _) | quiet_step (with_reducible exact DV _ _))
              refine wpQuiet_nil ?_
              intro _ hw'
              obtain ⟨⟨dq, osq⟩, hw''⟩ := hw'
              subst hw''
              clear Qv0 Qv1 Qv2 Qu0 Qu1 Qu2
              have bq := below_regrown wc dq osq
              have be := hb3.trans (bq.mono hb3.size)
              go_wp2_with fail
              go_roundw
              case rel => exact ⟨1 + 1, by omega, by go_num, be⟩
              case measure => simp [intOf]
            | false =>
              obtain ⟨rfl, rfl⟩ := HZ1.out rfl
              go_wp2_with fail
              refine wp_region_quiet_below (by kernel_rfl) (by kernel_rfl) ?_
              repeat (first | go_big_quiet_step (fail) | quiet_step (fail))
              refine wpQuiet_nil ?_
              intro _ hw'
              obtain ⟨⟨dq, osq⟩, hw''⟩ := hw'
              subst hw''
              clear Qv0 Qv1 Qv2 Qu0 Qu1 Qu2
              have bq := below_regrown wc dq osq
              have be := hb3.trans (bq.mono hb3.size)
              go_wp2_with fail
              go_roundw
              case rel => exact ⟨1 + 1, by omega, by go_num, be⟩
              case measure => simp [intOf]
        · have hba := hb.alloc hz (VC 0 0)
          have x0 := (hba.cell (p := ⟨w3.heap.size, 0, none⟩) Lx).trans HAx0.out
          have x1 := (hba.cell (p := ⟨w3.heap.size, 1, none⟩) Lx).trans HAx1.out
          have x2 := (hba.cell (p := ⟨w3.heap.size, 2, none⟩) Lx).trans HAx2.out
          have y0 := (hba.cell (p := ⟨w3.heap.size + 1, 0, none⟩) Ly).trans HAy0.out
          have y1 := (hba.cell (p := ⟨w3.heap.size + 1, 1, none⟩) Ly).trans HAy1.out
          have y2 := (hba.cell (p := ⟨w3.heap.size + 1, 2, none⟩) Ly).trans HAy2.out
          have q2 := (hb.cell (p := ⟨q, 2, none⟩) Lq).trans HAq2.out
          clear hlt hk
          go_wp2_with fail
          refine (HC2.out _).mono ?_
          rintro e w1 ⟨rfl, b1⟩
          have z := (zero_new wr).step b1
          have hb1 := (hb.alloc hz (VC 0 0)).trans (b1.mono (by simp; omega))
          obtain ⟨zl, z0, z1, z2, z3, z4, z5⟩ := id z
          clear x0 x1 x2 y0 y1 y2 q2 hba
          go_upto_region 18 with fail
          have hv : At (((w1.setCell ⟨wr.heap.size, 0, none⟩ (.int .i64 pk2)).setCell ⟨wr.heap.size, 1, none⟩ (.int .i64 pn2)).setCell ⟨wr.heap.size, 2, none⟩ (.string ⟨#[]⟩)) wr.heap.size pk2 pn2 := z.set pk2 pn2
          have hb2 : Below W0.heap.size W0 (((w1.setCell ⟨wr.heap.size, 0, none⟩ (.int .i64 pk2)).setCell ⟨wr.heap.size, 1, none⟩ (.int .i64 pn2)).setCell ⟨wr.heap.size, 2, none⟩ (.string ⟨#[]⟩)) := ((hb1.setCell (p := ⟨wr.heap.size, 0, none⟩) hz _).setCell (p := ⟨wr.heap.size, 1, none⟩) hz _).setCell (p := ⟨wr.heap.size, 2, none⟩) hz _
          have lv : wr.heap.size < (((w1.setCell ⟨wr.heap.size, 0, none⟩ (.int .i64 pk2)).setCell ⟨wr.heap.size, 1, none⟩ (.int .i64 pn2)).setCell ⟨wr.heap.size, 2, none⟩ (.string ⟨#[]⟩)).heap.size := by simp; exact zl
          clear z zl z0 z1 z2 z3 z4 z5 b1 hb1
          generalize ((w1.setCell ⟨wr.heap.size, 0, none⟩ (.int .i64 pk2)).setCell ⟨wr.heap.size, 1, none⟩ (.int .i64 pn2)).setCell ⟨wr.heap.size, 2, none⟩ (.string ⟨#[]⟩) = W2 at *
          go_cut [13, 14] (fun t13 t14 wx => ∃ u, t13 = .pointer (some ⟨u, 0, none⟩) ∧ t14 = .bool ok2 ∧ At wx wr.heap.size pk2 pn2 ∧ At3 wx u (.int .u8 d2) (.bool m2) (.int .i64 s2) ∧ Below W0.heap.size W0 wx)
          case first =>
            have m0 := (hb2.cell (p := ⟨g, 0, none⟩) Lm).trans HAm0.out
            have m1 := (hb2.cell (p := ⟨g, 1, none⟩) Lm).trans HAm1.out
            have m2 := (hb2.cell (p := ⟨g, 2, none⟩) Lm).trans HAm2.out
            have n0 := (hb2.cell (p := ⟨h, 0, none⟩) Ln).trans HAn0.out
            have n1 := (hb2.cell (p := ⟨h, 1, none⟩) Ln).trans HAn1.out
            have n2 := (hb2.cell (p := ⟨h, 2, none⟩) Ln).trans HAn2.out
            go_wp2_with fail
            refine (HD2.out _).mono ?_
            rintro e w3' ⟨rfl, b3⟩
            have lv3 := Nat.lt_of_lt_of_le lv b3.size
            have hb3 := hb2.trans (b3.mono hb2.size)
            go_wp2_with fail
            go_meet
            exact ⟨_, rfl, rfl, (hv.step lv b3).step lv3 ((Below.refl _ _).alloc (Nat.le_refl _) _), at3_new _ _ _ _ _, hb3.alloc hb3.size _⟩
          case rest =>
            obtain ⟨u, rfl, rfl, ⟨v0, v1, v2⟩, ⟨u0, u1, u2⟩, hb3⟩ := hcut
            clear hv lv hb2
            have Qv0 := fun d os => cell_regrown v0 d os
            have Qv1 := fun d os => cell_regrown v1 d os
            have Qv2 := fun d os => cell_regrown v2 d os
            have Qu0 := fun d os => cell_regrown u0 d os
            have Qu1 := fun d os => cell_regrown u1 d os
            have Qu2 := fun d os => cell_regrown u2 d os
            clear v0 v1 v2 u0 u1 u2
            cases ok2 with
            | true =>
              have DV := fun d os => Calls.regrown_of (HU2.out rfl (grow (redrawn wc d) os))
              go_wp2_with fail
              refine wp_region_quiet_below (by kernel_rfl) (by kernel_rfl) ?_
              repeat (first | go_big_quiet_step (with_reducible exact DV _ _) | quiet_step (with_reducible exact DV _ _))
              refine wpQuiet_nil ?_
              intro _ hw'
              obtain ⟨⟨dq, osq⟩, hw''⟩ := hw'
              subst hw''
              clear Qv0 Qv1 Qv2 Qu0 Qu1 Qu2
              have bq := below_regrown wc dq osq
              have be := hb3.trans (bq.mono hb3.size)
              go_wp2_with fail
              go_roundw
              case rel => exact ⟨2 + 1, by omega, by go_num, be⟩
              case measure => simp [intOf]
            | false =>
              obtain ⟨rfl, rfl⟩ := HZ2.out rfl
              go_wp2_with fail
              refine wp_region_quiet_below (by kernel_rfl) (by kernel_rfl) ?_
              repeat (first | go_big_quiet_step (fail) | quiet_step (fail))
              refine wpQuiet_nil ?_
              intro _ hw'
              obtain ⟨⟨dq, osq⟩, hw''⟩ := hw'
              subst hw''
              clear Qv0 Qv1 Qv2 Qu0 Qu1 Qu2
              have bq := below_regrown wc dq osq
              have be := hb3.trans (bq.mono hb3.size)
              go_wp2_with fail
              go_roundw
              case rel => exact ⟨2 + 1, by omega, by go_num, be⟩
              case measure => simp [intOf]
        · have hba := hb.alloc hz (VC 0 0)
          have x0 := (hba.cell (p := ⟨w3.heap.size, 0, none⟩) Lx).trans HAx0.out
          have x1 := (hba.cell (p := ⟨w3.heap.size, 1, none⟩) Lx).trans HAx1.out
          have x2 := (hba.cell (p := ⟨w3.heap.size, 2, none⟩) Lx).trans HAx2.out
          have y0 := (hba.cell (p := ⟨w3.heap.size + 1, 0, none⟩) Ly).trans HAy0.out
          have y1 := (hba.cell (p := ⟨w3.heap.size + 1, 1, none⟩) Ly).trans HAy1.out
          have y2 := (hba.cell (p := ⟨w3.heap.size + 1, 2, none⟩) Ly).trans HAy2.out
          have q3 := (hb.cell (p := ⟨q, 3, none⟩) Lq).trans HAq3.out
          clear hlt hk
          go_wp2_with fail
          refine (HC3.out _).mono ?_
          rintro e w1 ⟨rfl, b1⟩
          have z := (zero_new wr).step b1
          have hb1 := (hb.alloc hz (VC 0 0)).trans (b1.mono (by simp; omega))
          obtain ⟨zl, z0, z1, z2, z3, z4, z5⟩ := id z
          clear x0 x1 x2 y0 y1 y2 q3 hba
          go_upto_region 18 with fail
          have hv : At (((w1.setCell ⟨wr.heap.size, 0, none⟩ (.int .i64 pk3)).setCell ⟨wr.heap.size, 1, none⟩ (.int .i64 pn3)).setCell ⟨wr.heap.size, 2, none⟩ (.string ⟨#[]⟩)) wr.heap.size pk3 pn3 := z.set pk3 pn3
          have hb2 : Below W0.heap.size W0 (((w1.setCell ⟨wr.heap.size, 0, none⟩ (.int .i64 pk3)).setCell ⟨wr.heap.size, 1, none⟩ (.int .i64 pn3)).setCell ⟨wr.heap.size, 2, none⟩ (.string ⟨#[]⟩)) := ((hb1.setCell (p := ⟨wr.heap.size, 0, none⟩) hz _).setCell (p := ⟨wr.heap.size, 1, none⟩) hz _).setCell (p := ⟨wr.heap.size, 2, none⟩) hz _
          have lv : wr.heap.size < (((w1.setCell ⟨wr.heap.size, 0, none⟩ (.int .i64 pk3)).setCell ⟨wr.heap.size, 1, none⟩ (.int .i64 pn3)).setCell ⟨wr.heap.size, 2, none⟩ (.string ⟨#[]⟩)).heap.size := by simp; exact zl
          clear z zl z0 z1 z2 z3 z4 z5 b1 hb1
          generalize ((w1.setCell ⟨wr.heap.size, 0, none⟩ (.int .i64 pk3)).setCell ⟨wr.heap.size, 1, none⟩ (.int .i64 pn3)).setCell ⟨wr.heap.size, 2, none⟩ (.string ⟨#[]⟩) = W2 at *
          go_cut [13, 14] (fun t13 t14 wx => ∃ u, t13 = .pointer (some ⟨u, 0, none⟩) ∧ t14 = .bool ok3 ∧ At wx wr.heap.size pk3 pn3 ∧ At3 wx u (.int .u8 d3) (.bool m3) (.int .i64 s3) ∧ Below W0.heap.size W0 wx)
          case first =>
            have m0 := (hb2.cell (p := ⟨g, 0, none⟩) Lm).trans HAm0.out
            have m1 := (hb2.cell (p := ⟨g, 1, none⟩) Lm).trans HAm1.out
            have m2 := (hb2.cell (p := ⟨g, 2, none⟩) Lm).trans HAm2.out
            have n0 := (hb2.cell (p := ⟨h, 0, none⟩) Ln).trans HAn0.out
            have n1 := (hb2.cell (p := ⟨h, 1, none⟩) Ln).trans HAn1.out
            have n2 := (hb2.cell (p := ⟨h, 2, none⟩) Ln).trans HAn2.out
            go_wp2_with fail
            refine (HD3.out _).mono ?_
            rintro e w3' ⟨rfl, b3⟩
            have lv3 := Nat.lt_of_lt_of_le lv b3.size
            have hb3 := hb2.trans (b3.mono hb2.size)
            go_wp2_with fail
            go_meet
            exact ⟨_, rfl, rfl, (hv.step lv b3).step lv3 ((Below.refl _ _).alloc (Nat.le_refl _) _), at3_new _ _ _ _ _, hb3.alloc hb3.size _⟩
          case rest =>
            obtain ⟨u, rfl, rfl, ⟨v0, v1, v2⟩, ⟨u0, u1, u2⟩, hb3⟩ := hcut
            clear hv lv hb2
            have Qv0 := fun d os => cell_regrown v0 d os
            have Qv1 := fun d os => cell_regrown v1 d os
            have Qv2 := fun d os => cell_regrown v2 d os
            have Qu0 := fun d os => cell_regrown u0 d os
            have Qu1 := fun d os => cell_regrown u1 d os
            have Qu2 := fun d os => cell_regrown u2 d os
            clear v0 v1 v2 u0 u1 u2
            cases ok3 with
            | true =>
              have DV := fun d os => Calls.regrown_of (HU3.out rfl (grow (redrawn wc d) os))
              go_wp2_with fail
              refine wp_region_quiet_below (by kernel_rfl) (by kernel_rfl) ?_
              repeat (first | go_big_quiet_step (with_reducible exact DV _ _) | quiet_step (with_reducible exact DV _ _))
              refine wpQuiet_nil ?_
              intro _ hw'
              obtain ⟨⟨dq, osq⟩, hw''⟩ := hw'
              subst hw''
              clear Qv0 Qv1 Qv2 Qu0 Qu1 Qu2
              have bq := below_regrown wc dq osq
              have be := hb3.trans (bq.mono hb3.size)
              go_wp2_with fail
              go_roundw
              case rel => exact ⟨3 + 1, by omega, by go_num, be⟩
              case measure => simp [intOf]
            | false =>
              obtain ⟨rfl, rfl⟩ := HZ3.out rfl
              go_wp2_with fail
              refine wp_region_quiet_below (by kernel_rfl) (by kernel_rfl) ?_
              repeat (first | go_big_quiet_step (fail) | quiet_step (fail))
              refine wpQuiet_nil ?_
              intro _ hw'
              obtain ⟨⟨dq, osq⟩, hw''⟩ := hw'
              subst hw''
              clear Qv0 Qv1 Qv2 Qu0 Qu1 Qu2
              have bq := below_regrown wc dq osq
              have be := hb3.trans (bq.mono hb3.size)
              go_wp2_with fail
              go_roundw
              case rel => exact ⟨3 + 1, by omega, by go_num, be⟩
              case measure => simp [intOf]
      · have hkk : k = 4 := by omega
        subst hkk
        have x0 := (hb.cell (p := ⟨w3.heap.size, 0, none⟩) Lx).trans HAx0.out
        have x1 := (hb.cell (p := ⟨w3.heap.size, 1, none⟩) Lx).trans HAx1.out
        have x2 := (hb.cell (p := ⟨w3.heap.size, 2, none⟩) Lx).trans HAx2.out
        have y0 := (hb.cell (p := ⟨w3.heap.size + 1, 0, none⟩) Ly).trans HAy0.out
        have y1 := (hb.cell (p := ⟨w3.heap.size + 1, 1, none⟩) Ly).trans HAy1.out
        have y2 := (hb.cell (p := ⟨w3.heap.size + 1, 2, none⟩) Ly).trans HAy2.out
        have m0 := (hb.cell (p := ⟨g, 0, none⟩) Lm).trans HAm0.out
        have m1 := (hb.cell (p := ⟨g, 1, none⟩) Lm).trans HAm1.out
        have m2 := (hb.cell (p := ⟨g, 2, none⟩) Lm).trans HAm2.out
        have n0 := (hb.cell (p := ⟨h, 0, none⟩) Ln).trans HAn0.out
        have n1 := (hb.cell (p := ⟨h, 1, none⟩) Ln).trans HAn1.out
        have n2 := (hb.cell (p := ⟨h, 2, none⟩) Ln).trans HAn2.out
        have Qx0 := fun d os => cell_regrown x0 d os
        have Qx1 := fun d os => cell_regrown x1 d os
        have Qx2 := fun d os => cell_regrown x2 d os
        have Qy0 := fun d os => cell_regrown y0 d os
        have Qy1 := fun d os => cell_regrown y1 d os
        have Qy2 := fun d os => cell_regrown y2 d os
        have Qm0 := fun d os => cell_regrown m0 d os
        have Qm1 := fun d os => cell_regrown m1 d os
        have Qm2 := fun d os => cell_regrown m2 d os
        have Qn0 := fun d os => cell_regrown n0 d os
        have Qn1 := fun d os => cell_regrown n1 d os
        have Qn2 := fun d os => cell_regrown n2 d os
        clear x0 x1 x2 y0 y1 y2 m0 m1 m2 n0 n1 n2
        have DR := fun d os => Calls.regrown_of (HCR.out (grow (redrawn wr d) os))
        have DQ := fun d os => Calls.regrown_of (HCQ.out (grow (redrawn wr d) os))
        have DV := fun d os => Calls.regrown_of (HCV.out (grow (redrawn wr d) os))
        go_wp2_with fail
        refine wp_region_quiet_below (by kernel_rfl) (by kernel_rfl) ?_
        repeat (first | go_big_quiet_step (first | with_reducible exact DR _ _ | with_reducible exact DQ _ _ | with_reducible exact DV _ _) | quiet_step (first | with_reducible exact DR _ _ | with_reducible exact DQ _ _ | with_reducible exact DV _ _))
        refine wpQuiet_nil ?_
        intro _ hw'
        obtain ⟨⟨dq, osq⟩, hw''⟩ := hw'
        subst hw''
        clear DR DQ DV Qx0 Qx1 Qx2 Qy0 Qy1 Qy2 Qm0 Qm1 Qm2 Qn0 Qn1 Qn2
        have bq := below_regrown wr dq osq
        have be := bW0.trans ((hb.trans (bq.mono hz)).mono bW0.size)
        go_wp2
        go_ret
        exact ⟨by simp, be⟩
end Go.Proofs.YtdacpebijljckaaDoor
