/- The walk of the statement NumOrder. -/
import Derived.Test.YtdacpebijljckaaDoorNumL
import Derived.Test.YtdacpebijljckaaDoorNumSignsW
set_option linter.unusedVariables false
set_option linter.unusedSimpArgs false
namespace Go.Proofs.YtdacpebijljckaaDoor
open Go.RowKit

set_option maxHeartbeats 4000000 in
set_option maxRecDepth 100000 in
theorem order_core (a b ka na kb nb sk sn pk pn dk dn : Int) (ok has thr : Bool) (w : World)
    (CA : ∀ W, Calls Tryd.prog 12 #[.int .i64 a] W (Ret (VN ka na) W))
    (CB : ∀ W, Calls Tryd.prog 12 #[.int .i64 b] W (Ret (VN kb nb) W))
    (CS : ∀ W, Calls Tryd.prog 16 #[VN ka na, VN kb nb] W (Ret (V2 (sk, sn, ok)) W))
    (CT : ∀ W, Calls Tryd.prog 16 #[VN kb nb, VN ka na] W (Ret (V2 (sk, sn, ok)) W))
    (CP : ∀ W, Calls Tryd.prog 13 #[VN ka na, VN kb nb] W (Ret (V2 (pk, pn, has)) W))
    (CQ : ∀ W, Calls Tryd.prog 13 #[VN kb nb, VN ka na] W (Ret (V2 (pk, pn, has)) W))
    (CD : ka = 3 → kb = 3 → ok = true → ∀ W, Calls Tryd.prog 17 #[VN sk sn, VN kb nb] W (Ret (V2 (ka, na, true)) W)) :
    Calls Tryd.prog 5 #[.int .i64 a, .int .i64 b] w fun e w' => e = .returned (.bool true) ∧ Below w.heap.size w w' := by
  have HCA := Lib.hid CA
  have HCB := Lib.hid CB
  have HCS := Lib.hid CS
  have HCT := Lib.hid CT
  have HCP := Lib.hid CP
  have HCQ := Lib.hid CQ
  have HCD := Lib.hid CD
  clear CA CB CS CT CP CQ CD
  go_enter Tryd.func5, Tryd.ntmps5
  go_wp2_with fail
  refine (fit_any _).mono ?_
  rintro e w1 ⟨rfl, b1⟩
  go_wp2_with fail
  refine (HCA.out _).mono ?_
  rintro e w2 ⟨rfl, b2⟩
  go_wp2_with fail
  refine (HCB.out _).mono ?_
  rintro e w3 ⟨rfl, b3⟩
  have hK := ((Keep.begin (b1.trans ((b2.trans (b3.mono b2.size)).mono b1.size))).new ka na).new kb nb
  rw [World.size_alloc] at hK
  clear b1 b2 b3
  go_upto_region 4 with fail
  go_cut [7, 8] (fun s1 s2 wx => ∃ gN, s1 = .pointer (some ⟨gN, 0, none⟩) ∧ s2 = .bool ok ∧ Keep w (gN + 1) wx ((gN, sk, sn) :: [(w3.heap.size + 1, kb, nb), (w3.heap.size, ka, na)]))
  case first =>
    obtain ⟨x0a, x0b, x0c⟩ := hK.at (w3.heap.size) ka na (by simp)
    obtain ⟨x1a, x1b, x1c⟩ := hK.at (w3.heap.size + 1) kb nb (by simp)
    go_wp2_with fail
    refine (HCS.out _).mono ?_
    rintro e wN ⟨rfl, bN⟩
    have hN := (hK.step bN).new sk sn
    clear x0a x0b x0c x1a x1b x1c
    go_wp2_with fail
    go_meet
    exact ⟨_, rfl, rfl, hN⟩
  case rest =>
    obtain ⟨g4, rfl, rfl, hK4⟩ := hcut
    clear hK
    go_upto_region 5 with fail
    go_cut [9, 10] (fun s1 s2 wx => ∃ gN, s1 = .pointer (some ⟨gN, 0, none⟩) ∧ s2 = .bool ok ∧ Keep w (gN + 1) wx ((gN, sk, sn) :: [(g4, sk, sn), (w3.heap.size + 1, kb, nb), (w3.heap.size, ka, na)]))
    case first =>
      obtain ⟨x0a, x0b, x0c⟩ := hK4.at (w3.heap.size) ka na (by simp)
      obtain ⟨x1a, x1b, x1c⟩ := hK4.at (w3.heap.size + 1) kb nb (by simp)
      go_wp2_with fail
      refine (HCT.out _).mono ?_
      rintro e wN ⟨rfl, bN⟩
      have hN := (hK4.step bN).new sk sn
      clear x0a x0b x0c x1a x1b x1c
      go_wp2_with fail
      go_meet
      exact ⟨_, rfl, rfl, hN⟩
    case rest =>
      obtain ⟨g5, rfl, rfl, hK5⟩ := hcut
      clear hK4
      go_upto_region 6 with fail
      go_cut [11, 12] (fun s1 s2 wx => ∃ gN, s1 = .pointer (some ⟨gN, 0, none⟩) ∧ s2 = .bool has ∧ Keep w (gN + 1) wx ((gN, pk, pn) :: [(g5, sk, sn), (g4, sk, sn), (w3.heap.size + 1, kb, nb), (w3.heap.size, ka, na)]))
      case first =>
        obtain ⟨x0a, x0b, x0c⟩ := hK5.at (w3.heap.size) ka na (by simp)
        obtain ⟨x1a, x1b, x1c⟩ := hK5.at (w3.heap.size + 1) kb nb (by simp)
        go_wp2_with fail
        refine (HCP.out _).mono ?_
        rintro e wN ⟨rfl, bN⟩
        have hN := (hK5.step bN).new pk pn
        clear x0a x0b x0c x1a x1b x1c
        go_wp2_with fail
        go_meet
        exact ⟨_, rfl, rfl, hN⟩
      case rest =>
        obtain ⟨g6, rfl, rfl, hK6⟩ := hcut
        clear hK5
        go_upto_region 7 with fail
        go_cut [13, 14] (fun s1 s2 wx => ∃ gN, s1 = .pointer (some ⟨gN, 0, none⟩) ∧ s2 = .bool has ∧ Keep w (gN + 1) wx ((gN, pk, pn) :: [(g6, pk, pn), (g5, sk, sn), (g4, sk, sn), (w3.heap.size + 1, kb, nb), (w3.heap.size, ka, na)]))
        case first =>
          obtain ⟨x0a, x0b, x0c⟩ := hK6.at (w3.heap.size) ka na (by simp)
          obtain ⟨x1a, x1b, x1c⟩ := hK6.at (w3.heap.size + 1) kb nb (by simp)
          go_wp2_with fail
          refine (HCQ.out _).mono ?_
          rintro e wN ⟨rfl, bN⟩
          have hN := (hK6.step bN).new pk pn
          clear x0a x0b x0c x1a x1b x1c
          go_wp2_with fail
          go_meet
          exact ⟨_, rfl, rfl, hN⟩
        case rest =>
          obtain ⟨g7, rfl, rfl, hK7⟩ := hcut
          clear hK6
          obtain ⟨x0a, x0b, x0c⟩ := hK7.at (g4) sk sn (by simp)
          obtain ⟨x1a, x1b, x1c⟩ := hK7.at (g5) sk sn (by simp)
          obtain ⟨x2a, x2b, x2c⟩ := hK7.at (g6) pk pn (by simp)
          obtain ⟨x3a, x3b, x3c⟩ := hK7.at (g7) pk pn (by simp)
          obtain ⟨x4a, x4b, x4c⟩ := hK7.at (w3.heap.size) ka na (by simp)
          obtain ⟨x5a, x5b, x5c⟩ := hK7.at (w3.heap.size + 1) kb nb (by simp)
          have n1 : (ok != ok) = false := by simp
          have n2 : (has != has) = false := by simp
          by_cases h1 : ka = 3
          · have t1 : (ka != 3) = false := by simp [h1]
            by_cases h2 : kb = 3
            · have t2 : (kb != 3) = false := by simp [h2]
              cases ok
              · clear h1 h2
                go_wp2_with fail
                go_ret
                exact ⟨rfl, hK7.below⟩
              · have CD := Lib.hid (HCD.out h1 h2 rfl)
                clear h1 h2 HCD
                go_wp2_with fail
                refine (CD.out _).mono ?_
                rintro e w8 ⟨rfl, b8⟩
                have hK8 := hK7.step b8
                have x8 := hK8.at (w3.heap.size) ka na (by simp)
                clear x0a x0b x0c x1a x1b x1c x2a x2b x2c x3a x3b x3c x4a x4b x4c x5a x5b x5c
                obtain ⟨x0a, x0b, x0c⟩ := x8
                have lx : w3.heap.size < w8.heap.size := Nat.lt_of_lt_of_le (hK8.lt (w3.heap.size) ka na (by simp)) hK8.hi
                go_wp2_with fail
                go_ret
                exact ⟨by simp, (hK8.alloc _).below⟩
            · have t2 : (kb != 3) = true := by simp [h2]
              clear h1 h2
              go_wp2_with fail
              go_ret
              exact ⟨rfl, hK7.below⟩
          · have t1 : (ka != 3) = true := by simp [h1]
            clear h1
            go_wp2_with fail
            go_ret
            exact ⟨rfl, hK7.below⟩

theorem order_walk (a b : Int) (w : World) (wa : (Lit.int .i64 a).wf = true) (wb : (Lit.int .i64 b).wf = true) :
    Calls Tryd.prog 5 #[.int .i64 a, .int .i64 b] w fun e w' => e = .returned (.bool true) ∧ Below w.heap.size w w' := by
  have CA := fun W => num_any a W wa
  have CB := fun W => num_any b W wb
  have ha := numR_is a
  have hb := numR_is b
  generalize numR a = x at *
  obtain ⟨ka, na⟩ := x
  generalize numR b = x at *
  obtain ⟨kb, nb⟩ := x
  try simp only at ha hb
  have CS := fun W => add_any ka na kb nb W ha.lo ha.hi hb.lo hb.hi
  have CT := fun W => add_any kb nb ka na W hb.lo hb.hi ha.lo ha.hi
  have CP := mul_c ka na kb nb ha hb
  have CQ := mul_c kb nb ka na hb ha
  have hs := addR_num ka na kb nb ha hb
  rw [addR_comm ka na kb nb ha hb] at CT
  rw [mulR_comm ka na kb nb ha hb] at CQ
  obtain ⟨s, hs'⟩ : ∃ s, addR ka na kb nb = s := ⟨_, rfl⟩
  rw [hs'] at CS CT hs
  obtain ⟨sk, sn, ok⟩ := s
  obtain ⟨p, hp⟩ : ∃ p, mulR ka na kb nb = p := ⟨_, rfl⟩
  rw [hp] at CP CQ
  obtain ⟨pk, pn, has⟩ := p
  refine order_core a b ka na kb nb sk sn pk pn 0 0 ok has true w CA CB CS CT CP CQ ?_
  rintro rfl rfl rfl W
  have hS := hs rfl
  rw [add3] at hs'
  have h2 : (intR (na + nb)).2.2 = true := by rw [hs']
  rw [(intR_yes _ h2).1] at hs'
  obtain ⟨rfl, rfl⟩ : 3 = sk ∧ na + nb = sn := ⟨congrArg (·.1) hs', congrArg (·.2.1) hs'⟩
  have := sub_any 3 (na + nb) 3 nb W hS hb
  rw [sub_back na nb ha hb] at this
  exact this
end Go.Proofs.YtdacpebijljckaaDoor
