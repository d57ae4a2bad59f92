/- The walk of the statement NumParts. -/
import Derived.Test.YtdacpebijljckaaDoorNumR
import Derived.Test.YtdacpebijljckaaDoorNumL
import Derived.Test.YtdacpebijljckaaDoorNumH
set_option linter.unusedVariables false
set_option linter.unusedSimpArgs false
namespace Go.Proofs.YtdacpebijljckaaDoor
open Go.RowKit

theorem tmod_facts (na nb : Int) (h0 : nb ≠ 0) : (na.tmod nb = 0 ∨ decide (na.tmod nb < 0) = decide (na < 0)) ∧ (na.tmod nb).natAbs < nb.natAbs ∧ nb * na.tdiv nb + na.tmod nb = na ∧ (na.tmod nb).natAbs ≤ na.natAbs := by
  refine ⟨?_, by rw [Int.natAbs_tmod]; exact Nat.mod_lt _ (by omega), Int.mul_tdiv_add_tmod na nb, by rw [Int.natAbs_tmod]; exact Nat.mod_le _ _⟩
  by_cases h : 0 ≤ na
  · have := Int.tmod_nonneg nb h
    right
    rw [decide_eq_false (by omega), decide_eq_false (by omega)]
  · have h2 : (-na).tmod nb = -(na.tmod nb) := Int.neg_tmod na nb
    have h3 := Int.tmod_nonneg nb (show 0 ≤ -na by omega)
    by_cases h4 : na.tmod nb = 0
    · exact .inl h4
    · right
      rw [decide_eq_true (by omega), decide_eq_true (by omega)]

theorem parts_law (na nb : Int) (ha : IsNum 3 na) (hb : IsNum 3 nb) (h0 : nb ≠ 0) : ∃ rk rn, remR 3 na 3 nb = (rk, rn) ∧
    ((rk = 6 ∧ na < 0 ∧ na.tmod nb = 0) ∨ (rk = 3 ∧ ∃ pn qk qn bk bn, IsNum 3 rn ∧ subR 3 na 3 rn = (3, pn, true) ∧ IsNum 3 pn ∧ divR 3 pn 3 nb = (qk, qn, true) ∧ IsNum qk qn ∧ mulR qk qn 3 nb = (bk, bn, true) ∧ IsNum bk bn ∧ eqR bk bn 3 pn = true ∧
      (rn = 0 ∨ decide (rn < 0) = decide (na < 0)) ∧ rn.natAbs < nb.natAbs)) := by
  obtain ⟨f1, f2, f3, f4⟩ := tmod_facts na nb h0
  have l1 := ha.lo
  have l2 := ha.hi
  have key : ∀ pn : Int, pn = nb * na.tdiv nb → IsNum 3 pn → ∃ qk qn bk bn, divR 3 pn 3 nb = (qk, qn, true) ∧ IsNum qk qn ∧ mulR qk qn 3 nb = (bk, bn, true) ∧ IsNum bk bn ∧ eqR bk bn 3 pn = true := by
    intro pn hp hP
    by_cases p0 : pn = 0
    · subst p0
      cases hB : belowB 3 nb with
      | true => exact ⟨6, 0, 3, 0, by simp [divR, noneB, h0, hB, zkI, show belowB 3 0 = false from rfl], .inr (.inr (.inl ⟨rfl, rfl⟩)), by simp [mulR, noneB, h0, hB, zkI, show belowB 6 0 = true from rfl], ha.zero, rfl⟩
      | false => exact ⟨3, 0, 3, 0, by simp [divR, noneB, h0, hB, zkI, show belowB 3 0 = false from rfl], ha.zero, by simp [mulR, noneB, h0, hB, zkI, show belowB 3 0 = false from rfl], ha.zero, rfl⟩
    · have t0 : na.tdiv nb ≠ 0 := fun h => p0 (by rw [hp, h, Int.mul_zero])
      have e1 : pn.tmod nb = 0 := by rw [hp]; exact Int.mul_tmod_right _ _
      have e2 : pn.tdiv nb = na.tdiv nb := by rw [hp]; exact Int.mul_tdiv_cancel_left _ h0
      have hq : IsNum 3 (na.tdiv nb) := by
        have h5 : (na.tdiv nb).natAbs ≤ na.natAbs := by rw [Int.natAbs_tdiv]; exact Nat.div_le_self _ _
        exact .inr (.inr (.inr ⟨rfl, by omega, by omega⟩))
      have hm : na.tdiv nb * nb = pn := by rw [hp, Int.mul_comm]
      refine ⟨3, na.tdiv nb, 3, pn, ?_, hq, ?_, hP, ?_⟩
      · rw [div3 pn nb hP hb p0 h0, if_pos e1, e2]
      · rw [mul3 _ nb hq hb t0 h0, hm, intR, if_neg (by have := hP.lo; have := hP.hi; omega)]
      · simp [eqR, rankR]
  by_cases h6 : na < 0 ∧ na.tmod nb = 0
  · exact ⟨6, 0, by simp [remR, noneB, h0, h6.2, h6.1, zkI, show ¬ na = 0 by omega], .inl ⟨rfl, h6⟩⟩
  · refine ⟨3, na.tmod nb, ?_, .inr ⟨rfl, ?_⟩⟩
    · by_cases a0 : na = 0
      · subst a0; simp [remR, noneB, h0]
      · by_cases m0 : na.tmod nb = 0
        · have : ¬ na < 0 := fun h => h6 ⟨h, m0⟩
          simp [remR, noneB, h0, a0, m0, zkI, this]
        · simp [remR, noneB, h0, a0, m0]
    · have hr : IsNum 3 (na.tmod nb) := .inr (.inr (.inr ⟨rfl, by omega, by omega⟩))
      have f1' : na.tmod nb = 0 ∨ (na.tmod nb < 0 ↔ na < 0) := f1.imp id (fun h => by simpa using h)
      have hpn : IsNum 3 (na - na.tmod nb) := .inr (.inr (.inr ⟨rfl, by rcases f1' with h | h <;> omega, by rcases f1' with h | h <;> omega⟩))
      obtain ⟨qk, qn, bk, bn, k1, k2, k3, k4, k5⟩ := key (na - na.tmod nb) (by omega) hpn
      refine ⟨na - na.tmod nb, qk, qn, bk, bn, hr, ?_, hpn, k1, k2, k3, k4, k5, f1, f2⟩
      have := sub_back (na - na.tmod nb) (na.tmod nb) hpn hr
      have e : na - na.tmod nb + na.tmod nb = na := by omega
      rw [e] at this
      exact this

set_option maxHeartbeats 4000000 in
set_option maxRecDepth 100000 in
theorem parts_skip (a b ka na kb nb : Int) (w : World)
    (CA : ∀ W, Calls Tryd.prog 12 #[.int .i64 a] W (Ret (VN ka na) W))
    (CB : ∀ W, Calls Tryd.prog 12 #[.int .i64 b] W (Ret (VN kb nb) W)) (h : ka ≠ 3 ∨ kb ≠ 3 ∨ nb = 0) :
    Calls Tryd.prog 8 #[.int .i64 a, .int .i64 b] w fun e w' => e = .returned (.bool true) ∧ Below w.heap.size w w' := by
  have HCA := Lib.hid CA
  have HCB := Lib.hid CB
  clear CA CB
  have t : (ka != 3) = true ∨ ((ka != 3) = false ∧ (kb != 3) = true) ∨ ((ka != 3) = false ∧ (kb != 3) = false ∧ (nb == 0) = true) := by
    by_cases h1 : ka = 3 <;> by_cases h2 : kb = 3 <;> simp_all
  clear h
  rcases t with t1 | ⟨t1, t2⟩ | ⟨t1, t2, t3⟩
  all_goals
    go_enter Tryd.func8, Tryd.ntmps8
    go_wp2_with fail
    refine (fit_any _).mono ?_
    rintro e w1 ⟨rfl, b1⟩
    go_wp2_with fail
    refine (HCA.out _).mono ?_
    rintro e w2 ⟨rfl, b2⟩
    go_wp2_with fail
    refine (HCB.out _).mono ?_
    rintro e w3 ⟨rfl, b3⟩
    have hK := ((Keep.begin (b1.trans ((b2.trans (b3.mono b2.size)).mono b1.size))).new ka na).new kb nb
    clear b1 b2 b3
    go_wp2_with fail
    go_ret
    exact ⟨rfl, hK.below⟩

set_option maxHeartbeats 4000000 in
set_option maxRecDepth 100000 in
theorem parts_core (a b na nb rk rn pn qk qn bk bn : Int) (w : World) (l1 : -9007199254740991 ≤ rn) (l2 : rn ≤ 9007199254740991) (l3 : -9007199254740991 ≤ nb) (l4 : nb ≤ 9007199254740991)
    (CA : ∀ W, Calls Tryd.prog 12 #[.int .i64 a] W (Ret (VN 3 na) W))
    (CB : ∀ W, Calls Tryd.prog 12 #[.int .i64 b] W (Ret (VN 3 nb) W))
    (CR : ∀ W, Calls Tryd.prog 26 #[VN 3 na, VN 3 nb] W (Ret (VN rk rn) W)) (z0 : (nb == 0) = false)
    (h : ((rk == 6) = true ∧ decide (na < 0) = true ∧ (na.tmod nb == 0) = true) ∨
      ((rk == 6) = false ∧
      (∀ W, Calls Tryd.prog 17 #[VN 3 na, VN rk rn] W (Ret (V2 (3, pn, true)) W)) ∧
      (∀ W, Calls Tryd.prog 15 #[VN 3 pn, VN 3 nb] W (Ret (V2 (qk, qn, true)) W)) ∧
      (∀ W, Calls Tryd.prog 13 #[VN qk qn, VN 3 nb] W (Ret (V2 (bk, bn, true)) W)) ∧
      (∀ W, Calls Tryd.prog 21 #[VN bk bn, VN 3 pn] W (Ret (.bool true) W)) ∧
      ((rn == 0) = true ∨ ((rn == 0) = false ∧ decide (rn < 0) = decide (na < 0))) ∧ rn.natAbs < nb.natAbs)) :
    Calls Tryd.prog 8 #[.int .i64 a, .int .i64 b] w fun e w' => e = .returned (.bool true) ∧ Below w.heap.size w w' := by
  have HCA := Lib.hid CA
  have HCB := Lib.hid CB
  have HCR := Lib.hid CR
  have HH := Lib.hid h
  have z1 : ¬ nb = 0 := by simpa using z0
  clear CA CB CR h
  go_enter Tryd.func8, Tryd.ntmps8
  go_wp2_with fail
  refine (fit_any _).mono ?_
  rintro e w1 ⟨rfl, b1⟩
  go_wp2_with fail
  refine (HCA.out _).mono ?_
  rintro e w2 ⟨rfl, b2⟩
  go_wp2_with fail
  refine (HCB.out _).mono ?_
  rintro e w3 ⟨rfl, b3⟩
  have hK := ((Keep.begin (b1.trans ((b2.trans (b3.mono b2.size)).mono b1.size))).new 3 na).new 3 nb
  rw [World.size_alloc] at hK
  clear b1 b2 b3
  go_upto_region 6 with fail
  go_cut [7] (fun s1 wx => ∃ gN, s1 = .pointer (some ⟨gN, 0, none⟩) ∧ Keep w (gN + 1) wx ((gN, rk, rn) :: [(w3.heap.size + 1, 3, nb), (w3.heap.size, 3, na)]))
  case first =>
    obtain ⟨x0a, x0b, x0c⟩ := hK.at (w3.heap.size) 3 na (by simp)
    obtain ⟨x1a, x1b, x1c⟩ := hK.at (w3.heap.size + 1) 3 nb (by simp)
    go_wp2_with fail
    refine (HCR.out _).mono ?_
    rintro e wN ⟨rfl, bN⟩
    have hN := (hK.step bN).new rk rn
    clear x0a x0b x0c x1a x1b x1c
    go_wp2_with fail
    go_meet
    exact ⟨_, rfl, hN⟩
  case rest =>
    obtain ⟨g6, rfl, hK6⟩ := hcut
    clear hK
    rcases HH.out with ⟨q1, q2, q3⟩ | ⟨q1, CS, CD, CM, CE, hs, hm⟩
    · clear HH
      obtain ⟨x0a, x0b, x0c⟩ := hK6.at (w3.heap.size) 3 na (by simp)
      obtain ⟨x1a, x1b, x1c⟩ := hK6.at (w3.heap.size + 1) 3 nb (by simp)
      obtain ⟨x2a, x2b, x2c⟩ := hK6.at (g6) rk rn (by simp)
      go_wp2_with fail
      all_goals
        go_ret
        exact ⟨by simp_all, hK6.below⟩
    · have HCS := Lib.hid CS
      have HCD := Lib.hid CD
      have HCM := Lib.hid CM
      have HCE := Lib.hid CE
      have HS := Lib.hid hs
      have HM := Lib.hid hm
      clear CS CD CM CE hs hm HH
      obtain ⟨y0a, y0b, y0c⟩ := hK6.at (g6) rk rn (by simp)
      go_upto_region 9 with fail
      go_cut [8, 9] (fun s1 s2 wx => ∃ gN, s1 = .pointer (some ⟨gN, 0, none⟩) ∧ s2 = .bool true ∧ Keep w (gN + 1) wx ((gN, 3, pn) :: [(g6, rk, rn), (w3.heap.size + 1, 3, nb), (w3.heap.size, 3, na)]))
      case first =>
        obtain ⟨x0a, x0b, x0c⟩ := hK6.at (w3.heap.size) 3 na (by simp)
        obtain ⟨x1a, x1b, x1c⟩ := hK6.at (g6) rk rn (by simp)
        go_wp2_with fail
        refine (HCS.out _).mono ?_
        rintro e wN ⟨rfl, bN⟩
        have hN := (hK6.step bN).new 3 pn
        clear x0a x0b x0c x1a x1b x1c
        go_wp2_with fail
        go_meet
        exact ⟨_, rfl, rfl, hN⟩
      case rest =>
        obtain ⟨g9, rfl, rfl, hK9⟩ := hcut
        clear hK6
        go_upto_region 12 with fail
        go_cut [10, 11] (fun s1 s2 wx => ∃ gN, s1 = .pointer (some ⟨gN, 0, none⟩) ∧ s2 = .bool true ∧ Keep w (gN + 1) wx ((gN, qk, qn) :: [(g9, 3, pn), (g6, rk, rn), (w3.heap.size + 1, 3, nb), (w3.heap.size, 3, na)]))
        case first =>
          obtain ⟨x0a, x0b, x0c⟩ := hK9.at (g9) 3 pn (by simp)
          obtain ⟨x1a, x1b, x1c⟩ := hK9.at (w3.heap.size + 1) 3 nb (by simp)
          go_wp2_with fail
          refine (HCD.out _).mono ?_
          rintro e wN ⟨rfl, bN⟩
          have hN := (hK9.step bN).new qk qn
          clear x0a x0b x0c x1a x1b x1c
          go_wp2_with fail
          go_meet
          exact ⟨_, rfl, rfl, hN⟩
        case rest =>
          obtain ⟨g12, rfl, rfl, hK12⟩ := hcut
          clear hK9
          go_upto_region 13 with fail
          go_cut [12, 13] (fun s1 s2 wx => ∃ gN, s1 = .pointer (some ⟨gN, 0, none⟩) ∧ s2 = .bool true ∧ Keep w (gN + 1) wx ((gN, bk, bn) :: [(g12, qk, qn), (g9, 3, pn), (g6, rk, rn), (w3.heap.size + 1, 3, nb), (w3.heap.size, 3, na)]))
          case first =>
            obtain ⟨x0a, x0b, x0c⟩ := hK12.at (g12) qk qn (by simp)
            obtain ⟨x1a, x1b, x1c⟩ := hK12.at (w3.heap.size + 1) 3 nb (by simp)
            go_wp2_with fail
            refine (HCM.out _).mono ?_
            rintro e wN ⟨rfl, bN⟩
            have hN := (hK12.step bN).new bk bn
            clear x0a x0b x0c x1a x1b x1c
            go_wp2_with fail
            go_meet
            exact ⟨_, rfl, rfl, hN⟩
          case rest =>
            obtain ⟨g13, rfl, rfl, hK13⟩ := hcut
            clear hK12
            obtain ⟨x0a, x0b, x0c⟩ := hK13.at (g13) bk bn (by simp)
            obtain ⟨x1a, x1b, x1c⟩ := hK13.at (g9) 3 pn (by simp)
            go_wp2_with fail
            refine (HCE.out _).mono ?_
            rintro e w14 ⟨rfl, b14⟩
            have hK14 := hK13.step b14
            clear x0a x0b x0c x1a x1b x1c hK13
            obtain ⟨x0a, x0b, x0c⟩ := hK14.at (w3.heap.size) 3 na (by simp)
            obtain ⟨x1a, x1b, x1c⟩ := hK14.at (w3.heap.size + 1) 3 nb (by simp)
            obtain ⟨x2a, x2b, x2c⟩ := hK14.at (g6) rk rn (by simp)
            go_wp2_with fail
            all_goals
              have hs := HS.out
              have hm := HM.out
              first
                | (exfalso; rcases hs with h | ⟨h1, h2⟩ <;> simp_all; done)
                | (go_ret
                   refine ⟨congrArg (fun b => Ending.returned (Value.bool b)) (?_ : _ = true), hK14.below⟩
                   exact decide_eq_true (by omega))

theorem parts_walk (a b : Int) (w : World) (wa : (Lit.int .i64 a).wf = true) (wb : (Lit.int .i64 b).wf = true) :
    Calls Tryd.prog 8 #[.int .i64 a, .int .i64 b] w fun e w' => e = .returned (.bool true) ∧ Below w.heap.size w w' := by
  have CA := fun W => num_any a W wa
  have CB := fun W => num_any b W wb
  have ha := numR_is a
  have hb := numR_is b
  generalize numR a = x at *
  obtain ⟨ka, na⟩ := x
  generalize numR b = x at *
  obtain ⟨kb, nb⟩ := x
  try simp only at ha hb
  by_cases hk : ka ≠ 3 ∨ kb ≠ 3 ∨ nb = 0
  · exact parts_skip a b ka na kb nb w CA CB hk
  · obtain ⟨rfl, rfl, h0⟩ : ka = 3 ∧ kb = 3 ∧ nb ≠ 0 := by omega
    obtain ⟨rk, rn, hr, h⟩ := parts_law na nb ha hb h0
    have CR := fun W => rem_any 3 na 3 nb W ha.lo ha.hi hb.lo hb.hi (fun h4 h0 => hb.nz h4 h0)
    rw [hr] at CR
    rcases h with ⟨rfl, h1, h2⟩ | ⟨rfl, pn, qk, qn, bk, bn, hR, e1, hP, e2, hQ, e3, hB, e4, e5, e6⟩
    · have e : remR 3 na 3 nb = (6, 0) := by simp [remR, noneB, h0, h2, h1, zkI, show ¬ na = 0 by omega]
      obtain rfl : rn = 0 := by rw [e] at hr; exact (congrArg (·.2) hr).symm
      exact parts_core a b na nb 6 0 0 0 0 0 0 w (by decide) (by decide) hb.lo hb.hi CA CB CR (by simpa using h0) (.inl ⟨rfl, by simpa using h1, by simpa using h2⟩)
    · have CS := fun W => sub_any 3 na 3 rn W ha hR
      rw [e1] at CS
      have CD := fun W => div_any 3 pn 3 nb W hP.lo hP.hi hb.lo hb.hi (fun h4 h0 => hb.nz h4 h0)
      rw [e2] at CD
      have CM := fun W => mul_any qk qn 3 nb W hQ.lo hQ.hi hb.lo hb.hi (fun h4 h0 => hb.nz h4 h0)
      rw [e3] at CM
      have CE := fun W => equal_any bk bn 3 pn W hB hP
      rw [e4] at CE
      refine parts_core a b na nb 3 rn pn qk qn bk bn w hR.lo hR.hi hb.lo hb.hi CA CB CR (by simpa using h0) (.inr ⟨rfl, CS, CD, CM, CE, ?_, e6⟩)
      by_cases hz : rn = 0
      · exact .inl (by simpa using hz)
      · exact .inr ⟨by simpa using hz, e5.resolve_left hz⟩
end Go.Proofs.YtdacpebijljckaaDoor
