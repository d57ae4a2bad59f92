/- The walk of the statement NumSigns. -/
import Derived.Test.YtdacpebijljckaaDoorNumT
import Derived.Test.YtdacpebijljckaaDoorNumH
set_option linter.unusedVariables false
set_option linter.unusedSimpArgs false
namespace Go.Proofs.YtdacpebijljckaaDoor
open Go.RowKit

theorem mul_c (ka na kb nb : Int) (ha : IsNum ka na) (hb : IsNum kb nb) (W : World) : Calls Tryd.prog 13 #[VN ka na, VN kb nb] W (Ret (V2 (mulR ka na kb nb)) W) :=
  mul_any ka na kb nb W ha.lo ha.hi hb.lo hb.hi (fun h4 h0 => hb.nz h4 h0)
theorem div_c (ka na kb nb : Int) (ha : IsNum ka na) (hb : IsNum kb nb) (W : World) : Calls Tryd.prog 15 #[VN ka na, VN kb nb] W (Ret (V2 (divR ka na kb nb)) W) :=
  div_any ka na kb nb W ha.lo ha.hi hb.lo hb.hi (fun h4 h0 => hb.nz h4 h0)
theorem neg_c (k n : Int) (h : IsNum k n) (W : World) : Calls Tryd.prog 14 #[VN k n] W (Ret (VN (negR k n).1 (negR k n).2) W) := neg_any k n W h.lo h.hi

set_option maxHeartbeats 4000000 in
set_option maxRecDepth 100000 in
theorem signs_core (a b ka na kb nb pk pn qk qn dk dn ek en mk mn lk ln : Int) (ok has : Bool) (w : World)
    (CA : ∀ W, Calls Tryd.prog 12 #[.int .i64 a] W (Ret (VN ka na) W))
    (CB : ∀ W, Calls Tryd.prog 12 #[.int .i64 b] W (Ret (VN kb nb) W))
    (CP : ∀ W, Calls Tryd.prog 13 #[VN ka na, VN kb nb] W (Ret (V2 (pk, pn, ok)) W))
    (CM : ∀ W, Calls Tryd.prog 14 #[VN ka na] W (Ret (VN mk mn) W))
    (CQ : ∀ W, Calls Tryd.prog 13 #[VN mk mn, VN kb nb] W (Ret (V2 (qk, qn, ok)) W))
    (CD : ∀ W, Calls Tryd.prog 15 #[VN ka na, VN kb nb] W (Ret (V2 (dk, dn, has)) W))
    (CL : ∀ W, Calls Tryd.prog 14 #[VN kb nb] W (Ret (VN lk ln) W))
    (CE : ∀ W, Calls Tryd.prog 15 #[VN ka na, VN lk ln] W (Ret (V2 (ek, en, has)) W))
    (CNP : ok = true → ∀ W, Calls Tryd.prog 14 #[VN pk pn] W (Ret (VN qk qn) W))
    (CND : has = true → ∀ W, Calls Tryd.prog 14 #[VN dk dn] W (Ret (VN ek en) W)) :
    Calls Tryd.prog 4 #[.int .i64 a, .int .i64 b] w fun e w' => e = .returned (.bool true) ∧ Below w.heap.size w w' := by
  have HCA := Lib.hid CA
  have HCB := Lib.hid CB
  have HCP := Lib.hid CP
  have HCM := Lib.hid CM
  have HCQ := Lib.hid CQ
  have HCD := Lib.hid CD
  have HCL := Lib.hid CL
  have HCE := Lib.hid CE
  have HNP := Lib.hid CNP
  have HND := Lib.hid CND
  clear CA CB CP CM CQ CD CL CE CNP CND
  go_enter Tryd.func4, Tryd.ntmps4
  go_wp2_with fail
  refine (fit_any _).mono ?_
  rintro e w1 ⟨rfl, b1⟩
  go_wp2_with fail
  refine (HCA.out _).mono ?_
  rintro e w2 ⟨rfl, b2⟩
  go_wp2_with fail
  refine (HCB.out _).mono ?_
  rintro e w3 ⟨rfl, b3⟩
  have hK := ((Keep.begin (b1.trans ((b2.trans (b3.mono b2.size)).mono b1.size))).new ka na).new kb nb
  rw [World.size_alloc] at hK
  clear b1 b2 b3
  go_wp2_with fail
  refine (HCP.out _).mono ?_
  rintro e w4 ⟨rfl, b4⟩
  have hK4 := (hK.step b4).new pk pn
  clear hK b4
  go_upto_region 5 with fail
  go_cut [9, 10] (fun s1 s2 wx => ∃ gN, s1 = .pointer (some ⟨gN, 0, none⟩) ∧ s2 = .bool ok ∧ Keep w (gN + 1) wx ((gN, qk, qn) :: [(w4.heap.size, pk, pn), (w3.heap.size + 1, kb, nb), (w3.heap.size, ka, na)]))
  case first =>
    have hm0 : (w3.heap.size, ka, na) ∈ [(w4.heap.size, pk, pn), (w3.heap.size + 1, kb, nb), (w3.heap.size, ka, na)] := by simp
    have hm1 : (w3.heap.size + 1, kb, nb) ∈ [(w4.heap.size, pk, pn), (w3.heap.size + 1, kb, nb), (w3.heap.size, ka, na)] := by simp
    go_region_held3 (fun W => W.cell? ⟨w3.heap.size, 0, none⟩ = some (.int .i64 ka) ∧ W.cell? ⟨w3.heap.size, 1, none⟩ = some (.int .i64 na) ∧ W.cell? ⟨w3.heap.size, 2, none⟩ = some (.string ⟨#[]⟩) ∧ W.cell? ⟨w3.heap.size + 1, 0, none⟩ = some (.int .i64 kb) ∧ W.cell? ⟨w3.heap.size + 1, 1, none⟩ = some (.int .i64 nb) ∧ W.cell? ⟨w3.heap.size + 1, 2, none⟩ = some (.string ⟨#[]⟩) ∧ Keep w (w4.heap.size + 1) W [(w4.heap.size, pk, pn), (w3.heap.size + 1, kb, nb), (w3.heap.size, ka, na)])
      (first
        | with_reducible exact hK4.k2 hm0 hm1
        | with_reducible exact hK4.drew.k2 hm0 hm1
        | ((try go_split_ands); with_reducible exact (Keep.step (by assumption) bq).k2 hm0 hm1)
        | ((try go_split_ands); with_reducible exact (Keep.alloc (by assumption) _).k2 hm0 hm1)
        | ((try go_split_ands); with_reducible exact ((Keep.undrew (by assumption)).alloc _).drew.k2 hm0 hm1)
        | ((try go_split_ands); with_reducible exact (Keep.drew (by assumption)).k2 hm0 hm1)
        | ((try go_split_ands); with_reducible exact (Keep.realloc (by assumption) (by omega) _).k2 hm0 hm1)
        | ((try go_split_ands); with_reducible exact ((Keep.realloc (Keep.undrew (by assumption)) (by omega) _)).drew.k2 hm0 hm1)
        | ((try go_split_ands); with_reducible exact (((Keep.set (by assumption) _ _ _ (by omega)).set _ _ _ (by omega)).set _ _ _ (by omega)).k2 hm0 hm1)
        | ((try go_split_ands); with_reducible exact ((((Keep.undrew (by assumption)).set _ _ _ (by omega)).set _ _ _ (by omega)).set _ _ _ (by omega)).drew.k2 hm0 hm1)
        | go_keep)
      (first
        | (go_at_call 14; refine (HCM.out _).mono ?_; rintro e w' ⟨rfl, bq⟩; have hz := bq.size; (try simp only [drew_size, World.size_alloc] at hz); (try (with_reducible (first | have zq := (zero_new _).step bq | have zq := ((zero_new _).drew).step bq | have zq := Zero.step ‹Zero _ _› bq | have zq := Zero.step (Zero.drew ‹Zero _ _›) bq))); (try simp only [drew_size, World.size_alloc] at zq); (try (obtain ⟨zl, z0, z1, z2, z3, z4, z5⟩ := id zq)))
        | (go_at_call 13; refine (HCQ.out _).mono ?_; rintro e w' ⟨rfl, bq⟩; have hz := bq.size; (try simp only [drew_size, World.size_alloc] at hz); (try (with_reducible (first | have zq := (zero_new _).step bq | have zq := ((zero_new _).drew).step bq | have zq := Zero.step ‹Zero _ _› bq | have zq := Zero.step (Zero.drew ‹Zero _ _›) bq))); (try simp only [drew_size, World.size_alloc] at zq); (try (obtain ⟨zl, z0, z1, z2, z3, z4, z5⟩ := id zq))))
    all_goals
      (try go_split_ands)
      go_wp2_with fail
      go_meet
      refine ⟨_, rfl, rfl, ?_⟩
      first
        | with_reducible exact Keep.more (by assumption) _ _ _ (by omega) (by simp) (at_new _ _ _)
        | with_reducible exact Keep.more (by assumption) _ _ _ (by omega) (by simp; omega) (Zero.set (by assumption) _ _)
  case rest =>
    obtain ⟨g, rfl, rfl, hK5⟩ := hcut
    clear hK4
    obtain ⟨x0a, x0b, x0c⟩ := hK5.at (w3.heap.size) ka na (by simp)
    obtain ⟨x1a, x1b, x1c⟩ := hK5.at (w3.heap.size + 1) kb nb (by simp)
    go_wp2_with fail
    refine (HCD.out _).mono ?_
    rintro e w6 ⟨rfl, b6⟩
    have hK6 := (hK5.step b6).new dk dn
    clear hK5 b6 x0a x0b x0c x1a x1b x1c
    go_upto_region 7 with fail
    go_cut [13, 14] (fun s1 s2 wx => ∃ gN, s1 = .pointer (some ⟨gN, 0, none⟩) ∧ s2 = .bool has ∧ Keep w (gN + 1) wx ((gN, ek, en) :: [(w6.heap.size, dk, dn), (g, qk, qn), (w4.heap.size, pk, pn), (w3.heap.size + 1, kb, nb), (w3.heap.size, ka, na)]))
    case first =>
      have hm0 : (w3.heap.size, ka, na) ∈ [(w6.heap.size, dk, dn), (g, qk, qn), (w4.heap.size, pk, pn), (w3.heap.size + 1, kb, nb), (w3.heap.size, ka, na)] := by simp
      have hm1 : (w3.heap.size + 1, kb, nb) ∈ [(w6.heap.size, dk, dn), (g, qk, qn), (w4.heap.size, pk, pn), (w3.heap.size + 1, kb, nb), (w3.heap.size, ka, na)] := by simp
      go_region_held3 (fun W => W.cell? ⟨w3.heap.size, 0, none⟩ = some (.int .i64 ka) ∧ W.cell? ⟨w3.heap.size, 1, none⟩ = some (.int .i64 na) ∧ W.cell? ⟨w3.heap.size, 2, none⟩ = some (.string ⟨#[]⟩) ∧ W.cell? ⟨w3.heap.size + 1, 0, none⟩ = some (.int .i64 kb) ∧ W.cell? ⟨w3.heap.size + 1, 1, none⟩ = some (.int .i64 nb) ∧ W.cell? ⟨w3.heap.size + 1, 2, none⟩ = some (.string ⟨#[]⟩) ∧ Keep w (w6.heap.size + 1) W [(w6.heap.size, dk, dn), (g, qk, qn), (w4.heap.size, pk, pn), (w3.heap.size + 1, kb, nb), (w3.heap.size, ka, na)])
        (first
          | with_reducible exact hK6.k2 hm0 hm1
          | with_reducible exact hK6.drew.k2 hm0 hm1
          | ((try go_split_ands); with_reducible exact (Keep.step (by assumption) bq).k2 hm0 hm1)
          | ((try go_split_ands); with_reducible exact (Keep.alloc (by assumption) _).k2 hm0 hm1)
          | ((try go_split_ands); with_reducible exact ((Keep.undrew (by assumption)).alloc _).drew.k2 hm0 hm1)
          | ((try go_split_ands); with_reducible exact (Keep.drew (by assumption)).k2 hm0 hm1)
          | ((try go_split_ands); with_reducible exact (Keep.realloc (by assumption) (by omega) _).k2 hm0 hm1)
          | ((try go_split_ands); with_reducible exact ((Keep.realloc (Keep.undrew (by assumption)) (by omega) _)).drew.k2 hm0 hm1)
          | ((try go_split_ands); with_reducible exact (((Keep.set (by assumption) _ _ _ (by omega)).set _ _ _ (by omega)).set _ _ _ (by omega)).k2 hm0 hm1)
          | ((try go_split_ands); with_reducible exact ((((Keep.undrew (by assumption)).set _ _ _ (by omega)).set _ _ _ (by omega)).set _ _ _ (by omega)).drew.k2 hm0 hm1)
          | go_keep)
        (first
          | (go_at_call 14; refine (HCL.out _).mono ?_; rintro e w' ⟨rfl, bq⟩; have hz := bq.size; (try simp only [drew_size, World.size_alloc] at hz); (try (with_reducible (first | have zq := (zero_new _).step bq | have zq := ((zero_new _).drew).step bq | have zq := Zero.step ‹Zero _ _› bq | have zq := Zero.step (Zero.drew ‹Zero _ _›) bq))); (try simp only [drew_size, World.size_alloc] at zq); (try (obtain ⟨zl, z0, z1, z2, z3, z4, z5⟩ := id zq)))
          | (go_at_call 15; refine (HCE.out _).mono ?_; rintro e w' ⟨rfl, bq⟩; have hz := bq.size; (try simp only [drew_size, World.size_alloc] at hz); (try (with_reducible (first | have zq := (zero_new _).step bq | have zq := ((zero_new _).drew).step bq | have zq := Zero.step ‹Zero _ _› bq | have zq := Zero.step (Zero.drew ‹Zero _ _›) bq))); (try simp only [drew_size, World.size_alloc] at zq); (try (obtain ⟨zl, z0, z1, z2, z3, z4, z5⟩ := id zq))))
      all_goals
        (try go_split_ands)
        go_wp2_with fail
        go_meet
        refine ⟨_, rfl, rfl, ?_⟩
        first
          | with_reducible exact Keep.more (by assumption) _ _ _ (by omega) (by simp) (at_new _ _ _)
          | with_reducible exact Keep.more (by assumption) _ _ _ (by omega) (by simp; omega) (Zero.set (by assumption) _ _)
    case rest =>
      obtain ⟨g7, rfl, rfl, hK7⟩ := hcut
      clear hK6
      cases ok <;> cases has
      all_goals
        go_wp2_with fail
        have hm0 : (g, qk, qn) ∈ [(g7, ek, en), (w6.heap.size, dk, dn), (g, qk, qn), (w4.heap.size, pk, pn), (w3.heap.size + 1, kb, nb), (w3.heap.size, ka, na)] := by simp
        have hm1 : (w4.heap.size, pk, pn) ∈ [(g7, ek, en), (w6.heap.size, dk, dn), (g, qk, qn), (w4.heap.size, pk, pn), (w3.heap.size + 1, kb, nb), (w3.heap.size, ka, na)] := by simp
        have hm2 : (g7, ek, en) ∈ [(g7, ek, en), (w6.heap.size, dk, dn), (g, qk, qn), (w4.heap.size, pk, pn), (w3.heap.size + 1, kb, nb), (w3.heap.size, ka, na)] := by simp
        have hm3 : (w6.heap.size, dk, dn) ∈ [(g7, ek, en), (w6.heap.size, dk, dn), (g, qk, qn), (w4.heap.size, pk, pn), (w3.heap.size + 1, kb, nb), (w3.heap.size, ka, na)] := by simp
        first
          | go_region_held3 (fun W => W.cell? ⟨g, 0, none⟩ = some (.int .i64 qk) ∧ W.cell? ⟨g, 1, none⟩ = some (.int .i64 qn) ∧ W.cell? ⟨g, 2, none⟩ = some (.string ⟨#[]⟩) ∧ W.cell? ⟨w4.heap.size, 0, none⟩ = some (.int .i64 pk) ∧ W.cell? ⟨w4.heap.size, 1, none⟩ = some (.int .i64 pn) ∧ W.cell? ⟨w4.heap.size, 2, none⟩ = some (.string ⟨#[]⟩) ∧ W.cell? ⟨g7, 0, none⟩ = some (.int .i64 ek) ∧ W.cell? ⟨g7, 1, none⟩ = some (.int .i64 en) ∧ W.cell? ⟨g7, 2, none⟩ = some (.string ⟨#[]⟩) ∧ W.cell? ⟨w6.heap.size, 0, none⟩ = some (.int .i64 dk) ∧ W.cell? ⟨w6.heap.size, 1, none⟩ = some (.int .i64 dn) ∧ W.cell? ⟨w6.heap.size, 2, none⟩ = some (.string ⟨#[]⟩) ∧ Keep w (g7 + 1) W [(g7, ek, en), (w6.heap.size, dk, dn), (g, qk, qn), (w4.heap.size, pk, pn), (w3.heap.size + 1, kb, nb), (w3.heap.size, ka, na)])
            (first
              | with_reducible exact hK7.k4 hm0 hm1 hm2 hm3
              | with_reducible exact hK7.drew.k4 hm0 hm1 hm2 hm3
              | ((try go_split_ands); with_reducible exact (Keep.step (by assumption) bq).k4 hm0 hm1 hm2 hm3)
              | ((try go_split_ands); with_reducible exact (Keep.alloc (by assumption) _).k4 hm0 hm1 hm2 hm3)
              | ((try go_split_ands); with_reducible exact ((Keep.undrew (by assumption)).alloc _).drew.k4 hm0 hm1 hm2 hm3)
              | ((try go_split_ands); with_reducible exact (Keep.drew (by assumption)).k4 hm0 hm1 hm2 hm3)
              | ((try go_split_ands); with_reducible exact (Keep.realloc (by assumption) (by omega) _).k4 hm0 hm1 hm2 hm3)
              | ((try go_split_ands); with_reducible exact ((Keep.realloc (Keep.undrew (by assumption)) (by omega) _)).drew.k4 hm0 hm1 hm2 hm3)
              | ((try go_split_ands); with_reducible exact (((Keep.set (by assumption) _ _ _ (by omega)).set _ _ _ (by omega)).set _ _ _ (by omega)).k4 hm0 hm1 hm2 hm3)
              | ((try go_split_ands); with_reducible exact ((((Keep.undrew (by assumption)).set _ _ _ (by omega)).set _ _ _ (by omega)).set _ _ _ (by omega)).drew.k4 hm0 hm1 hm2 hm3)
              | go_keep)
            (first
              | (go_at_call 14; (with_reducible refine (HNP.out (by decide) _).mono ?_); rintro e w' ⟨rfl, bq⟩)
              | (go_at_call 14; (with_reducible refine (HND.out (by decide) _).mono ?_); rintro e w' ⟨rfl, bq⟩))
          | fail
        all_goals
          (try go_split_ands)
          go_wp2_with fail
          go_ret
          exact ⟨by simp, Keep.below (by assumption)⟩

end Go.Proofs.YtdacpebijljckaaDoor
