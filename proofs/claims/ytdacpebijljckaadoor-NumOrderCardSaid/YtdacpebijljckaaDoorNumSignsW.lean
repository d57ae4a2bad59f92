/- The walk of the statement NumSigns. -/
import Derived.Test.YtdacpebijljckaaDoorNumT
import Derived.Test.YtdacpebijljckaaDoorNumH
set_option linter.unusedVariables false
set_option linter.unusedSimpArgs false
namespace Go.Proofs.YtdacpebijljckaaDoor
open Go.RowKit

theorem mul_c (ka na kb nb : Int) (ha : IsNum ka na) (hb : IsNum kb nb) (W : World) : Calls Tryd.prog 13 #[VN ka na, VN kb nb] W (Ret (V2 (mulR ka na kb nb)) W) :=
  mul_any ka na kb nb W ha.lo ha.hi hb.lo hb.hi (fun h4 h0 => hb.nz h4 h0)
theorem div_c (ka na kb nb : Int) (ha : IsNum ka na) (hb : IsNum kb nb) (W : World) : Calls Tryd.prog 15 #[VN ka na, VN kb nb] W (Ret (V2 (divR ka na kb nb)) W) :=
  div_any ka na kb nb W ha.lo ha.hi hb.lo hb.hi (fun h4 h0 => hb.nz h4 h0)
theorem neg_c (k n : Int) (h : IsNum k n) (W : World) : Calls Tryd.prog 14 #[VN k n] W (Ret (VN (negR k n).1 (negR k n).2) W) := neg_any k n W h.lo h.hi

set_option maxHeartbeats 4000000 in
set_option maxRecDepth 100000 in
theorem signs_core (a b ka na kb nb pk pn qk qn dk dn ek en mk mn lk ln : Int) (ok has : Bool) (w : World)
    (CA : ∀ W, Calls Tryd.prog 12 #[.int .i64 a] W (Ret (VN ka na) W))
    (CB : ∀ W, Calls Tryd.prog 12 #[.int .i64 b] W (Ret (VN kb nb) W))
    (CP : ∀ W, Calls Tryd.prog 13 #[VN ka na, VN kb nb] W (Ret (V2 (pk, pn, ok)) W))
    (CM : ∀ W, Calls Tryd.prog 14 #[VN ka na] W (Ret (VN mk mn) W))
    (CQ : ∀ W, Calls Tryd.prog 13 #[VN mk mn, VN kb nb] W (Ret (V2 (qk, qn, ok)) W))
    (CD : ∀ W, Calls Tryd.prog 15 #[VN ka na, VN kb nb] W (Ret (V2 (dk, dn, has)) W))
    (CL : ∀ W, Calls Tryd.prog 14 #[VN kb nb] W (Ret (VN lk ln) W))
    (CE : ∀ W, Calls Tryd.prog 15 #[VN ka na, VN lk ln] W (Ret (V2 (ek, en, has)) W))
    (CNP : ok = true → ∀ W, Calls Tryd.prog 14 #[VN pk pn] W (Ret (VN qk qn) W))
    (CND : has = true → ∀ W, Calls Tryd.prog 14 #[VN dk dn] W (Ret (VN ek en) W)) :
    Calls Tryd.prog 4 #[.int .i64 a, .int .i64 b] w fun e w' => e = .returned (.bool true) ∧ Below w.heap.size w w' := by
  have HCA := Lib.hid CA
  have HCB := Lib.hid CB
  have HCP := Lib.hid CP
  have HCM := Lib.hid CM
  have HCQ := Lib.hid CQ
  have HCD := Lib.hid CD
  have HCL := Lib.hid CL
  have HCE := Lib.hid CE
  have HNP := Lib.hid CNP
  have HND := Lib.hid CND
  clear CA CB CP CM CQ CD CL CE CNP CND
  go_enter Tryd.func4, Tryd.ntmps4
  go_wp2_with fail
  refine (fit_any _).mono ?_
  rintro e w1 ⟨rfl, b1⟩
  go_wp2_with fail
  refine (HCA.out _).mono ?_
  rintro e w2 ⟨rfl, b2⟩
  go_wp2_with fail
  refine (HCB.out _).mono ?_
  rintro e w3 ⟨rfl, b3⟩
  have hK := ((Keep.begin (b1.trans ((b2.trans (b3.mono b2.size)).mono b1.size))).new ka na).new kb nb
  rw [World.size_alloc] at hK
  clear b1 b2 b3
  go_wp2_with fail
  refine (HCP.out _).mono ?_
  rintro e w4 ⟨rfl, b4⟩
  have hK4 := (hK.step b4).new pk pn
  clear hK b4
  go_upto_region 5 with fail
  go_cut [9, 10] (fun s1 s2 wx => ∃ gN, s1 = .pointer (some ⟨gN, 0, none⟩) ∧ s2 = .bool ok ∧ Keep w (gN + 1) wx ((gN, qk, qn) :: [(w4.heap.size, pk, pn), (w3.heap.size + 1, kb, nb), (w3.heap.size, ka, na)]))
  case first =>
    have hm0 : (w3.heap.size, ka, na) ∈ [(w4.heap.size, pk, pn), (w3.heap.size + 1, kb, nb), (w3.heap.size, ka, na)] := by simp
    have hm1 : (w3.heap.size + 1, kb, nb) ∈ [(w4.heap.size, pk, pn), (w3.heap.size + 1, kb, nb), (w3.heap.size, ka, na)] := by simp
    go_region_held3 (fun W => W.cell? ⟨w3.heap.size, 0, none⟩ = some (.int .i64 ka) ∧ W.cell? ⟨w3.heap.size, 1, none⟩ = some (.int .i64 na) ∧ W.cell? ⟨w3.heap.size, 2, none⟩ = some (.string ⟨#[]⟩) ∧ W.cell? ⟨w3.heap.size + 1, 0, none⟩ = some (.int .i64 kb) ∧ W.cell? ⟨w3.heap.size + 1, 1, none⟩ = some (.int .i64 nb) ∧ W.cell? ⟨w3.heap.size + 1, 2, none⟩ = some (.string ⟨#[]⟩) ∧ Keep w (w4.heap.size + 1) W [(w4.heap.size, pk, pn), (w3.heap.size + 1, kb, nb), (w3.heap.size, ka, na)])
      (first
        | with_reducible exact hK4.k2 hm0 hm1
        | with_reducible exact hK4.drew.k2 hm0 hm1
        | ((try go_split_ands); with_reducible exact (Keep.step (by assumption) bq).k2 hm0 hm1)
        | ((try go_split_ands); with_reducible exact (Keep.alloc (by assumption) _).k2 hm0 hm1)
        | ((try go_split_ands); with_reducible exact ((Keep.undrew (by assumption)).alloc _).drew.k2 hm0 hm1)
        | ((try go_split_ands); with_reducible exact (Keep.drew (by assumption)).k2 hm0 hm1)
        | ((try go_split_ands); with_reducible exact (Keep.realloc (by assumption) (by omega) _).k2 hm0 hm1)
        | ((try go_split_ands); with_reducible exact ((Keep.realloc (Keep.undrew (by assumption)) (by omega) _)).drew.k2 hm0 hm1)
        | ((try go_split_ands); with_reducible exact (((Keep.set (by assumption) _ _ _ (by omega)).set _ _ _ (by omega)).set _ _ _ (by omega)).k2 hm0 hm1)
        | ((try go_split_ands); with_reducible exact ((((Keep.undrew (by assumption)).set _ _ _ (by omega)).set _ _ _ (by omega)).set _ _ _ (by omega)).drew.k2 hm0 hm1)
        | go_keep)
      (first
        | (go_at_call 14; refine (HCM.out _).mono ?_; rintro e w' ⟨rfl, bq⟩; have hz := bq.size; (try simp only [drew_size, World.size_alloc] at hz); (try (with_reducible (first | have zq := (zero_new _).step bq | have zq := ((zero_new _).drew).step bq | have zq := Zero.step ‹Zero _ _› bq | have zq := Zero.step (Zero.drew ‹Zero _ _›) bq))); (try simp only [drew_size, World.size_alloc] at zq); (try (obtain ⟨zl, z0, z1, z2, z3, z4, z5⟩ := id zq)))
        | (go_at_call 13; refine (HCQ.out _).mono ?_; rintro e w' ⟨rfl, bq⟩; have hz := bq.size; (try simp only [drew_size, World.size_alloc] at hz); (try (with_reducible (first | have zq := (zero_new _).step bq | have zq := ((zero_new _).drew).step bq | have zq := Zero.step ‹Zero _ _› bq | have zq := Zero.step (Zero.drew ‹Zero _ _›) bq))); (try simp only [drew_size, World.size_alloc] at zq); (try (obtain ⟨zl, z0, z1, z2, z3, z4, z5⟩ := id zq))))
    all_goals
      (try go_split_ands)
      go_wp2_with fail
      go_meet
      refine ⟨_, rfl, rfl, ?_⟩
      first
        | with_reducible exact Keep.more (by assumption) _ _ _ (by omega) (by simp) (at_new _ _ _)
        | with_reducible exact Keep.more (by assumption) _ _ _ (by omega) (by simp; omega) (Zero.set (by assumption) _ _)
  case rest =>
    obtain ⟨g, rfl, rfl, hK5⟩ := hcut
    clear hK4
    obtain ⟨x0a, x0b, x0c⟩ := hK5.at (w3.heap.size) ka na (by simp)
    obtain ⟨x1a, x1b, x1c⟩ := hK5.at (w3.heap.size + 1) kb nb (by simp)
    go_wp2_with fail
    refine (HCD.out _).mono ?_
    rintro e w6 ⟨rfl, b6⟩
    have hK6 := (hK5.step b6).new dk dn
    clear hK5 b6 x0a x0b x0c x1a x1b x1c
    go_upto_region 7 with fail
    go_cut [13, 14] (fun s1 s2 wx => ∃ gN, s1 = .pointer (some ⟨gN, 0, none⟩) ∧ s2 = .bool has ∧ Keep w (gN + 1) wx ((gN, ek, en) :: [(w6.heap.size, dk, dn), (g, qk, qn), (w4.heap.size, pk, pn), (w3.heap.size + 1, kb, nb), (w3.heap.size, ka, na)]))
    case first =>
      have hm0 : (w3.heap.size, ka, na) ∈ [(w6.heap.size, dk, dn), (g, qk, qn), (w4.heap.size, pk, pn), (w3.heap.size + 1, kb, nb), (w3.heap.size, ka, na)] := by simp
      have hm1 : (w3.heap.size + 1, kb, nb) ∈ [(w6.heap.size, dk, dn), (g, qk, qn), (w4.heap.size, pk, pn), (w3.heap.size + 1, kb, nb), (w3.heap.size, ka, na)] := by simp
      go_region_held3 (fun W => W.cell? ⟨w3.heap.size, 0, none⟩ = some (.int .i64 ka) ∧ W.cell? ⟨w3.heap.size, 1, none⟩ = some (.int .i64 na) ∧ W.cell? ⟨w3.heap.size, 2, none⟩ = some (.string ⟨#[]⟩) ∧ W.cell? ⟨w3.heap.size + 1, 0, none⟩ = some (.int .i64 kb) ∧ W.cell? ⟨w3.heap.size + 1, 1, none⟩ = some (.int .i64 nb) ∧ W.cell? ⟨w3.heap.size + 1, 2, none⟩ = some (.string ⟨#[]⟩) ∧ Keep w (w6.heap.size + 1) W [(w6.heap.size, dk, dn), (g, qk, qn), (w4.heap.size, pk, pn), (w3.heap.size + 1, kb, nb), (w3.heap.size, ka, na)])
        (first
          | with_reducible exact hK6.k2 hm0 hm1
          | with_reducible exact hK6.drew.k2 hm0 hm1
          | ((try go_split_ands); with_reducible exact (Keep.step (by assumption) bq).k2 hm0 hm1)
          | ((try go_split_ands); with_reducible exact (Keep.alloc (by assumption) _).k2 hm0 hm1)
          | ((try go_split_ands); with_reducible exact ((Keep.undrew (by assumption)).alloc _).drew.k2 hm0 hm1)
          | ((try go_split_ands); with_reducible exact (Keep.drew (by assumption)).k2 hm0 hm1)
          | ((try go_split_ands); with_reducible exact (Keep.realloc (by assumption) (by omega) _).k2 hm0 hm1)
          | ((try go_split_ands); with_reducible exact ((Keep.realloc (Keep.undrew (by assumption)) (by omega) _)).drew.k2 hm0 hm1)
          | ((try go_split_ands); with_reducible exact (((Keep.set (by assumption) _ _ _ (by omega)).set _ _ _ (by omega)).set _ _ _ (by omega)).k2 hm0 hm1)
          | ((try go_split_ands); with_reducible exact ((((Keep.undrew (by assumption)).set _ _ _ (by omega)).set _ _ _ (by omega)).set _ _ _ (by omega)).drew.k2 hm0 hm1)
          | go_keep)
        (first
          | (go_at_call 14; refine (HCL.out _).mono ?_; rintro e w' ⟨rfl, bq⟩; have hz := bq.size; (try simp only [drew_size, World.size_alloc] at hz); (try (with_reducible (first | have zq := (zero_new _).step bq | have zq := ((zero_new _).drew).step bq | have zq := Zero.step ‹Zero _ _› bq | have zq := Zero.step (Zero.drew ‹Zero _ _›) bq))); (try simp only [drew_size, World.size_alloc] at zq); (try (obtain ⟨zl, z0, z1, z2, z3, z4, z5⟩ := id zq)))
          | (go_at_call 15; refine (HCE.out _).mono ?_; rintro e w' ⟨rfl, bq⟩; have hz := bq.size; (try simp only [drew_size, World.size_alloc] at hz); (try (with_reducible (first | have zq := (zero_new _).step bq | have zq := ((zero_new _).drew).step bq | have zq := Zero.step ‹Zero _ _› bq | have zq := Zero.step (Zero.drew ‹Zero _ _›) bq))); (try simp only [drew_size, World.size_alloc] at zq); (try (obtain ⟨zl, z0, z1, z2, z3, z4, z5⟩ := id zq))))
      all_goals
        (try go_split_ands)
        go_wp2_with fail
        go_meet
        refine ⟨_, rfl, rfl, ?_⟩
        first
          | with_reducible exact Keep.more (by assumption) _ _ _ (by omega) (by simp) (at_new _ _ _)
          | with_reducible exact Keep.more (by assumption) _ _ _ (by omega) (by simp; omega) (Zero.set (by assumption) _ _)
    case rest =>
      obtain ⟨g7, rfl, rfl, hK7⟩ := hcut
      clear hK6
      cases ok <;> cases has
      case false.false =>
        go_wp2_with fail
        go_quiet (fail)
        go_wp2
        go_ret
        exact ⟨by simp, below_drewN hK7.below _⟩
      case false.true =>
        go_wp2_with fail
        have hm0 : (g, qk, qn) ∈ [(g7, ek, en), (w6.heap.size, dk, dn), (g, qk, qn), (w4.heap.size, pk, pn), (w3.heap.size + 1, kb, nb), (w3.heap.size, ka, na)] := by simp
        have hm1 : (w4.heap.size, pk, pn) ∈ [(g7, ek, en), (w6.heap.size, dk, dn), (g, qk, qn), (w4.heap.size, pk, pn), (w3.heap.size + 1, kb, nb), (w3.heap.size, ka, na)] := by simp
        have hm2 : (g7, ek, en) ∈ [(g7, ek, en), (w6.heap.size, dk, dn), (g, qk, qn), (w4.heap.size, pk, pn), (w3.heap.size + 1, kb, nb), (w3.heap.size, ka, na)] := by simp
        have hm3 : (w6.heap.size, dk, dn) ∈ [(g7, ek, en), (w6.heap.size, dk, dn), (g, qk, qn), (w4.heap.size, pk, pn), (w3.heap.size + 1, kb, nb), (w3.heap.size, ka, na)] := by simp
        refine wp_region_held_drew (S := fun W => W.cell? ⟨g, 0, none⟩ = some (.int .i64 qk) ∧ W.cell? ⟨g, 1, none⟩ = some (.int .i64 qn) ∧ W.cell? ⟨g, 2, none⟩ = some (.string ⟨#[]⟩) ∧ W.cell? ⟨w4.heap.size, 0, none⟩ = some (.int .i64 pk) ∧ W.cell? ⟨w4.heap.size, 1, none⟩ = some (.int .i64 pn) ∧ W.cell? ⟨w4.heap.size, 2, none⟩ = some (.string ⟨#[]⟩) ∧ W.cell? ⟨g7, 0, none⟩ = some (.int .i64 ek) ∧ W.cell? ⟨g7, 1, none⟩ = some (.int .i64 en) ∧ W.cell? ⟨g7, 2, none⟩ = some (.string ⟨#[]⟩) ∧ W.cell? ⟨w6.heap.size, 0, none⟩ = some (.int .i64 dk) ∧ W.cell? ⟨w6.heap.size, 1, none⟩ = some (.int .i64 dn) ∧ W.cell? ⟨w6.heap.size, 2, none⟩ = some (.string ⟨#[]⟩) ∧ Keep w (g7 + 1) W [(g7, ek, en), (w6.heap.size, dk, dn), (g, qk, qn), (w4.heap.size, pk, pn), (w3.heap.size + 1, kb, nb), (w3.heap.size, ka, na)]) (by kernel_rfl) (by with_reducible exact hK7.drew.k4 hm0 hm1 hm2 hm3) (fun hHeld => ?_)
        refine wpAnyH_take (i := 0) (oi := ?oo1) (v := ?vv1) ?hi1 (by kernel_rfl) (by kernel_rfl) (by kernel_rfl) ?hq1 ?hy1 (by assumption) ?hh1
        case hi1 => (simp only [List.getElem?_toArray, List.getElem?_cons_succ, List.getElem?_cons_zero]; rfl)
        case hq1 => exact fun _ _ _ h => h
        case hy1 => exact Or.inl ⟨by rfl, by (intro W hSw; (try dsimp only at hSw); go_simp; (try with_reducible rfl))⟩
        (try simp only [Act.put, List.setIfInBounds_toArray, List.set_cons_zero, List.set_cons_succ])
        refine wpAnyH_take (i := 1) (oi := ?oo2) (v := ?vv2) ?hi2 (by kernel_rfl) (by kernel_rfl) (by kernel_rfl) ?hq2 ?hy2 (by assumption) ?hh2
        case hi2 => (simp only [List.getElem?_toArray, List.getElem?_cons_succ, List.getElem?_cons_zero]; rfl)
        case hq2 => exact fun _ _ _ h => h
        case hy2 => exact Or.inl ⟨by rfl, by (intro W hSw; (try dsimp only at hSw); go_simp; (try with_reducible rfl))⟩
        (try simp only [Act.put, List.setIfInBounds_toArray, List.set_cons_zero, List.set_cons_succ])
        refine wpAnyH_take (i := 2) (oi := ?oo3) (v := ?vv3) ?hi3 (by kernel_rfl) (by kernel_rfl) (by kernel_rfl) ?hq3 ?hy3 (by assumption) ?hh3
        case hi3 => (simp only [List.getElem?_toArray, List.getElem?_cons_succ, List.getElem?_cons_zero]; rfl)
        case hq3 => exact fun _ _ _ h => h
        case hy3 => exact Or.inl ⟨by rfl, by (intro W hSw; (try dsimp only at hSw); go_simp; (try with_reducible rfl))⟩
        (try simp only [Act.put, List.setIfInBounds_toArray, List.set_cons_zero, List.set_cons_succ])
        refine wpAnyH_take (i := 3) (oi := ?oo4) (v := ?vv4) ?hi4 (by kernel_rfl) (by kernel_rfl) (by kernel_rfl) ?hq4 ?hy4 (by assumption) ?hh4
        case hi4 => (simp only [List.getElem?_toArray, List.getElem?_cons_succ, List.getElem?_cons_zero]; rfl)
        case hq4 => exact fun _ _ _ h => h
        case hy4 => exact Or.inl ⟨by rfl, by (intro W hSw; (try dsimp only at hSw); go_simp; (try with_reducible rfl))⟩
        (try simp only [Act.put, List.setIfInBounds_toArray, List.set_cons_zero, List.set_cons_succ])
        refine wpAnyH_take (i := 4) (oi := ?oo5) (v := ?vv5) ?hi5 (by kernel_rfl) (by kernel_rfl) (by kernel_rfl) ?hq5 ?hy5 (by assumption) ?hh5
        case hi5 => (simp only [List.getElem?_toArray, List.getElem?_cons_succ, List.getElem?_cons_zero]; rfl)
        case hq5 => exact fun _ _ _ h => h
        case hy5 => exact Or.inl ⟨by rfl, by (intro W hSw; (try dsimp only at hSw); go_simp; (try with_reducible rfl))⟩
        (try simp only [Act.put, List.setIfInBounds_toArray, List.set_cons_zero, List.set_cons_succ])
        refine wpAnyH_take (i := 5) (oi := ?oo6) (v := ?vv6) ?hi6 (by kernel_rfl) (by kernel_rfl) (by kernel_rfl) ?hq6 ?hy6 (by assumption) ?hh6
        case hi6 => (simp only [List.getElem?_toArray, List.getElem?_cons_succ, List.getElem?_cons_zero]; rfl)
        case hq6 => exact fun _ _ _ h => h
        case hy6 => exact Or.inl ⟨by rfl, by (intro W hSw; (try dsimp only at hSw); go_simp; (try with_reducible rfl))⟩
        (try simp only [Act.put, List.setIfInBounds_toArray, List.set_cons_zero, List.set_cons_succ])
        refine wpAnyH_take (i := 6) (oi := ?oo7) (v := ?vv7) ?hi7 (by kernel_rfl) (by kernel_rfl) (by kernel_rfl) ?hq7 ?hy7 (by assumption) ?hh7
        case hi7 => (simp only [List.getElem?_toArray, List.getElem?_cons_succ, List.getElem?_cons_zero]; rfl)
        case hq7 => exact fun _ _ _ h => h
        case hy7 => exact Or.inl ⟨by rfl, by (intro W hSw; (try dsimp only at hSw); go_simp; (try with_reducible rfl))⟩
        (try simp only [Act.put, List.setIfInBounds_toArray, List.set_cons_zero, List.set_cons_succ])
        refine wpAnyH_take (i := 7) (oi := ?oo8) (v := ?vv8) ?hi8 (by kernel_rfl) (by kernel_rfl) (by kernel_rfl) ?hq8 ?hy8 (by assumption) ?hh8
        case hi8 => (simp only [List.getElem?_toArray, List.getElem?_cons_succ, List.getElem?_cons_zero]; rfl)
        case hq8 => exact fun _ _ _ h => h
        case hy8 => exact Or.inl ⟨by rfl, by (intro W hSw; (try dsimp only at hSw); go_simp; (try with_reducible rfl))⟩
        (try simp only [Act.put, List.setIfInBounds_toArray, List.set_cons_zero, List.set_cons_succ])
        refine wpAnyH_take (i := 8) (oi := ?oo9) (v := ?vv9) ?hi9 (by kernel_rfl) (by kernel_rfl) (by kernel_rfl) ?hq9 ?hy9 (by assumption) ?hh9
        case hi9 => (simp only [List.getElem?_toArray, List.getElem?_cons_succ, List.getElem?_cons_zero]; rfl)
        case hq9 => exact fun _ _ _ h => h
        case hy9 => exact Or.inl ⟨by rfl, by (intro W hSw; (try dsimp only at hSw); go_simp; (try with_reducible rfl))⟩
        (try simp only [Act.put, List.setIfInBounds_toArray, List.set_cons_zero, List.set_cons_succ])
        refine wpAnyH_take (i := 9) (oi := ?oo10) (v := ?vv10) ?hi10 (by kernel_rfl) (by kernel_rfl) (by kernel_rfl) ?hq10 ?hy10 (by assumption) ?hh10
        case hi10 => (simp only [List.getElem?_toArray, List.getElem?_cons_succ, List.getElem?_cons_zero]; rfl)
        case hq10 => exact fun _ _ _ h => h
        case hy10 => exact Or.inl ⟨by rfl, by (intro W hSw; (try dsimp only at hSw); go_simp; (try with_reducible rfl))⟩
        (try simp only [Act.put, List.setIfInBounds_toArray, List.set_cons_zero, List.set_cons_succ])
        refine wpAnyH_take (i := 10) (oi := ?oo11) (v := ?vv11) ?hi11 (by kernel_rfl) (by kernel_rfl) (by kernel_rfl) ?hq11 ?hy11 (by assumption) ?hh11
        case hi11 => (simp only [List.getElem?_toArray, List.getElem?_cons_succ, List.getElem?_cons_zero]; rfl)
        case hq11 => exact fun _ _ _ h => h
        case hy11 => exact Or.inl ⟨by rfl, by (intro W hSw; (try dsimp only at hSw); go_simp; (try with_reducible rfl))⟩
        (try simp only [Act.put, List.setIfInBounds_toArray, List.set_cons_zero, List.set_cons_succ])
        refine wpAnyH_take (i := 11) (oi := ?oo12) (v := ?vv12) ?hi12 (by kernel_rfl) (by kernel_rfl) (by kernel_rfl) ?hq12 ?hy12 (by assumption) ?hh12
        case hi12 => (simp only [List.getElem?_toArray, List.getElem?_cons_succ, List.getElem?_cons_zero]; rfl)
        case hq12 => exact fun _ _ _ h => h
        case hy12 => exact Or.inl ⟨by rfl, by (intro W hSw; (try dsimp only at hSw); go_simp; (try with_reducible rfl))⟩
        (try simp only [Act.put, List.setIfInBounds_toArray, List.set_cons_zero, List.set_cons_succ])
        refine wpAnyH_take (i := 12) (oi := ?oo13) (v := undef) ?hi13 (by kernel_rfl) (by kernel_rfl) (by kernel_rfl) ?hq13 ?hy13 (by assumption) ?hh13
        case hi13 => (simp only [List.getElem?_toArray, List.getElem?_cons_succ, List.getElem?_cons_zero]; rfl)
        case hq13 => exact fun _ _ _ h => h
        case hy13 => exact Or.inr ⟨by rfl, rfl⟩
        (try simp only [Act.put, List.setIfInBounds_toArray, List.set_cons_zero, List.set_cons_succ])
        refine wpAnyH_take (i := 13) (oi := ?oo14) (v := undef) ?hi14 (by kernel_rfl) (by kernel_rfl) (by kernel_rfl) ?hq14 ?hy14 (by assumption) ?hh14
        case hi14 => (simp only [List.getElem?_toArray, List.getElem?_cons_succ, List.getElem?_cons_zero]; rfl)
        case hq14 => exact fun _ _ _ h => h
        case hy14 => exact Or.inr ⟨by rfl, rfl⟩
        (try simp only [Act.put, List.setIfInBounds_toArray, List.set_cons_zero, List.set_cons_succ])
        refine wpAnyH_ready (rs := [14]) (by kernel_rfl) (by simp) ?_
        refine AllReadyH.cons rfl (fun K hK => ?_) AllReadyH.nil
        go_simp
        refine hK.out _ _ (by assumption) (fun hHeld => ?_)
        clear hK K
        (try simp only [Act.put, List.setIfInBounds_toArray, List.set_cons_zero, List.set_cons_succ])
        refine wpAnyH_take (i := 15) (oi := ?oo15) (v := undef) ?hi15 (by kernel_rfl) (by kernel_rfl) (by kernel_rfl) ?hq15 ?hy15 (by assumption) ?hh15
        case hi15 => (simp only [List.getElem?_toArray, List.getElem?_cons_succ, List.getElem?_cons_zero]; rfl)
        case hq15 => exact fun _ _ _ h => h
        case hy15 => exact Or.inr ⟨by rfl, rfl⟩
        (try simp only [Act.put, List.setIfInBounds_toArray, List.set_cons_zero, List.set_cons_succ])
        refine wpAnyH_take (i := 16) (oi := ?oo16) (v := ?vv16) ?hi16 (by kernel_rfl) (by kernel_rfl) (by kernel_rfl) ?hq16 ?hy16 (by assumption) ?hh16
        case hi16 => (simp only [List.getElem?_toArray, List.getElem?_cons_succ, List.getElem?_cons_zero]; rfl)
        case hq16 => exact fun _ _ _ h => h
        case hy16 => exact Or.inl ⟨by rfl, by (intro W hSw; (try dsimp only at hSw); go_simp; (try with_reducible rfl))⟩
        (try simp only [Act.put, List.setIfInBounds_toArray, List.set_cons_zero, List.set_cons_succ])
        refine wpAnyH_take (i := 17) (oi := ?oo17) (v := ?vv17) ?hi17 (by kernel_rfl) (by kernel_rfl) (by kernel_rfl) ?hq17 ?hy17 (by assumption) ?hh17
        case hi17 => (simp only [List.getElem?_toArray, List.getElem?_cons_succ, List.getElem?_cons_zero]; rfl)
        case hq17 => exact fun _ _ _ h => h
        case hy17 => exact Or.inl ⟨by rfl, by (intro W hSw; (try dsimp only at hSw); go_simp; (try with_reducible rfl))⟩
        (try simp only [Act.put, List.setIfInBounds_toArray, List.set_cons_zero, List.set_cons_succ])
        refine wpAnyH_take (i := 18) (oi := ?oo18) (v := ?vv18) ?hi18 (by kernel_rfl) (by kernel_rfl) (by kernel_rfl) ?hq18 ?hy18 (by assumption) ?hh18
        case hi18 => (simp only [List.getElem?_toArray, List.getElem?_cons_succ, List.getElem?_cons_zero]; rfl)
        case hq18 => exact fun _ _ _ h => h
        case hy18 => exact Or.inl ⟨by rfl, by (intro W hSw; (try dsimp only at hSw); go_simp; (try with_reducible rfl))⟩
        (try simp only [Act.put, List.setIfInBounds_toArray, List.set_cons_zero, List.set_cons_succ])
        refine wpAnyH_take (i := 19) (oi := ?oo19) (v := ?vv19) ?hi19 (by kernel_rfl) (by kernel_rfl) (by kernel_rfl) ?hq19 ?hy19 (by assumption) ?hh19
        case hi19 => (simp only [List.getElem?_toArray, List.getElem?_cons_succ, List.getElem?_cons_zero]; rfl)
        case hq19 => exact fun _ _ _ h => h
        case hy19 => exact Or.inl ⟨by rfl, by (intro W hSw; (try dsimp only at hSw); go_simp; (try with_reducible rfl))⟩
        (try simp only [Act.put, List.setIfInBounds_toArray, List.set_cons_zero, List.set_cons_succ])
        refine wpAnyH_take (i := 20) (oi := ?oo20) (v := ?vv20) ?hi20 (by kernel_rfl) (by kernel_rfl) (by kernel_rfl) ?hq20 ?hy20 (by assumption) ?hh20
        case hi20 => (simp only [List.getElem?_toArray, List.getElem?_cons_succ, List.getElem?_cons_zero]; rfl)
        case hq20 => exact fun _ _ _ h => h
        case hy20 => exact Or.inl ⟨by rfl, by (intro W hSw; (try dsimp only at hSw); go_simp; (try with_reducible rfl))⟩
        (try simp only [Act.put, List.setIfInBounds_toArray, List.set_cons_zero, List.set_cons_succ])
        refine wpAnyH_take (i := 21) (oi := ?oo21) (v := ?vv21) ?hi21 (by kernel_rfl) (by kernel_rfl) (by kernel_rfl) ?hq21 ?hy21 (by assumption) ?hh21
        case hi21 => (simp only [List.getElem?_toArray, List.getElem?_cons_succ, List.getElem?_cons_zero]; rfl)
        case hq21 => exact fun _ _ _ h => h
        case hy21 => exact Or.inl ⟨by rfl, by (intro W hSw; (try dsimp only at hSw); go_simp; (try with_reducible rfl))⟩
        (try simp only [Act.put, List.setIfInBounds_toArray, List.set_cons_zero, List.set_cons_succ])
        refine wpAnyH_take (i := 22) (oi := ?oo22) (v := ?vv22) ?hi22 (by kernel_rfl) (by kernel_rfl) (by kernel_rfl) ?hq22 ?hy22 (by assumption) ?hh22
        case hi22 => (simp only [List.getElem?_toArray, List.getElem?_cons_succ, List.getElem?_cons_zero]; rfl)
        case hq22 => exact fun _ _ _ h => h
        case hy22 => exact Or.inl ⟨by rfl, by (intro W hSw; (try dsimp only at hSw); go_simp; (try with_reducible rfl))⟩
        (try simp only [Act.put, List.setIfInBounds_toArray, List.set_cons_zero, List.set_cons_succ])
        refine wpAnyH_take (i := 23) (oi := ?oo23) (v := ?vv23) ?hi23 (by kernel_rfl) (by kernel_rfl) (by kernel_rfl) ?hq23 ?hy23 (by assumption) ?hh23
        case hi23 => (simp only [List.getElem?_toArray, List.getElem?_cons_succ, List.getElem?_cons_zero]; rfl)
        case hq23 => exact fun _ _ _ h => h
        case hy23 => exact Or.inl ⟨by rfl, by (intro W hSw; (try dsimp only at hSw); go_simp; (try with_reducible rfl))⟩
        (try simp only [Act.put, List.setIfInBounds_toArray, List.set_cons_zero, List.set_cons_succ])
        refine wpAnyH_ready (rs := [24]) (by kernel_rfl) (by simp) ?_
        refine AllReadyH.cons rfl (fun K hK => ?_) AllReadyH.nil
        go_simp
        go_at_call 14
        (with_reducible refine (HND.out (by decide) _).mono ?_)
        rintro e w' ⟨rfl, bq⟩
        refine hK.out _ _ (by (try dsimp only); (try go_split_ands); with_reducible exact (Keep.step (by assumption) bq).k4 hm0 hm1 hm2 hm3) (fun hHeld => ?_)
        clear hK K
        (try simp only [Act.put, List.setIfInBounds_toArray, List.set_cons_zero, List.set_cons_succ])
        refine wpAnyH_take (i := 25) (oi := ?oo24) (v := ?vv24) ?hi24 (by kernel_rfl) (by kernel_rfl) (by kernel_rfl) ?hq24 ?hy24 (by assumption) ?hh24
        case hi24 => (simp only [List.getElem?_toArray, List.getElem?_cons_succ, List.getElem?_cons_zero]; rfl)
        case hq24 => exact fun _ _ _ h => h
        case hy24 => exact Or.inl ⟨by rfl, by (intro W hSw; (try dsimp only at hSw); go_simp; (try with_reducible rfl))⟩
        (try simp only [Act.put, List.setIfInBounds_toArray, List.set_cons_zero, List.set_cons_succ])
        refine wpAnyH_take (i := 26) (oi := ?oo25) (v := ?vv25) ?hi25 (by kernel_rfl) (by kernel_rfl) (by kernel_rfl) ?hq25 ?hy25 (by assumption) ?hh25
        case hi25 => (simp only [List.getElem?_toArray, List.getElem?_cons_succ, List.getElem?_cons_zero]; rfl)
        case hq25 => exact fun _ _ _ h => h
        case hy25 => exact Or.inl ⟨by rfl, by (intro W hSw; (try dsimp only at hSw); go_simp; (try with_reducible rfl))⟩
        (try simp only [Act.put, List.setIfInBounds_toArray, List.set_cons_zero, List.set_cons_succ])
        refine wpAnyH_take (i := 27) (oi := ?oo26) (v := ?vv26) ?hi26 (by kernel_rfl) (by kernel_rfl) (by kernel_rfl) ?hq26 ?hy26 (by assumption) ?hh26
        case hi26 => (simp only [List.getElem?_toArray, List.getElem?_cons_succ, List.getElem?_cons_zero]; rfl)
        case hq26 => exact fun _ _ _ h => h
        case hy26 => exact Or.inl ⟨by rfl, by (intro W hSw; (try dsimp only at hSw); go_simp; (try with_reducible rfl))⟩
        (try simp only [Act.put, List.setIfInBounds_toArray, List.set_cons_zero, List.set_cons_succ])
        refine wpAnyH_take (i := 28) (oi := ?oo27) (v := ?vv27) ?hi27 (by kernel_rfl) (by kernel_rfl) (by kernel_rfl) ?hq27 ?hy27 (by assumption) ?hh27
        case hi27 => (simp only [List.getElem?_toArray, List.getElem?_cons_succ, List.getElem?_cons_zero]; rfl)
        case hq27 => exact fun _ _ _ h => h
        case hy27 => exact Or.inl ⟨by rfl, by (intro W hSw; (try dsimp only at hSw); go_simp; (try with_reducible rfl))⟩
        (try simp only [Act.put, List.setIfInBounds_toArray, List.set_cons_zero, List.set_cons_succ])
        refine wpAnyH_done (by kernel_rfl) ?_ _
        (try go_split_ands)
        go_wp2_with fail
        go_ret
        exact ⟨by simp, Keep.below (by assumption)⟩
      case true.false =>
        go_wp2_with fail
        have hm0 : (g, qk, qn) ∈ [(g7, ek, en), (w6.heap.size, dk, dn), (g, qk, qn), (w4.heap.size, pk, pn), (w3.heap.size + 1, kb, nb), (w3.heap.size, ka, na)] := by simp
        have hm1 : (w4.heap.size, pk, pn) ∈ [(g7, ek, en), (w6.heap.size, dk, dn), (g, qk, qn), (w4.heap.size, pk, pn), (w3.heap.size + 1, kb, nb), (w3.heap.size, ka, na)] := by simp
        have hm2 : (g7, ek, en) ∈ [(g7, ek, en), (w6.heap.size, dk, dn), (g, qk, qn), (w4.heap.size, pk, pn), (w3.heap.size + 1, kb, nb), (w3.heap.size, ka, na)] := by simp
        have hm3 : (w6.heap.size, dk, dn) ∈ [(g7, ek, en), (w6.heap.size, dk, dn), (g, qk, qn), (w4.heap.size, pk, pn), (w3.heap.size + 1, kb, nb), (w3.heap.size, ka, na)] := by simp
        refine wp_region_held_drew (S := fun W => W.cell? ⟨g, 0, none⟩ = some (.int .i64 qk) ∧ W.cell? ⟨g, 1, none⟩ = some (.int .i64 qn) ∧ W.cell? ⟨g, 2, none⟩ = some (.string ⟨#[]⟩) ∧ W.cell? ⟨w4.heap.size, 0, none⟩ = some (.int .i64 pk) ∧ W.cell? ⟨w4.heap.size, 1, none⟩ = some (.int .i64 pn) ∧ W.cell? ⟨w4.heap.size, 2, none⟩ = some (.string ⟨#[]⟩) ∧ W.cell? ⟨g7, 0, none⟩ = some (.int .i64 ek) ∧ W.cell? ⟨g7, 1, none⟩ = some (.int .i64 en) ∧ W.cell? ⟨g7, 2, none⟩ = some (.string ⟨#[]⟩) ∧ W.cell? ⟨w6.heap.size, 0, none⟩ = some (.int .i64 dk) ∧ W.cell? ⟨w6.heap.size, 1, none⟩ = some (.int .i64 dn) ∧ W.cell? ⟨w6.heap.size, 2, none⟩ = some (.string ⟨#[]⟩) ∧ Keep w (g7 + 1) W [(g7, ek, en), (w6.heap.size, dk, dn), (g, qk, qn), (w4.heap.size, pk, pn), (w3.heap.size + 1, kb, nb), (w3.heap.size, ka, na)]) (by kernel_rfl) (by with_reducible exact hK7.drew.k4 hm0 hm1 hm2 hm3) (fun hHeld => ?_)
        refine wpAnyH_take (i := 0) (oi := ?oo28) (v := ?vv28) ?hi28 (by kernel_rfl) (by kernel_rfl) (by kernel_rfl) ?hq28 ?hy28 (by assumption) ?hh28
        case hi28 => (simp only [List.getElem?_toArray, List.getElem?_cons_succ, List.getElem?_cons_zero]; rfl)
        case hq28 => exact fun _ _ _ h => h
        case hy28 => exact Or.inl ⟨by rfl, by (intro W hSw; (try dsimp only at hSw); go_simp; (try with_reducible rfl))⟩
        (try simp only [Act.put, List.setIfInBounds_toArray, List.set_cons_zero, List.set_cons_succ])
        refine wpAnyH_take (i := 1) (oi := ?oo29) (v := ?vv29) ?hi29 (by kernel_rfl) (by kernel_rfl) (by kernel_rfl) ?hq29 ?hy29 (by assumption) ?hh29
        case hi29 => (simp only [List.getElem?_toArray, List.getElem?_cons_succ, List.getElem?_cons_zero]; rfl)
        case hq29 => exact fun _ _ _ h => h
        case hy29 => exact Or.inl ⟨by rfl, by (intro W hSw; (try dsimp only at hSw); go_simp; (try with_reducible rfl))⟩
        (try simp only [Act.put, List.setIfInBounds_toArray, List.set_cons_zero, List.set_cons_succ])
        refine wpAnyH_take (i := 2) (oi := ?oo30) (v := ?vv30) ?hi30 (by kernel_rfl) (by kernel_rfl) (by kernel_rfl) ?hq30 ?hy30 (by assumption) ?hh30
        case hi30 => (simp only [List.getElem?_toArray, List.getElem?_cons_succ, List.getElem?_cons_zero]; rfl)
        case hq30 => exact fun _ _ _ h => h
        case hy30 => exact Or.inl ⟨by rfl, by (intro W hSw; (try dsimp only at hSw); go_simp; (try with_reducible rfl))⟩
        (try simp only [Act.put, List.setIfInBounds_toArray, List.set_cons_zero, List.set_cons_succ])
        refine wpAnyH_take (i := 3) (oi := ?oo31) (v := ?vv31) ?hi31 (by kernel_rfl) (by kernel_rfl) (by kernel_rfl) ?hq31 ?hy31 (by assumption) ?hh31
        case hi31 => (simp only [List.getElem?_toArray, List.getElem?_cons_succ, List.getElem?_cons_zero]; rfl)
        case hq31 => exact fun _ _ _ h => h
        case hy31 => exact Or.inl ⟨by rfl, by (intro W hSw; (try dsimp only at hSw); go_simp; (try with_reducible rfl))⟩
        (try simp only [Act.put, List.setIfInBounds_toArray, List.set_cons_zero, List.set_cons_succ])
        refine wpAnyH_take (i := 4) (oi := ?oo32) (v := ?vv32) ?hi32 (by kernel_rfl) (by kernel_rfl) (by kernel_rfl) ?hq32 ?hy32 (by assumption) ?hh32
        case hi32 => (simp only [List.getElem?_toArray, List.getElem?_cons_succ, List.getElem?_cons_zero]; rfl)
        case hq32 => exact fun _ _ _ h => h
        case hy32 => exact Or.inl ⟨by rfl, by (intro W hSw; (try dsimp only at hSw); go_simp; (try with_reducible rfl))⟩
        (try simp only [Act.put, List.setIfInBounds_toArray, List.set_cons_zero, List.set_cons_succ])
        refine wpAnyH_take (i := 5) (oi := ?oo33) (v := ?vv33) ?hi33 (by kernel_rfl) (by kernel_rfl) (by kernel_rfl) ?hq33 ?hy33 (by assumption) ?hh33
        case hi33 => (simp only [List.getElem?_toArray, List.getElem?_cons_succ, List.getElem?_cons_zero]; rfl)
        case hq33 => exact fun _ _ _ h => h
        case hy33 => exact Or.inl ⟨by rfl, by (intro W hSw; (try dsimp only at hSw); go_simp; (try with_reducible rfl))⟩
        (try simp only [Act.put, List.setIfInBounds_toArray, List.set_cons_zero, List.set_cons_succ])
        refine wpAnyH_take (i := 6) (oi := ?oo34) (v := ?vv34) ?hi34 (by kernel_rfl) (by kernel_rfl) (by kernel_rfl) ?hq34 ?hy34 (by assumption) ?hh34
        case hi34 => (simp only [List.getElem?_toArray, List.getElem?_cons_succ, List.getElem?_cons_zero]; rfl)
        case hq34 => exact fun _ _ _ h => h
        case hy34 => exact Or.inl ⟨by rfl, by (intro W hSw; (try dsimp only at hSw); go_simp; (try with_reducible rfl))⟩
        (try simp only [Act.put, List.setIfInBounds_toArray, List.set_cons_zero, List.set_cons_succ])
        refine wpAnyH_take (i := 7) (oi := ?oo35) (v := ?vv35) ?hi35 (by kernel_rfl) (by kernel_rfl) (by kernel_rfl) ?hq35 ?hy35 (by assumption) ?hh35
        case hi35 => (simp only [List.getElem?_toArray, List.getElem?_cons_succ, List.getElem?_cons_zero]; rfl)
        case hq35 => exact fun _ _ _ h => h
        case hy35 => exact Or.inl ⟨by rfl, by (intro W hSw; (try dsimp only at hSw); go_simp; (try with_reducible rfl))⟩
        (try simp only [Act.put, List.setIfInBounds_toArray, List.set_cons_zero, List.set_cons_succ])
        refine wpAnyH_take (i := 8) (oi := ?oo36) (v := ?vv36) ?hi36 (by kernel_rfl) (by kernel_rfl) (by kernel_rfl) ?hq36 ?hy36 (by assumption) ?hh36
        case hi36 => (simp only [List.getElem?_toArray, List.getElem?_cons_succ, List.getElem?_cons_zero]; rfl)
        case hq36 => exact fun _ _ _ h => h
        case hy36 => exact Or.inl ⟨by rfl, by (intro W hSw; (try dsimp only at hSw); go_simp; (try with_reducible rfl))⟩
        (try simp only [Act.put, List.setIfInBounds_toArray, List.set_cons_zero, List.set_cons_succ])
        refine wpAnyH_take (i := 9) (oi := ?oo37) (v := ?vv37) ?hi37 (by kernel_rfl) (by kernel_rfl) (by kernel_rfl) ?hq37 ?hy37 (by assumption) ?hh37
        case hi37 => (simp only [List.getElem?_toArray, List.getElem?_cons_succ, List.getElem?_cons_zero]; rfl)
        case hq37 => exact fun _ _ _ h => h
        case hy37 => exact Or.inl ⟨by rfl, by (intro W hSw; (try dsimp only at hSw); go_simp; (try with_reducible rfl))⟩
        (try simp only [Act.put, List.setIfInBounds_toArray, List.set_cons_zero, List.set_cons_succ])
        refine wpAnyH_take (i := 10) (oi := ?oo38) (v := ?vv38) ?hi38 (by kernel_rfl) (by kernel_rfl) (by kernel_rfl) ?hq38 ?hy38 (by assumption) ?hh38
        case hi38 => (simp only [List.getElem?_toArray, List.getElem?_cons_succ, List.getElem?_cons_zero]; rfl)
        case hq38 => exact fun _ _ _ h => h
        case hy38 => exact Or.inl ⟨by rfl, by (intro W hSw; (try dsimp only at hSw); go_simp; (try with_reducible rfl))⟩
        (try simp only [Act.put, List.setIfInBounds_toArray, List.set_cons_zero, List.set_cons_succ])
        refine wpAnyH_take (i := 11) (oi := ?oo39) (v := ?vv39) ?hi39 (by kernel_rfl) (by kernel_rfl) (by kernel_rfl) ?hq39 ?hy39 (by assumption) ?hh39
        case hi39 => (simp only [List.getElem?_toArray, List.getElem?_cons_succ, List.getElem?_cons_zero]; rfl)
        case hq39 => exact fun _ _ _ h => h
        case hy39 => exact Or.inl ⟨by rfl, by (intro W hSw; (try dsimp only at hSw); go_simp; (try with_reducible rfl))⟩
        (try simp only [Act.put, List.setIfInBounds_toArray, List.set_cons_zero, List.set_cons_succ])
        refine wpAnyH_take (i := 12) (oi := ?oo40) (v := ?vv40) ?hi40 (by kernel_rfl) (by kernel_rfl) (by kernel_rfl) ?hq40 ?hy40 (by assumption) ?hh40
        case hi40 => (simp only [List.getElem?_toArray, List.getElem?_cons_succ, List.getElem?_cons_zero]; rfl)
        case hq40 => exact fun _ _ _ h => h
        case hy40 => exact Or.inl ⟨by rfl, by (intro W hSw; (try dsimp only at hSw); go_simp; (try with_reducible rfl))⟩
        (try simp only [Act.put, List.setIfInBounds_toArray, List.set_cons_zero, List.set_cons_succ])
        refine wpAnyH_take (i := 13) (oi := ?oo41) (v := ?vv41) ?hi41 (by kernel_rfl) (by kernel_rfl) (by kernel_rfl) ?hq41 ?hy41 (by assumption) ?hh41
        case hi41 => (simp only [List.getElem?_toArray, List.getElem?_cons_succ, List.getElem?_cons_zero]; rfl)
        case hq41 => exact fun _ _ _ h => h
        case hy41 => exact Or.inl ⟨by rfl, by (intro W hSw; (try dsimp only at hSw); go_simp; (try with_reducible rfl))⟩
        (try simp only [Act.put, List.setIfInBounds_toArray, List.set_cons_zero, List.set_cons_succ])
        refine wpAnyH_ready (rs := [14]) (by kernel_rfl) (by simp) ?_
        refine AllReadyH.cons rfl (fun K hK => ?_) AllReadyH.nil
        go_simp
        go_at_call 14
        (with_reducible refine (HNP.out (by decide) _).mono ?_)
        rintro e w' ⟨rfl, bq⟩
        refine hK.out _ _ (by (try dsimp only); (try go_split_ands); with_reducible exact (Keep.step (by assumption) bq).k4 hm0 hm1 hm2 hm3) (fun hHeld => ?_)
        clear hK K
        (try simp only [Act.put, List.setIfInBounds_toArray, List.set_cons_zero, List.set_cons_succ])
        refine wpAnyH_take (i := 15) (oi := ?oo42) (v := ?vv42) ?hi42 (by kernel_rfl) (by kernel_rfl) (by kernel_rfl) ?hq42 ?hy42 (by assumption) ?hh42
        case hi42 => (simp only [List.getElem?_toArray, List.getElem?_cons_succ, List.getElem?_cons_zero]; rfl)
        case hq42 => exact fun _ _ _ h => h
        case hy42 => exact Or.inl ⟨by rfl, by (intro W hSw; (try dsimp only at hSw); go_simp; (try with_reducible rfl))⟩
        (try simp only [Act.put, List.setIfInBounds_toArray, List.set_cons_zero, List.set_cons_succ])
        refine wpAnyH_take (i := 16) (oi := ?oo43) (v := ?vv43) ?hi43 (by kernel_rfl) (by kernel_rfl) (by kernel_rfl) ?hq43 ?hy43 (by assumption) ?hh43
        case hi43 => (simp only [List.getElem?_toArray, List.getElem?_cons_succ, List.getElem?_cons_zero]; rfl)
        case hq43 => exact fun _ _ _ h => h
        case hy43 => exact Or.inl ⟨by rfl, by (intro W hSw; (try dsimp only at hSw); go_simp; (try with_reducible rfl))⟩
        (try simp only [Act.put, List.setIfInBounds_toArray, List.set_cons_zero, List.set_cons_succ])
        refine wpAnyH_take (i := 17) (oi := ?oo44) (v := ?vv44) ?hi44 (by kernel_rfl) (by kernel_rfl) (by kernel_rfl) ?hq44 ?hy44 (by assumption) ?hh44
        case hi44 => (simp only [List.getElem?_toArray, List.getElem?_cons_succ, List.getElem?_cons_zero]; rfl)
        case hq44 => exact fun _ _ _ h => h
        case hy44 => exact Or.inl ⟨by rfl, by (intro W hSw; (try dsimp only at hSw); go_simp; (try with_reducible rfl))⟩
        (try simp only [Act.put, List.setIfInBounds_toArray, List.set_cons_zero, List.set_cons_succ])
        refine wpAnyH_take (i := 18) (oi := ?oo45) (v := ?vv45) ?hi45 (by kernel_rfl) (by kernel_rfl) (by kernel_rfl) ?hq45 ?hy45 (by assumption) ?hh45
        case hi45 => (simp only [List.getElem?_toArray, List.getElem?_cons_succ, List.getElem?_cons_zero]; rfl)
        case hq45 => exact fun _ _ _ h => h
        case hy45 => exact Or.inl ⟨by rfl, by (intro W hSw; (try dsimp only at hSw); go_simp; (try with_reducible rfl))⟩
        (try simp only [Act.put, List.setIfInBounds_toArray, List.set_cons_zero, List.set_cons_succ])
        refine wpAnyH_take (i := 19) (oi := ?oo46) (v := ?vv46) ?hi46 (by kernel_rfl) (by kernel_rfl) (by kernel_rfl) ?hq46 ?hy46 (by assumption) ?hh46
        case hi46 => (simp only [List.getElem?_toArray, List.getElem?_cons_succ, List.getElem?_cons_zero]; rfl)
        case hq46 => exact fun _ _ _ h => h
        case hy46 => exact Or.inl ⟨by rfl, by (intro W hSw; (try dsimp only at hSw); go_simp; (try with_reducible rfl))⟩
        (try simp only [Act.put, List.setIfInBounds_toArray, List.set_cons_zero, List.set_cons_succ])
        refine wpAnyH_take (i := 20) (oi := ?oo47) (v := ?vv47) ?hi47 (by kernel_rfl) (by kernel_rfl) (by kernel_rfl) ?hq47 ?hy47 (by assumption) ?hh47
        case hi47 => (simp only [List.getElem?_toArray, List.getElem?_cons_succ, List.getElem?_cons_zero]; rfl)
        case hq47 => exact fun _ _ _ h => h
        case hy47 => exact Or.inl ⟨by rfl, by (intro W hSw; (try dsimp only at hSw); go_simp; (try with_reducible rfl))⟩
        (try simp only [Act.put, List.setIfInBounds_toArray, List.set_cons_zero, List.set_cons_succ])
        refine wpAnyH_take (i := 21) (oi := ?oo48) (v := ?vv48) ?hi48 (by kernel_rfl) (by kernel_rfl) (by kernel_rfl) ?hq48 ?hy48 (by assumption) ?hh48
        case hi48 => (simp only [List.getElem?_toArray, List.getElem?_cons_succ, List.getElem?_cons_zero]; rfl)
        case hq48 => exact fun _ _ _ h => h
        case hy48 => exact Or.inl ⟨by rfl, by (intro W hSw; (try dsimp only at hSw); go_simp; (try with_reducible rfl))⟩
        (try simp only [Act.put, List.setIfInBounds_toArray, List.set_cons_zero, List.set_cons_succ])
        refine wpAnyH_take (i := 22) (oi := ?oo49) (v := undef) ?hi49 (by kernel_rfl) (by kernel_rfl) (by kernel_rfl) ?hq49 ?hy49 (by assumption) ?hh49
        case hi49 => (simp only [List.getElem?_toArray, List.getElem?_cons_succ, List.getElem?_cons_zero]; rfl)
        case hq49 => exact fun _ _ _ h => h
        case hy49 => exact Or.inr ⟨by rfl, rfl⟩
        (try simp only [Act.put, List.setIfInBounds_toArray, List.set_cons_zero, List.set_cons_succ])
        refine wpAnyH_take (i := 23) (oi := ?oo50) (v := undef) ?hi50 (by kernel_rfl) (by kernel_rfl) (by kernel_rfl) ?hq50 ?hy50 (by assumption) ?hh50
        case hi50 => (simp only [List.getElem?_toArray, List.getElem?_cons_succ, List.getElem?_cons_zero]; rfl)
        case hq50 => exact fun _ _ _ h => h
        case hy50 => exact Or.inr ⟨by rfl, rfl⟩
        (try simp only [Act.put, List.setIfInBounds_toArray, List.set_cons_zero, List.set_cons_succ])
        refine wpAnyH_ready (rs := [24]) (by kernel_rfl) (by simp) ?_
        refine AllReadyH.cons rfl (fun K hK => ?_) AllReadyH.nil
        go_simp
        refine hK.out _ _ (by assumption) (fun hHeld => ?_)
        clear hK K
        (try simp only [Act.put, List.setIfInBounds_toArray, List.set_cons_zero, List.set_cons_succ])
        refine wpAnyH_take (i := 25) (oi := ?oo51) (v := undef) ?hi51 (by kernel_rfl) (by kernel_rfl) (by kernel_rfl) ?hq51 ?hy51 (by assumption) ?hh51
        case hi51 => (simp only [List.getElem?_toArray, List.getElem?_cons_succ, List.getElem?_cons_zero]; rfl)
        case hq51 => exact fun _ _ _ h => h
        case hy51 => exact Or.inr ⟨by rfl, rfl⟩
        (try simp only [Act.put, List.setIfInBounds_toArray, List.set_cons_zero, List.set_cons_succ])
        refine wpAnyH_take (i := 26) (oi := ?oo52) (v := ?vv52) ?hi52 (by kernel_rfl) (by kernel_rfl) (by kernel_rfl) ?hq52 ?hy52 (by assumption) ?hh52
        case hi52 => (simp only [List.getElem?_toArray, List.getElem?_cons_succ, List.getElem?_cons_zero]; rfl)
        case hq52 => exact fun _ _ _ h => h
        case hy52 => exact Or.inl ⟨by rfl, by (intro W hSw; (try dsimp only at hSw); go_simp; (try with_reducible rfl))⟩
        (try simp only [Act.put, List.setIfInBounds_toArray, List.set_cons_zero, List.set_cons_succ])
        refine wpAnyH_take (i := 27) (oi := ?oo53) (v := ?vv53) ?hi53 (by kernel_rfl) (by kernel_rfl) (by kernel_rfl) ?hq53 ?hy53 (by assumption) ?hh53
        case hi53 => (simp only [List.getElem?_toArray, List.getElem?_cons_succ, List.getElem?_cons_zero]; rfl)
        case hq53 => exact fun _ _ _ h => h
        case hy53 => exact Or.inl ⟨by rfl, by (intro W hSw; (try dsimp only at hSw); go_simp; (try with_reducible rfl))⟩
        (try simp only [Act.put, List.setIfInBounds_toArray, List.set_cons_zero, List.set_cons_succ])
        refine wpAnyH_take (i := 28) (oi := ?oo54) (v := ?vv54) ?hi54 (by kernel_rfl) (by kernel_rfl) (by kernel_rfl) ?hq54 ?hy54 (by assumption) ?hh54
        case hi54 => (simp only [List.getElem?_toArray, List.getElem?_cons_succ, List.getElem?_cons_zero]; rfl)
        case hq54 => exact fun _ _ _ h => h
        case hy54 => exact Or.inl ⟨by rfl, by (intro W hSw; (try dsimp only at hSw); go_simp; (try with_reducible rfl))⟩
        (try simp only [Act.put, List.setIfInBounds_toArray, List.set_cons_zero, List.set_cons_succ])
        refine wpAnyH_done (by kernel_rfl) ?_ _
        (try go_split_ands)
        go_wp2_with fail
        go_ret
        exact ⟨by simp, Keep.below (by assumption)⟩
      case true.true =>
        go_wp2_with fail
        have hm0 : (g, qk, qn) ∈ [(g7, ek, en), (w6.heap.size, dk, dn), (g, qk, qn), (w4.heap.size, pk, pn), (w3.heap.size + 1, kb, nb), (w3.heap.size, ka, na)] := by simp
        have hm1 : (w4.heap.size, pk, pn) ∈ [(g7, ek, en), (w6.heap.size, dk, dn), (g, qk, qn), (w4.heap.size, pk, pn), (w3.heap.size + 1, kb, nb), (w3.heap.size, ka, na)] := by simp
        have hm2 : (g7, ek, en) ∈ [(g7, ek, en), (w6.heap.size, dk, dn), (g, qk, qn), (w4.heap.size, pk, pn), (w3.heap.size + 1, kb, nb), (w3.heap.size, ka, na)] := by simp
        have hm3 : (w6.heap.size, dk, dn) ∈ [(g7, ek, en), (w6.heap.size, dk, dn), (g, qk, qn), (w4.heap.size, pk, pn), (w3.heap.size + 1, kb, nb), (w3.heap.size, ka, na)] := by simp
        go_region_held3 (fun W => W.cell? ⟨g, 0, none⟩ = some (.int .i64 qk) ∧ W.cell? ⟨g, 1, none⟩ = some (.int .i64 qn) ∧ W.cell? ⟨g, 2, none⟩ = some (.string ⟨#[]⟩) ∧ W.cell? ⟨w4.heap.size, 0, none⟩ = some (.int .i64 pk) ∧ W.cell? ⟨w4.heap.size, 1, none⟩ = some (.int .i64 pn) ∧ W.cell? ⟨w4.heap.size, 2, none⟩ = some (.string ⟨#[]⟩) ∧ W.cell? ⟨g7, 0, none⟩ = some (.int .i64 ek) ∧ W.cell? ⟨g7, 1, none⟩ = some (.int .i64 en) ∧ W.cell? ⟨g7, 2, none⟩ = some (.string ⟨#[]⟩) ∧ W.cell? ⟨w6.heap.size, 0, none⟩ = some (.int .i64 dk) ∧ W.cell? ⟨w6.heap.size, 1, none⟩ = some (.int .i64 dn) ∧ W.cell? ⟨w6.heap.size, 2, none⟩ = some (.string ⟨#[]⟩) ∧ Keep w (g7 + 1) W [(g7, ek, en), (w6.heap.size, dk, dn), (g, qk, qn), (w4.heap.size, pk, pn), (w3.heap.size + 1, kb, nb), (w3.heap.size, ka, na)])
          (first
            | with_reducible exact hK7.k4 hm0 hm1 hm2 hm3
            | with_reducible exact hK7.drew.k4 hm0 hm1 hm2 hm3
            | ((try go_split_ands); with_reducible exact (Keep.step (by assumption) bq).k4 hm0 hm1 hm2 hm3)
            | ((try go_split_ands); with_reducible exact (Keep.alloc (by assumption) _).k4 hm0 hm1 hm2 hm3)
            | ((try go_split_ands); with_reducible exact ((Keep.undrew (by assumption)).alloc _).drew.k4 hm0 hm1 hm2 hm3)
            | ((try go_split_ands); with_reducible exact (Keep.drew (by assumption)).k4 hm0 hm1 hm2 hm3)
            | ((try go_split_ands); with_reducible exact (Keep.realloc (by assumption) (by omega) _).k4 hm0 hm1 hm2 hm3)
            | ((try go_split_ands); with_reducible exact ((Keep.realloc (Keep.undrew (by assumption)) (by omega) _)).drew.k4 hm0 hm1 hm2 hm3)
            | ((try go_split_ands); with_reducible exact (((Keep.set (by assumption) _ _ _ (by omega)).set _ _ _ (by omega)).set _ _ _ (by omega)).k4 hm0 hm1 hm2 hm3)
            | ((try go_split_ands); with_reducible exact ((((Keep.undrew (by assumption)).set _ _ _ (by omega)).set _ _ _ (by omega)).set _ _ _ (by omega)).drew.k4 hm0 hm1 hm2 hm3)
            | go_keep)
          (first
            | (go_at_call 14; (with_reducible refine (HNP.out (by decide) _).mono ?_); rintro e w' ⟨rfl, bq⟩)
            | (go_at_call 14; (with_reducible refine (HND.out (by decide) _).mono ?_); rintro e w' ⟨rfl, bq⟩))
        (try go_split_ands)
        go_wp2_with fail
        go_ret
        exact ⟨by simp, Keep.below (by assumption)⟩
end Go.Proofs.YtdacpebijljckaaDoor
