/- The statement ArenaCircles: its walk. -/
import Derived.Test.YthcdhiknjpfmhaaArCiA
import Derived.BigRegion
import Derived.Test.YthcdhiknjpfmhaaOrd
set_option linter.unusedVariables false
set_option linter.unusedSimpArgs false
namespace Go.Proofs.Ythcdhiknjpfmhaa
open Go.RowKit

theorem infoPtr : ((Try.prog.info? 27).map (fun i => (i.zero, i.size, i.bytes))) = some (some (.pointer none), 1, 8) := by kernel_rfl
set_option maxHeartbeats 4000000 in
set_option maxRecDepth 100000 in
theorem circles_walk (n : Int) (la : Option Addr) (ln lcap : Nat) (ll : List Pr) (root : Int) (w : World) (hla : ArgP w la ln ll) :
    Calls Try.prog 5 #[.int .i64 n, .slice la ln lcap, .int .i64 root] w fun e w' => e = .returned (.bool true) ∧ Below w.heap.size w w' := by
  obtain ⟨i0, hi, hz0, hz1, hz2⟩ := info_parts infoInt
  obtain ⟨iP, hiP, hP0, hP1, hP2⟩ := info_parts infoPtr
  obtain ⟨p, hp, p1⟩ := norm_mod n 12 (by decide) (by decide)
  obtain ⟨m, hm⟩ : ∃ m : Nat, p + 1 = m := ⟨_, rfl⟩
  have t2 : wrap64 ((p : Int) + 1) = (m : Int) := by rw [IntWalk.wrap64_in _ (by omega), ← hm]; rfl
  have t2b : IntKind.i64.wrap ((p : Int) + 1) = (m : Int) := by rw [IntWalk.i64_in _ (by omega), ← hm]; rfl
  have hm1 : 1 ≤ m := by omega
  have hm2 : m ≤ 12 := by omega
  have HA := Lib.hid hla
  clear hla hm p1
  go_enter Try.func5, Try.ntmps5
  go_wp2_with fail
  refine (fit_any _).mono ?_
  rintro e w1 ⟨rfl, b1⟩
  have hbx : Blk w1 w.heap.size 3 #[.int .i64 n] := (Blk.new w 3 #[.int .i64 n]).below b1 (by simp)
  have b1' : Below w.heap.size w w1 := ((Below.refl _ w).alloc (Nat.le_refl _) _).trans (b1.mono (by simp))
  obtain ⟨bx, hbxe⟩ : ∃ bx, w.heap.size = bx := ⟨_, rfl⟩
  rw [hbxe] at hbx
  have y0 : w1.cell? ⟨bx, 0, none⟩ = some (.int .i64 n) := by rw [hbx.cell]; rfl
  have z0 := hbx.frozen 0
  have l0 := hbx.lt
  have hbx2 := hbx.set_ 0 (.int .i64 m)
  have y1 : (w1.setCell ⟨bx, 0, none⟩ (.int .i64 m)).cell? ⟨bx, 0, none⟩ = some (.int .i64 m) := by rw [hbx2.cell]; rfl
  have HB := Lib.hid (And.intro b1' (And.intro hbxe (And.intro hbx2 l0)))
  clear b1 b1' hbx hbx2
  by_cases hol : ln ≤ 100
  · have L0 : decide ((100 : Int) < (ln : Int)) = false := by rw [decide_eq_false_iff_not]; omega
    simp only [hbxe]
    clear hbxe
    go_wp2_with fail
    refine (new_any _).mono ?_
    rintro e w2 ⟨rfl, rfl⟩
    have hb1 : Below w.heap.size w (w1.setCell ⟨bx, 0, none⟩ (.int .i64 m)) := (HB.out.1).setCell (p := ⟨bx, 0, none⟩) (by rw [HB.out.2.1]; exact Nat.le_refl _) _
    have hnew := ArN.new (nd := fun _ => emptyN) (w1.setCell ⟨bx, 0, none⟩ (.int .i64 m))
    have hbel : Below (w1.setCell ⟨bx, 0, none⟩ (.int .i64 m)).heap.size (w1.setCell ⟨bx, 0, none⟩ (.int .i64 m)) ((w1.setCell ⟨bx, 0, none⟩ (.int .i64 m)).alloc (.cells #[nil0, nil0, nil0, .int .i64 0] 64)) := (Below.refl _ _).alloc (Nat.le_refl _) _
    have hbA : bx < (w1.setCell ⟨bx, 0, none⟩ (.int .i64 m)).heap.size := by simpa using l0
    generalize w1.setCell ⟨bx, 0, none⟩ (.int .i64 m) = w3 at *
    obtain ⟨A, hA⟩ : ∃ A, w3.heap.size = A := ⟨_, rfl⟩
    rw [hA] at hnew hbel hbA ⊢
    have hAw : A ≤ (w3.alloc (.cells #[nil0, nil0, nil0, .int .i64 0] 64)).heap.size := by rw [World.size_alloc, hA]; omega
    have HD := Lib.hid (And.intro hb1 (And.intro hA (And.intro hbA y1)))
    clear hb1 hA hbA hp y0 z0 l0
    generalize w3.alloc (.cells #[nil0, nil0, nil0, .int .i64 0] 64) = w4 at *
    have y4 := (hbel.cell (p := ⟨bx, 0, none⟩) HD.out.2.2.1).trans y1
    go_wp2_with (at_make; refine wpList_make_full _ rfl _ _ 39 rfl A 27 iP (.pointer none) 1 Try.underlying39 hiP hP0 hP1 .i64 .i64 _ _ m rfl rfl (by first | rfl | omega) (by first | rfl | omega) (by rw [hP2]; omega) (by unfold maxLen; omega) hAw ?_)
    intro W3 hown3 hg3
    have hb3 : Below w4.heap.size w4 W3 := (Below.refl _ _).grown hg3 (Nat.le_refl _) (fun k hk => by cases hk)
    have hCi : Ci w3 W3 A m w4.heap.size nil0 [] (fun _ => emptyN) [] := by
      refine ⟨hnew.below hb3, ⟨rfl, fun j hj => absurd hj (Nat.not_lt_zero _)⟩, fun N hN => (List.not_mem_nil hN).elim, ?_, hbel.trans (hb3.mono hAw)⟩
      have e : (bodies ([] : List Cell)).map ptrV ++ List.replicate (m - ([] : List Cell).length) (.pointer none) = (madeCells #[.pointer none] m).toList := by
        rw [toList_madeCells_one]; simp [bodies]
      rw [e]; exact hown3
    obtain ⟨lg, hlg⟩ : ∃ lg, w4.heap.size = lg := ⟨_, rfl⟩
    rw [hlg] at hCi ⊢
    clear hown3 hg3 hb3 hAw hlg hnew hbel y4 y1
    go_wp2_with fail
    go_loopw [30] (fun v wr => ∃ k : Nat, k ≤ m ∧ v = .int .i64 k ∧ ∃ cv cs nd, Ci w3 wr A m lg cv cs nd (List.replicate k []) ∧ cs.length = k) (fun v _ => m - (intOf v).toNat)
    case atStart => exact ⟨0, by omega, rfl, nil0, [], _, hCi, rfl⟩
    case round =>
      obtain ⟨k, hk, rfl, cv, cs, nd, hC, hcl⟩ := hrel
      by_cases hlt : k < m
      · have L1 : decide ((k : Int) < (m : Int)) = true := by rw [decide_eq_true_eq]; omega
        have a1 : IntKind.i64.wrap ((k : Int) + 1) = ((k + 1 : Nat) : Int) := by rw [IntWalk.i64_in _ (by omega)]; rfl
        have z0 : (0 : Int) ≤ k := by omega
        have z1 : (k : Int) < m := by omega
        have z2 : (k : Int).toNat = k := by omega
        have hmk := ci_make hC (by omega) (by omega)
        rw [hcl] at hmk
        have hrow0 := hC.row.alloc (.cells (ndC nil0 nil0 nil0 0) 30)
        have c0 := (hrow0.cellAt k (show k < m * 1 by omega)).trans (show ((bodies cs).map ptrV ++ List.replicate (m - cs.length) (Value.pointer none))[k]? = some (.pointer none) by
          rw [List.getElem?_append_right (by rw [List.length_map, hC.desc.bodies_len, hcl]; exact Nat.le_refl _), List.length_map, hC.desc.bodies_len, hcl, Nat.sub_self, List.getElem?_replicate, if_pos (by omega)])
        have fz := hrow0.frozenAt k
        have hgl := (hrow0.lt lg rfl).2
        have hst := (hrow0.stored k (ptrV wr.heap.size)).1
        have c1 : ((wr.alloc (.cells (ndC nil0 nil0 nil0 0) 30)).setCell ⟨lg, k, none⟩ (ptrV wr.heap.size)).cell? ⟨lg, k, none⟩ = some (ptrV wr.heap.size) := by
          have := hst.cellAt k (show k < m * 1 by omega)
          rw [this, List.getElem?_set, if_pos rfl, if_pos (by rw [List.length_append, List.length_map, hC.desc.bodies_len, hcl, List.length_replicate]; omega)]
        have HC := Lib.hid (And.intro hC hcl)
        clear hC hcl hrow0 hst
        unfold ptrV at hmk c1
        go_wp2_with fail
        refine hmk.mono ?_
        rintro e W7 ⟨⟨v7, rfl⟩, cv7, cs7, nd7, hC7, hl7⟩
        rw [show List.replicate k ([] : List Int) ++ [[]] = List.replicate (k + 1) [] by rw [List.replicate_succ']] at hC7
        have H7 := Lib.hid (And.intro hC7 hl7)
        clear hC7 hl7 hmk c1 c0
        go_wp2_with fail
        go_roundw
        case rel => exact ⟨k + 1, by omega, by first | rfl | rw [Int.natCast_add], cv7, cs7, nd7, H7.out.1, H7.out.2⟩
        case measure => simp only [intOf]; omega
      · obtain rfl : m = k := by omega
        have L1 : decide ((m : Int) < (m : Int)) = false := by simp
        have HC := Lib.hid (And.intro hC hcl)
        clear hC hcl hCi
        go_wp2_with fail
        go_loopw [49] (fun v wr => ∃ k : Nat, k ≤ m ∧ v = .int .i64 k ∧ ∃ nd ts, Ci w3 wr A m lg cv cs nd ts ∧ (∀ j, j < k → ((((j + 1) % m : Nat) : Int) + 1) ∈ ts.getD j []) ∧ ∀ j, (ts.getD j []).length ≤ k) (fun v _ => m - (intOf v).toNat)
        case atStart => exact ⟨0, by omega, rfl, nd, _, HC.out.1, fun j hj => absurd hj (Nat.not_lt_zero _), fun j => by
          rw [List.getD_eq_getElem?_getD, List.getElem?_replicate]; split <;> simp⟩
        case round =>
          obtain ⟨k, hk, rfl, nd, ts, hC, hts, htl⟩ := hrel
          by_cases hlt : k < m
          · have L1 : decide ((k : Int) < (m : Int)) = true := by rw [decide_eq_true_eq]; omega
            have a1 : IntKind.i64.wrap ((k : Int) + 1) = ((k + 1 : Nat) : Int) := by rw [IntWalk.i64_in _ (by omega)]; rfl
            have z0 : (0 : Int) ≤ k := by omega
            have z1 : (k : Int) < m := by omega
            have z2 : (k : Int).toNat = k := by omega
            have hym : (k + 1) % m < m := Nat.mod_lt _ (by omega)
            have hyn : (wrap64 (((k : Int) + 1).tmod m + m)).tmod m = (((k + 1) % m : Nat) : Int) := by
              have := norm_nat (k + 1) m (by omega) (by omega) (by omega)
              rw [show ((k + 1 : Nat) : Int) = (k : Int) + 1 from rfl] at this
              exact this
            obtain ⟨y, hy⟩ : ∃ y, (k + 1) % m = y := ⟨_, rfl⟩
            rw [hy] at hym hyn
            have a2 : IntKind.i64.wrap ((y : Int) + 1) = (y : Int) + 1 := IntWalk.i64_in _ (by omega)
            have HY := Lib.hid (And.intro hyn hy)
            clear hyn hy
            obtain ⟨N, hN⟩ : ∃ N, nodeAt cs k = N := ⟨_, rfl⟩
            obtain ⟨_, _, htR, hte, _⟩ := ci_facts hC HC.out.2 hlt hN
            obtain ⟨ta, tcap, htv, _⟩ := own_shape htR
            obtain ⟨tn, htn⟩ : ∃ tn, (nd N).to_.length = tn := ⟨_, rfl⟩
            have htnb : tn ≤ 1000 := by rw [← htn, hte]; have := htl k; omega
            rw [htn] at htv
            have HN := Lib.hid (And.intro hN (And.intro htv htn))
            have HT := Lib.hid (And.intro hts htl)
            have HCo := HC
            have HC := Lib.hid (And.intro hC (And.intro HCo.out.2 trivial))
            clear hN htv htR hte htn hC hts htl
            go_wp2_with fail
            refine wp_region_till (m := 20) (S := (fun W => W.cell? ⟨lg, k, none⟩ = some (.pointer (some ⟨N, 0, none⟩)) ∧ W.cell? ⟨N, 0, none⟩ = some (.slice ta tn tcap))) (by kernel_rfl) ?_
            have hC2 := HC.out.1.below (below_drewN (Below.refl _ _) 1)
            have eW : wr.drewN 1 = wr.drew := rfl
            rw [eW] at hC2
            obtain ⟨D, hD⟩ : ∃ D, wr.drew = D := ⟨_, rfl⟩
            rw [hD] at hC2 ⊢
            clear eW hD
            obtain ⟨d0, d1, _, _, _⟩ := ci_facts hC2 HC.out.2.1 hlt HN.out.1
            rw [HN.out.2.1] at d1
            have H2 := Lib.hid hC2
            clear hC2
            change tillH _ _ _ _ _ _ 21 #[false, false, false, false, false, false, false, false, false, false, false, false, false, false, false, false, false, false, false, false, false] _ _
            refine tillH_takeAny (i := 0) (oi := ?oo1) (v := ?vv1) ?hi1 (by kernel_rfl) (by kernel_rfl) (by kernel_rfl) ?hq1 (by kernel_rfl) ?hy1 (fun _ => ⟨d0, d1⟩) ?hh1
            case hi1 => (simp only [List.getElem?_toArray, List.getElem?_cons_succ, List.getElem?_cons_zero]; rfl)
            case hq1 => exact fun _ _ _ h => h
            case hy1 => exact Or.inl ⟨by rfl, by (intro W; go_simp; (try with_reducible rfl))⟩
            (try simp only [Act.put, List.setIfInBounds_toArray, List.set_cons_zero, List.set_cons_succ])
            refine tillH_takeAny (i := 1) (oi := ?oo2) (v := ?vv2) ?hi2 (by kernel_rfl) (by kernel_rfl) (by kernel_rfl) ?hq2 (by kernel_rfl) ?hy2 (fun _ => ⟨d0, d1⟩) ?hh2
            case hi2 => (simp only [List.getElem?_toArray, List.getElem?_cons_succ, List.getElem?_cons_zero]; rfl)
            case hq2 => exact fun _ _ _ h => h
            case hy2 => exact Or.inl ⟨by rfl, by (intro W; go_simp; (try with_reducible rfl))⟩
            (try simp only [Act.put, List.setIfInBounds_toArray, List.set_cons_zero, List.set_cons_succ])
            refine tillH_takeAny (i := 2) (oi := ?oo3) (v := ?vv3) ?hi3 (by kernel_rfl) (by kernel_rfl) (by kernel_rfl) ?hq3 (by kernel_rfl) ?hy3 (fun _ => ⟨d0, d1⟩) ?hh3
            case hi3 => (simp only [List.getElem?_toArray, List.getElem?_cons_succ, List.getElem?_cons_zero]; rfl)
            case hq3 => exact fun _ _ _ h => h
            case hy3 => exact Or.inl ⟨by rfl, by (intro W; go_simp; (try with_reducible rfl))⟩
            (try simp only [Act.put, List.setIfInBounds_toArray, List.set_cons_zero, List.set_cons_succ])
            refine tillH_take (i := 3) (oi := ?oo4) (v := ?vv4) ?hi4 (by kernel_rfl) (by kernel_rfl) (by kernel_rfl) ?hq4 (by kernel_rfl) (by kernel_rfl) (by kernel_rfl) ?hy4 ⟨d0, d1⟩ ?hh4
            case hi4 => (simp only [List.getElem?_toArray, List.getElem?_cons_succ, List.getElem?_cons_zero]; rfl)
            case hq4 => exact fun _ _ _ h => h
            case hy4 => exact Or.inl ⟨by rfl, by (intro W hSw; (try obtain ⟨s0, s1⟩ := hSw); go_simp; (try with_reducible rfl))⟩
            (try simp only [Act.put, List.setIfInBounds_toArray, List.set_cons_zero, List.set_cons_succ])
            refine tillH_takeAny (i := 4) (oi := ?oo5) (v := ?vv5) ?hi5 (by kernel_rfl) (by kernel_rfl) (by kernel_rfl) ?hq5 (by kernel_rfl) ?hy5 (fun _ => ⟨d0, d1⟩) ?hh5
            case hi5 => (simp only [List.getElem?_toArray, List.getElem?_cons_succ, List.getElem?_cons_zero]; rfl)
            case hq5 => exact fun _ _ _ h => h
            case hy5 => exact Or.inl ⟨by rfl, by (intro W; go_simp; (try with_reducible rfl))⟩
            (try simp only [Act.put, List.setIfInBounds_toArray, List.set_cons_zero, List.set_cons_succ])
            refine tillH_takeAny (i := 5) (oi := ?oo6) (v := ?vv6) ?hi6 (by kernel_rfl) (by kernel_rfl) (by kernel_rfl) ?hq6 (by kernel_rfl) ?hy6 (fun _ => ⟨d0, d1⟩) ?hh6
            case hi6 => (simp only [List.getElem?_toArray, List.getElem?_cons_succ, List.getElem?_cons_zero]; rfl)
            case hq6 => exact fun _ _ _ h => h
            case hy6 => exact Or.inl ⟨by rfl, by (intro W; go_simp; (try with_reducible rfl))⟩
            (try simp only [Act.put, List.setIfInBounds_toArray, List.set_cons_zero, List.set_cons_succ])
            refine tillH_takeAny (i := 6) (oi := ?oo7) (v := ?vv7) ?hi7 (by kernel_rfl) (by kernel_rfl) (by kernel_rfl) ?hq7 (by kernel_rfl) ?hy7 (fun _ => ⟨d0, d1⟩) ?hh7
            case hi7 => (simp only [List.getElem?_toArray, List.getElem?_cons_succ, List.getElem?_cons_zero]; rfl)
            case hq7 => exact fun _ _ _ h => h
            case hy7 => exact Or.inl ⟨by rfl, by (intro W; go_simp; (try with_reducible rfl))⟩
            (try simp only [Act.put, List.setIfInBounds_toArray, List.set_cons_zero, List.set_cons_succ])
            refine tillH_take (i := 7) (oi := ?oo8) (v := ?vv8) ?hi8 (by kernel_rfl) (by kernel_rfl) (by kernel_rfl) ?hq8 (by kernel_rfl) (by kernel_rfl) (by kernel_rfl) ?hy8 ⟨d0, d1⟩ ?hh8
            case hi8 => (simp only [List.getElem?_toArray, List.getElem?_cons_succ, List.getElem?_cons_zero]; rfl)
            case hq8 => exact fun _ _ _ h => h
            case hy8 => exact Or.inl ⟨by rfl, by (intro W hSw; (try obtain ⟨s0, s1⟩ := hSw); go_simp; (try with_reducible rfl))⟩
            (try simp only [Act.put, List.setIfInBounds_toArray, List.set_cons_zero, List.set_cons_succ])
            refine tillH_takeAny (i := 8) (oi := ?oo9) (v := ?vv9) ?hi9 (by kernel_rfl) (by kernel_rfl) (by kernel_rfl) ?hq9 (by kernel_rfl) ?hy9 (fun _ => ⟨d0, d1⟩) ?hh9
            case hi9 => (simp only [List.getElem?_toArray, List.getElem?_cons_succ, List.getElem?_cons_zero]; rfl)
            case hq9 => exact fun _ _ _ h => h
            case hy9 => exact Or.inl ⟨by rfl, by (intro W; go_simp; (try with_reducible rfl))⟩
            (try simp only [Act.put, List.setIfInBounds_toArray, List.set_cons_zero, List.set_cons_succ])
            refine tillH_takeAny (i := 9) (oi := ?oo10) (v := ?vv10) ?hi10 (by kernel_rfl) (by kernel_rfl) (by kernel_rfl) ?hq10 (by kernel_rfl) ?hy10 (fun _ => ⟨d0, d1⟩) ?hh10
            case hi10 => (simp only [List.getElem?_toArray, List.getElem?_cons_succ, List.getElem?_cons_zero]; rfl)
            case hq10 => exact fun _ _ _ h => h
            case hy10 => exact Or.inl ⟨by rfl, by (intro W; go_simp; (try with_reducible rfl))⟩
            (try simp only [Act.put, List.setIfInBounds_toArray, List.set_cons_zero, List.set_cons_succ])
            refine tillH_take (i := 10) (oi := ?oo11) (v := ?vv11) ?hi11 (by kernel_rfl) (by kernel_rfl) (by kernel_rfl) ?hq11 (by kernel_rfl) (by kernel_rfl) (by kernel_rfl) ?hy11 ⟨d0, d1⟩ ?hh11
            case hi11 => (simp only [List.getElem?_toArray, List.getElem?_cons_succ, List.getElem?_cons_zero]; rfl)
            case hq11 => exact fun _ _ _ h => h
            case hy11 => exact Or.inl ⟨by rfl, by (intro W hSw; (try obtain ⟨s0, s1⟩ := hSw); go_simp; (try with_reducible rfl))⟩
            (try simp only [Act.put, List.setIfInBounds_toArray, List.set_cons_zero, List.set_cons_succ])
            refine tillH_takeAny (i := 11) (oi := ?oo12) (v := ?vv12) ?hi12 (by kernel_rfl) (by kernel_rfl) (by kernel_rfl) ?hq12 (by kernel_rfl) ?hy12 (fun _ => ⟨d0, d1⟩) ?hh12
            case hi12 => (simp only [List.getElem?_toArray, List.getElem?_cons_succ, List.getElem?_cons_zero]; rfl)
            case hq12 => exact fun _ _ _ h => h
            case hy12 => exact Or.inl ⟨by rfl, by (intro W; go_simp; (try with_reducible rfl))⟩
            (try simp only [Act.put, List.setIfInBounds_toArray, List.set_cons_zero, List.set_cons_succ])
            refine tillH_takeAny (i := 12) (oi := ?oo13) (v := ?vv13) ?hi13 (by kernel_rfl) (by kernel_rfl) (by kernel_rfl) ?hq13 (by kernel_rfl) ?hy13 (fun _ => ⟨d0, d1⟩) ?hh13
            case hi13 => (simp only [List.getElem?_toArray, List.getElem?_cons_succ, List.getElem?_cons_zero]; rfl)
            case hq13 => exact fun _ _ _ h => h
            case hy13 => exact Or.inl ⟨by rfl, by (intro W; go_simp; (try with_reducible rfl))⟩
            (try simp only [Act.put, List.setIfInBounds_toArray, List.set_cons_zero, List.set_cons_succ])
            refine tillH_takeAny (i := 13) (oi := ?oo14) (v := ?vv14) ?hi14 (by kernel_rfl) (by kernel_rfl) (by kernel_rfl) ?hq14 (by kernel_rfl) ?hy14 (fun _ => ⟨d0, d1⟩) ?hh14
            case hi14 => (simp only [List.getElem?_toArray, List.getElem?_cons_succ, List.getElem?_cons_zero]; rfl)
            case hq14 => exact fun _ _ _ h => h
            case hy14 => exact Or.inl ⟨by rfl, by (intro W; go_simp; (try with_reducible rfl))⟩
            (try simp only [Act.put, List.setIfInBounds_toArray, List.set_cons_zero, List.set_cons_succ])
            refine tillH_next (rs := [14]) (by kernel_rfl) (by simp) ?_
            refine NextH.cons rfl (fun K hK => ?_) NextH.nil
            go_simp
            have hyb : D.cell? ⟨bx, 0, none⟩ = some (.int .i64 m) := (H2.out.bel.cell (p := ⟨bx, 0, none⟩) HD.out.2.2.1).trans HD.out.2.2.2
            refine (at_any ((k : Int) + 1) m y bx D (by omega) (by omega) hyb HY.out.1).mono ?_
            rintro e W5 ⟨rfl, q5, rfl⟩
            refine hK.out _ _ (fun _ => ⟨d0, d1⟩) ?_
            clear hK K hyb
            (try simp only [Act.put, List.setIfInBounds_toArray, List.set_cons_zero, List.set_cons_succ])
            have hC3 := H2.out.below (below_drewN (Below.refl _ _) q5)
            generalize D.drewN q5 = D5 at *
            clear d0 d1 H2
            obtain ⟨d0, d1, _, _, hAD⟩ := ci_facts hC3 HC.out.2.1 hlt HN.out.1
            rw [HN.out.2.1] at d1
            have H3 := Lib.hid hC3
            clear hC3
            refine tillH_next (rs := [15]) (by kernel_rfl) (by simp) ?_
            refine NextH.cons rfl (fun K hK => ?_) NextH.nil
            go_simp
            refine hK.out _ _ (fun _ => ⟨d0, d1⟩) ?_
            clear hK K
            (try simp only [Act.put, List.setIfInBounds_toArray, List.set_cons_zero, List.set_cons_succ])
            refine tillH_next (rs := [16]) (by kernel_rfl) (by simp) ?_
            refine NextH.cons rfl (fun K hK => ?_) NextH.nil
            go_simp
            have hC4 := H3.out.below ((Below.refl _ _).alloc (Nat.le_refl _) (.cells #[.int .i64 ((y : Int) + 1)] 3))
            obtain ⟨d2, d3, _, _, _⟩ := ci_facts hC4 HC.out.2.1 hlt HN.out.1
            rw [HN.out.2.1] at d3
            refine hK.out _ _ (fun _ => ⟨d2, d3⟩) ?_
            clear hK K hC4
            (try simp only [Act.put, List.setIfInBounds_toArray, List.set_cons_zero, List.set_cons_succ])
            refine tillH_next (rs := [17]) (by kernel_rfl) (by simp) ?_
            refine NextH.cons rfl (fun K hK => ?_) NextH.nil
            have hnews := World.news_of_block (cs := #[.int .i64 ((y : Int) + 1)]) (t := 3) (fr := (0, 0)) (heap_alloc_new D5 (.cells #[.int .i64 ((y : Int) + 1)] 3))
            obtain ⟨_, _, hto5, _, _⟩ := ci_facts H3.out HC.out.2.1 hlt HN.out.1
            have e5 : (nd N).to_.length = tn := HN.out.2.2
            rw [HN.out.2.1, e5] at hto5
            refine step_append_lies _ (by rfl) _ _ _ (by rfl) A 3 i0 (.int .i64 0) 1 8 Try.underlying22 hi hz0 hz1 hz2 rfl (by decide) (.slice ta tn tcap) tn (numCells (nd N).to_) (by rfl) (hto5.alloc _) ⟨D5.heap.size, 0, none⟩ 1 1 [.int .i64 ((y : Int) + 1)] (by rfl) rfl hnews (by simp [Value.oneCell']) (by decide) (by unfold maxLen; omega) (by omega) (by simp; omega) _ rfl ?_
            intro gq capq W6 own6 hgrow6 hat6 hlt6
            have hgrow6' : (D5.alloc (.cells #[.int .i64 ((y : Int) + 1)] 3)).grownBy W6 (nd N).tv.ownBlock := by rw [HN.out.2.1]; exact hgrow6
            have own6' : W6.ownsRow A 3 1 (.slice (some ⟨gq, 0, none⟩) ((nd N).to_.length + 1) capq) ((nd N).to_.length + 1) (numCells ((nd N).to_ ++ [((y : Int) + 1)])) := by
              rw [e5, numCells_append]; exact own6
            have hat6' : (nd N).tv.ownBlock = some gq ∨ D5.heap.size ≤ gq := by
              rcases hat6 with q | q
              · left; rw [HN.out.2.1]; exact q
              · right; simp at q; omega
            have hC6 := HN.out.1 ▸ ci_to H3.out HC.out.2.1 hlt (o := .cells #[.int .i64 ((y : Int) + 1)] 3) (by rw [HN.out.1]; exact hgrow6') (by rw [HN.out.1]; exact own6') (by rw [HN.out.1]; exact hat6')
            obtain ⟨g0, g1, g2, g3⟩ := ci_mid H3.out HC.out.2.1 hlt HN.out.1 hgrow6'
            rw [HN.out.2.1] at g1
            rw [e5] at hC6
            have H6 := Lib.hid hC6
            refine hK.out _ _ (fun _ => ⟨g0, g1⟩) ?_
            clear hK K hC6 own6 own6' hgrow6' hat6 hat6' hlt6 hnews hto5 d0 d1 d2 d3 e5
            (try simp only [Act.put, List.setIfInBounds_toArray, List.set_cons_zero, List.set_cons_succ])
            refine tillH_next (rs := [18]) (by kernel_rfl) (by simp) ?_
            refine NextH.cons rfl (fun K hK => ?_) NextH.nil
            go_simp
            refine hK.out _ _ (fun _ => ⟨g0, g1⟩) ?_
            clear hK K
            (try simp only [Act.put, List.setIfInBounds_toArray, List.set_cons_zero, List.set_cons_succ])
            refine tillH_next (rs := [19]) (by kernel_rfl) (by simp) ?_
            refine NextH.cons rfl (fun K hK => ?_) NextH.nil
            go_simp
            refine hK.out _ _ (fun _ => ⟨g0, g1⟩) ?_
            clear hK K
            (try simp only [Act.put, List.setIfInBounds_toArray, List.set_cons_zero, List.set_cons_succ])
            refine tillH_next (rs := [20]) (by kernel_rfl) (by simp) ?_
            refine NextH.cons rfl (fun K hK => ?_) NextH.nil
            go_simp
            refine hK.out _ _ (fun h => absurd h (by simp)) ?_
            clear hK K
            (try simp only [Act.put, List.setIfInBounds_toArray, List.set_cons_zero, List.set_cons_succ])
            refine tillH_done (by kernel_rfl) ?_ _
            clear g0 g1 g2 g3 hgrow6
            go_wp2_with fail
            go_roundw
            case rel =>
              have htl := H6.out.ts_len HC.out.2.1
              rw [List.length_set] at htl
              refine ⟨k + 1, by omega, by first | rfl | rw [Int.natCast_add], _, _, H6.out, fun j hj => ?_, grow_len ts k _ (by omega) k HT.out.2⟩
              by_cases hjk : j = k
              · subst hjk
                rw [getD_set _ _ _ _ (by omega), if_pos rfl, HY.out.2]
                simp
              · exact grow_mem ts k _ (by omega) j _ (HT.out.1 j (by omega))
            case measure => simp only [intOf]; omega
          · obtain rfl : m = k := by omega
            have L1 : decide ((m : Int) < (m : Int)) = false := by simp
            have HC2 := Lib.hid (And.intro hC (And.intro hts htl))
            clear hC hts htl
            go_wp2_with fail
            go_loopw [75] (fun v wr => ∃ k : Nat, k ≤ ln ∧ v = .int .i64 k ∧ ∃ nd ts, Ci w3 wr A m lg cv cs nd ts ∧ (∀ j, j < m → ((((j + 1) % m : Nat) : Int) + 1) ∈ ts.getD j []) ∧ ∀ j, (ts.getD j []).length ≤ m + k) (fun v _ => ln - (intOf v).toNat)
            case atStart => exact ⟨0, by omega, rfl, nd, ts, HC2.out.1, HC2.out.2.1, HC2.out.2.2⟩
            case round =>
              obtain ⟨k, hk, rfl, nd, ts, hC, hts, htl⟩ := hrel
              by_cases hlt : k < ln
              · have L1 : decide ((k : Int) < (ln : Int)) = true := by rw [decide_eq_true_eq]; omega
                have a1 : IntKind.i64.wrap ((k : Int) + 1) = ((k + 1 : Nat) : Int) := by rw [IntWalk.i64_in _ (by omega)]; rfl
                have z0 : (0 : Int) ≤ k := by omega
                have z1 : (k : Int) < ln := by omega
                have z2 : (k : Int).toNat = k := by omega
                obtain ⟨lb, off, rfl, hob, hoc⟩ := HA.out.2 (by omega)
                obtain ⟨xu, xv, hx⟩ : ∃ xu xv, ll.getD k (0, 0) = (xu, xv) := ⟨_, _, rfl⟩
                have far : ∀ o, wr.cell? ⟨lb, o, none⟩ = w.cell? ⟨lb, o, none⟩ := fun o => by
                  have h1 := HD.out.1.cell (p := ⟨lb, o, none⟩) hob
                  have h2 := hC.bel.cell (p := ⟨lb, o, none⟩) (by have := HD.out.1.size; have := HD.out.2.1; show lb < A; omega)
                  rw [h2, h1]
                obtain ⟨q0, q1⟩ := hoc k hlt
                rw [hx] at q0 q1
                have c0 := (far _).trans q0
                have c1 := (far _).trans q1
                dsimp only at c0 c1
                obtain ⟨k1, hk1, hk1m⟩ : ∃ k1 : Nat, (wrap64 (xu.tmod m + m)).tmod m = (k1 : Int) ∧ (k1 : Int) < m := norm_mod xu m (by omega) (by omega)
                obtain ⟨y, hy, hym⟩ := norm_mod xv m (by omega) (by omega)
                have a2 : IntKind.i64.wrap ((y : Int) + 1) = (y : Int) + 1 := IntWalk.i64_in _ (by omega)
                have hC1 := hC.below ((Below.refl _ _).alloc (Nat.le_refl _) (.cells #[.int .i64 xu, .int .i64 xv] 32))
                have hyb : (wr.alloc (.cells #[.int .i64 xu, .int .i64 xv] 32)).cell? ⟨bx, 0, none⟩ = some (.int .i64 m) := (hC1.bel.cell (p := ⟨bx, 0, none⟩) HD.out.2.2.1).trans HD.out.2.2.2
                have hat := at_any xu m k1 bx (wr.alloc (.cells #[.int .i64 xu, .int .i64 xv] 32)) (by omega) (by omega) hyb hk1
                have HY := Lib.hid hy
                have HT := Lib.hid (And.intro hts htl)
                have HC1 := Lib.hid hC1
                have HXA := Lib.hid (Blk.new wr 32 #[.int .i64 xu, .int .i64 xv])
                clear hC hts htl hy hk1 hyb hC1 hx q0 q1 far hoc
                go_wp2_with fail
                refine hat.mono ?_
                rintro e W9 ⟨rfl, q9, rfl⟩
                have hC9 := HC1.out.below (below_drewN (Below.refl _ _) q9)
                have hXB : Blk ((wr.alloc (.cells #[.int .i64 xu, .int .i64 xv] 32)).drewN q9) wr.heap.size 32 #[.int .i64 xu, .int .i64 xv] := HXA.out.drewN q9
                obtain ⟨xb, hxb⟩ : ∃ xb, wr.heap.size = xb := ⟨_, rfl⟩
                rw [hxb] at hXB ⊢
                clear c0 c1 hat
                generalize (wr.alloc (.cells #[.int .i64 xu, .int .i64 xv] 32)).drewN q9 = wr at *
                have z3 : (0 : Int) ≤ k1 := by omega
                have z4 : (k1 : Int).toNat = k1 := by omega
                have hk1 : k1 < m := by omega
                obtain ⟨N, hN⟩ : ∃ N, nodeAt cs k1 = N := ⟨_, rfl⟩
                obtain ⟨_, _, htR, hte, _⟩ := ci_facts hC9 HC.out.2 hk1 hN
                obtain ⟨ta, tcap, htv, _⟩ := own_shape htR
                obtain ⟨tn, htn⟩ : ∃ tn, (nd N).to_.length = tn := ⟨_, rfl⟩
                have htnb : tn ≤ 1000 := by rw [← htn, hte]; have := HT.out.2 k1; omega
                rw [htn] at htv
                have HN := Lib.hid (And.intro hN (And.intro htv htn))
                have HXB := Lib.hid hXB
                have HCo := HC
                have HC := Lib.hid (And.intro hC9 (And.intro HCo.out.2 trivial))
                clear hN htv htR hte htn hC9 hXB hxb
                go_wp2_with fail
                refine wp_region_till (m := 20) (S := (fun W => W.cell? ⟨lg, k1, none⟩ = some (.pointer (some ⟨N, 0, none⟩)) ∧ W.cell? ⟨N, 0, none⟩ = some (.slice ta tn tcap) ∧ W.cell? ⟨xb, 1, none⟩ = some (.int .i64 xv))) (by kernel_rfl) ?_
                have hC2 := HC.out.1.below (below_drewN (Below.refl _ _) 1)
                have eW : wr.drewN 1 = wr.drew := rfl
                rw [eW] at hC2
                have kx : Blk wr.drew xb 32 #[.int .i64 xu, .int .i64 xv] := HXB.out
                obtain ⟨D, hD⟩ : ∃ D, wr.drew = D := ⟨_, rfl⟩
                rw [hD] at hC2 ⊢
                rw [hD] at kx
                have e0 : D.cell? ⟨xb, 1, none⟩ = some (.int .i64 xv) := by rw [kx.cell]; rfl
                have KX := Lib.hid kx
                clear kx
                clear eW hD
                obtain ⟨d0, d1, _, _, _⟩ := ci_facts hC2 HC.out.2.1 hk1 HN.out.1
                rw [HN.out.2.1] at d1
                have H2 := Lib.hid hC2
                clear hC2
                change tillH _ _ _ _ _ _ 21 #[false, false, false, false, false, false, false, false, false, false, false, false, false, false, false, false, false, false, false, false, false] _ _
                refine tillH_takeAny (i := 0) (oi := ?oo15) (v := ?vv15) ?hi15 (by kernel_rfl) (by kernel_rfl) (by kernel_rfl) ?hq15 (by kernel_rfl) ?hy15 (fun _ => ⟨d0, d1, e0⟩) ?hh15
                case hi15 => (simp only [List.getElem?_toArray, List.getElem?_cons_succ, List.getElem?_cons_zero]; rfl)
                case hq15 => exact fun _ _ _ h => h
                case hy15 => exact Or.inl ⟨by rfl, by (intro W; go_simp; (try with_reducible rfl))⟩
                (try simp only [Act.put, List.setIfInBounds_toArray, List.set_cons_zero, List.set_cons_succ])
                refine tillH_takeAny (i := 1) (oi := ?oo16) (v := ?vv16) ?hi16 (by kernel_rfl) (by kernel_rfl) (by kernel_rfl) ?hq16 (by kernel_rfl) ?hy16 (fun _ => ⟨d0, d1, e0⟩) ?hh16
                case hi16 => (simp only [List.getElem?_toArray, List.getElem?_cons_succ, List.getElem?_cons_zero]; rfl)
                case hq16 => exact fun _ _ _ h => h
                case hy16 => exact Or.inl ⟨by rfl, by (intro W; go_simp; (try with_reducible rfl))⟩
                (try simp only [Act.put, List.setIfInBounds_toArray, List.set_cons_zero, List.set_cons_succ])
                refine tillH_takeAny (i := 2) (oi := ?oo17) (v := ?vv17) ?hi17 (by kernel_rfl) (by kernel_rfl) (by kernel_rfl) ?hq17 (by kernel_rfl) ?hy17 (fun _ => ⟨d0, d1, e0⟩) ?hh17
                case hi17 => (simp only [List.getElem?_toArray, List.getElem?_cons_succ, List.getElem?_cons_zero]; rfl)
                case hq17 => exact fun _ _ _ h => h
                case hy17 => exact Or.inl ⟨by rfl, by (intro W; go_simp; (try with_reducible rfl))⟩
                (try simp only [Act.put, List.setIfInBounds_toArray, List.set_cons_zero, List.set_cons_succ])
                refine tillH_take (i := 3) (oi := ?oo18) (v := ?vv18) ?hi18 (by kernel_rfl) (by kernel_rfl) (by kernel_rfl) ?hq18 (by kernel_rfl) (by kernel_rfl) (by kernel_rfl) ?hy18 ⟨d0, d1, e0⟩ ?hh18
                case hi18 => (simp only [List.getElem?_toArray, List.getElem?_cons_succ, List.getElem?_cons_zero]; rfl)
                case hq18 => exact fun _ _ _ h => h
                case hy18 => exact Or.inl ⟨by rfl, by (intro W hSw; (try obtain ⟨s0, s1, s2⟩ := hSw); go_simp; (try with_reducible rfl))⟩
                (try simp only [Act.put, List.setIfInBounds_toArray, List.set_cons_zero, List.set_cons_succ])
                refine tillH_takeAny (i := 4) (oi := ?oo19) (v := ?vv19) ?hi19 (by kernel_rfl) (by kernel_rfl) (by kernel_rfl) ?hq19 (by kernel_rfl) ?hy19 (fun _ => ⟨d0, d1, e0⟩) ?hh19
                case hi19 => (simp only [List.getElem?_toArray, List.getElem?_cons_succ, List.getElem?_cons_zero]; rfl)
                case hq19 => exact fun _ _ _ h => h
                case hy19 => exact Or.inl ⟨by rfl, by (intro W; go_simp; (try with_reducible rfl))⟩
                (try simp only [Act.put, List.setIfInBounds_toArray, List.set_cons_zero, List.set_cons_succ])
                refine tillH_takeAny (i := 5) (oi := ?oo20) (v := ?vv20) ?hi20 (by kernel_rfl) (by kernel_rfl) (by kernel_rfl) ?hq20 (by kernel_rfl) ?hy20 (fun _ => ⟨d0, d1, e0⟩) ?hh20
                case hi20 => (simp only [List.getElem?_toArray, List.getElem?_cons_succ, List.getElem?_cons_zero]; rfl)
                case hq20 => exact fun _ _ _ h => h
                case hy20 => exact Or.inl ⟨by rfl, by (intro W; go_simp; (try with_reducible rfl))⟩
                (try simp only [Act.put, List.setIfInBounds_toArray, List.set_cons_zero, List.set_cons_succ])
                refine tillH_takeAny (i := 6) (oi := ?oo21) (v := ?vv21) ?hi21 (by kernel_rfl) (by kernel_rfl) (by kernel_rfl) ?hq21 (by kernel_rfl) ?hy21 (fun _ => ⟨d0, d1, e0⟩) ?hh21
                case hi21 => (simp only [List.getElem?_toArray, List.getElem?_cons_succ, List.getElem?_cons_zero]; rfl)
                case hq21 => exact fun _ _ _ h => h
                case hy21 => exact Or.inl ⟨by rfl, by (intro W; go_simp; (try with_reducible rfl))⟩
                (try simp only [Act.put, List.setIfInBounds_toArray, List.set_cons_zero, List.set_cons_succ])
                refine tillH_take (i := 7) (oi := ?oo22) (v := ?vv22) ?hi22 (by kernel_rfl) (by kernel_rfl) (by kernel_rfl) ?hq22 (by kernel_rfl) (by kernel_rfl) (by kernel_rfl) ?hy22 ⟨d0, d1, e0⟩ ?hh22
                case hi22 => (simp only [List.getElem?_toArray, List.getElem?_cons_succ, List.getElem?_cons_zero]; rfl)
                case hq22 => exact fun _ _ _ h => h
                case hy22 => exact Or.inl ⟨by rfl, by (intro W hSw; (try obtain ⟨s0, s1, s2⟩ := hSw); go_simp; (try with_reducible rfl))⟩
                (try simp only [Act.put, List.setIfInBounds_toArray, List.set_cons_zero, List.set_cons_succ])
                refine tillH_takeAny (i := 8) (oi := ?oo23) (v := ?vv23) ?hi23 (by kernel_rfl) (by kernel_rfl) (by kernel_rfl) ?hq23 (by kernel_rfl) ?hy23 (fun _ => ⟨d0, d1, e0⟩) ?hh23
                case hi23 => (simp only [List.getElem?_toArray, List.getElem?_cons_succ, List.getElem?_cons_zero]; rfl)
                case hq23 => exact fun _ _ _ h => h
                case hy23 => exact Or.inl ⟨by rfl, by (intro W; go_simp; (try with_reducible rfl))⟩
                (try simp only [Act.put, List.setIfInBounds_toArray, List.set_cons_zero, List.set_cons_succ])
                refine tillH_takeAny (i := 9) (oi := ?oo24) (v := ?vv24) ?hi24 (by kernel_rfl) (by kernel_rfl) (by kernel_rfl) ?hq24 (by kernel_rfl) ?hy24 (fun _ => ⟨d0, d1, e0⟩) ?hh24
                case hi24 => (simp only [List.getElem?_toArray, List.getElem?_cons_succ, List.getElem?_cons_zero]; rfl)
                case hq24 => exact fun _ _ _ h => h
                case hy24 => exact Or.inl ⟨by rfl, by (intro W; go_simp; (try with_reducible rfl))⟩
                (try simp only [Act.put, List.setIfInBounds_toArray, List.set_cons_zero, List.set_cons_succ])
                refine tillH_take (i := 10) (oi := ?oo25) (v := ?vv25) ?hi25 (by kernel_rfl) (by kernel_rfl) (by kernel_rfl) ?hq25 (by kernel_rfl) (by kernel_rfl) (by kernel_rfl) ?hy25 ⟨d0, d1, e0⟩ ?hh25
                case hi25 => (simp only [List.getElem?_toArray, List.getElem?_cons_succ, List.getElem?_cons_zero]; rfl)
                case hq25 => exact fun _ _ _ h => h
                case hy25 => exact Or.inl ⟨by rfl, by (intro W hSw; (try obtain ⟨s0, s1, s2⟩ := hSw); go_simp; (try with_reducible rfl))⟩
                (try simp only [Act.put, List.setIfInBounds_toArray, List.set_cons_zero, List.set_cons_succ])
                refine tillH_takeAny (i := 11) (oi := ?oo26) (v := ?vv26) ?hi26 (by kernel_rfl) (by kernel_rfl) (by kernel_rfl) ?hq26 (by kernel_rfl) ?hy26 (fun _ => ⟨d0, d1, e0⟩) ?hh26
                case hi26 => (simp only [List.getElem?_toArray, List.getElem?_cons_succ, List.getElem?_cons_zero]; rfl)
                case hq26 => exact fun _ _ _ h => h
                case hy26 => exact Or.inl ⟨by rfl, by (intro W; go_simp; (try with_reducible rfl))⟩
                (try simp only [Act.put, List.setIfInBounds_toArray, List.set_cons_zero, List.set_cons_succ])
                refine tillH_takeAny (i := 12) (oi := ?oo27) (v := ?vv27) ?hi27 (by kernel_rfl) (by kernel_rfl) (by kernel_rfl) ?hq27 (by kernel_rfl) ?hy27 (fun _ => ⟨d0, d1, e0⟩) ?hh27
                case hi27 => (simp only [List.getElem?_toArray, List.getElem?_cons_succ, List.getElem?_cons_zero]; rfl)
                case hq27 => exact fun _ _ _ h => h
                case hy27 => exact Or.inl ⟨by rfl, by (intro W; go_simp; (try with_reducible rfl))⟩
                (try simp only [Act.put, List.setIfInBounds_toArray, List.set_cons_zero, List.set_cons_succ])
                refine tillH_take (i := 13) (oi := ?oo28) (v := ?vv28) ?hi28 (by kernel_rfl) (by kernel_rfl) (by kernel_rfl) ?hq28 (by kernel_rfl) (by kernel_rfl) (by kernel_rfl) ?hy28 ⟨d0, d1, e0⟩ ?hh28
                case hi28 => (simp only [List.getElem?_toArray, List.getElem?_cons_succ, List.getElem?_cons_zero]; rfl)
                case hq28 => exact fun _ _ _ h => h
                case hy28 => exact Or.inl ⟨by rfl, by (intro W hSw; (try obtain ⟨s0, s1, s2⟩ := hSw); go_simp; (try with_reducible rfl))⟩
                (try simp only [Act.put, List.setIfInBounds_toArray, List.set_cons_zero, List.set_cons_succ])
                refine tillH_next (rs := [14]) (by kernel_rfl) (by simp) ?_
                refine NextH.cons rfl (fun K hK => ?_) NextH.nil
                go_simp
                have hyb : D.cell? ⟨bx, 0, none⟩ = some (.int .i64 m) := (H2.out.bel.cell (p := ⟨bx, 0, none⟩) HD.out.2.2.1).trans HD.out.2.2.2
                refine (at_any xv m y bx D (by omega) (by omega) hyb HY.out).mono ?_
                rintro e W5 ⟨rfl, q5, rfl⟩
                refine hK.out _ _ (fun _ => ⟨d0, d1, e0⟩) ?_
                clear hK K hyb
                (try simp only [Act.put, List.setIfInBounds_toArray, List.set_cons_zero, List.set_cons_succ])
                have hC3 := H2.out.below (below_drewN (Below.refl _ _) q5)
                have kx5 : Blk (D.drewN q5) xb 32 #[.int .i64 xu, .int .i64 xv] := KX.out.drewN q5
                clear e0 KX
                generalize D.drewN q5 = D5 at *
                clear d0 d1 H2
                have e0 : D5.cell? ⟨xb, 1, none⟩ = some (.int .i64 xv) := by rw [kx5.cell]; rfl
                have KX := Lib.hid kx5
                clear kx5
                obtain ⟨d0, d1, _, _, hAD⟩ := ci_facts hC3 HC.out.2.1 hk1 HN.out.1
                rw [HN.out.2.1] at d1
                have H3 := Lib.hid hC3
                clear hC3
                refine tillH_next (rs := [15]) (by kernel_rfl) (by simp) ?_
                refine NextH.cons rfl (fun K hK => ?_) NextH.nil
                go_simp
                refine hK.out _ _ (fun _ => ⟨d0, d1, e0⟩) ?_
                clear hK K
                (try simp only [Act.put, List.setIfInBounds_toArray, List.set_cons_zero, List.set_cons_succ])
                refine tillH_next (rs := [16]) (by kernel_rfl) (by simp) ?_
                refine NextH.cons rfl (fun K hK => ?_) NextH.nil
                go_simp
                have hC4 := H3.out.below ((Below.refl _ _).alloc (Nat.le_refl _) (.cells #[.int .i64 ((y : Int) + 1)] 3))
                obtain ⟨d2, d3, _, _, _⟩ := ci_facts hC4 HC.out.2.1 hk1 HN.out.1
                rw [HN.out.2.1] at d3
                have f0 : (D5.alloc (.cells #[.int .i64 ((y : Int) + 1)] 3)).cell? ⟨xb, 1, none⟩ = some (.int .i64 xv) := by rw [(KX.out.alloc _).cell]; rfl
                refine hK.out _ _ (fun _ => ⟨d2, d3, f0⟩) ?_
                clear hK K hC4
                (try simp only [Act.put, List.setIfInBounds_toArray, List.set_cons_zero, List.set_cons_succ])
                refine tillH_next (rs := [17]) (by kernel_rfl) (by simp) ?_
                refine NextH.cons rfl (fun K hK => ?_) NextH.nil
                have hnews := World.news_of_block (cs := #[.int .i64 ((y : Int) + 1)]) (t := 3) (fr := (0, 0)) (heap_alloc_new D5 (.cells #[.int .i64 ((y : Int) + 1)] 3))
                obtain ⟨_, _, hto5, _, _⟩ := ci_facts H3.out HC.out.2.1 hk1 HN.out.1
                have e5 : (nd N).to_.length = tn := HN.out.2.2
                rw [HN.out.2.1, e5] at hto5
                refine step_append_lies _ (by rfl) _ _ _ (by rfl) A 3 i0 (.int .i64 0) 1 8 Try.underlying22 hi hz0 hz1 hz2 rfl (by decide) (.slice ta tn tcap) tn (numCells (nd N).to_) (by rfl) (hto5.alloc _) ⟨D5.heap.size, 0, none⟩ 1 1 [.int .i64 ((y : Int) + 1)] (by rfl) rfl hnews (by simp [Value.oneCell']) (by decide) (by unfold maxLen; omega) (by omega) (by simp; omega) _ rfl ?_
                intro gq capq W6 own6 hgrow6 hat6 hlt6
                have hgrow6' : (D5.alloc (.cells #[.int .i64 ((y : Int) + 1)] 3)).grownBy W6 (nd N).tv.ownBlock := by rw [HN.out.2.1]; exact hgrow6
                have own6' : W6.ownsRow A 3 1 (.slice (some ⟨gq, 0, none⟩) ((nd N).to_.length + 1) capq) ((nd N).to_.length + 1) (numCells ((nd N).to_ ++ [((y : Int) + 1)])) := by
                  rw [e5, numCells_append]; exact own6
                have hat6' : (nd N).tv.ownBlock = some gq ∨ D5.heap.size ≤ gq := by
                  rcases hat6 with q | q
                  · left; rw [HN.out.2.1]; exact q
                  · right; simp at q; omega
                have hC6 := HN.out.1 ▸ ci_to H3.out HC.out.2.1 hk1 (o := .cells #[.int .i64 ((y : Int) + 1)] 3) (by rw [HN.out.1]; exact hgrow6') (by rw [HN.out.1]; exact own6') (by rw [HN.out.1]; exact hat6')
                obtain ⟨g0, g1, g2, g3⟩ := ci_mid H3.out HC.out.2.1 hk1 HN.out.1 hgrow6'
                rw [HN.out.2.1] at g1
                rw [e5] at hC6
                have H6 := Lib.hid hC6
                have h0 : W6.cell? ⟨xb, 1, none⟩ = some (.int .i64 xv) := by rw [(Blk.grown (KX.out.alloc _) hgrow6 (fun e => own_blk (hto5.alloc (.cells #[.int .i64 ((y : Int) + 1)] 3)) (KX.out.alloc (.cells #[.int .i64 ((y : Int) + 1)] 3)) (by decide) e.symm)).cell]; rfl
                refine hK.out _ _ (fun _ => ⟨g0, g1, h0⟩) ?_
                clear hK K hC6 own6 own6' hgrow6' hat6 hat6' hlt6 hnews hto5 d0 d1 d2 d3 e5
                (try simp only [Act.put, List.setIfInBounds_toArray, List.set_cons_zero, List.set_cons_succ])
                refine tillH_next (rs := [18]) (by kernel_rfl) (by simp) ?_
                refine NextH.cons rfl (fun K hK => ?_) NextH.nil
                go_simp
                refine hK.out _ _ (fun _ => ⟨g0, g1, h0⟩) ?_
                clear hK K
                (try simp only [Act.put, List.setIfInBounds_toArray, List.set_cons_zero, List.set_cons_succ])
                refine tillH_next (rs := [19]) (by kernel_rfl) (by simp) ?_
                refine NextH.cons rfl (fun K hK => ?_) NextH.nil
                go_simp
                refine hK.out _ _ (fun _ => ⟨g0, g1, h0⟩) ?_
                clear hK K
                (try simp only [Act.put, List.setIfInBounds_toArray, List.set_cons_zero, List.set_cons_succ])
                refine tillH_next (rs := [20]) (by kernel_rfl) (by simp) ?_
                refine NextH.cons rfl (fun K hK => ?_) NextH.nil
                go_simp
                refine hK.out _ _ (fun h => absurd h (by simp)) ?_
                clear hK K
                (try simp only [Act.put, List.setIfInBounds_toArray, List.set_cons_zero, List.set_cons_succ])
                refine tillH_done (by kernel_rfl) ?_ _
                clear g0 g1 g2 g3 hgrow6
                go_wp2_with fail
                go_roundw
                case rel =>
                  have htl := H6.out.ts_len HC.out.2.1
                  rw [List.length_set] at htl
                  exact ⟨k + 1, by omega, by first | rfl | rw [Int.natCast_add], _, _, H6.out, fun j hj => grow_mem ts k1 _ (by omega) j _ (HT.out.1 j hj), grow_len ts k1 _ (by omega) (m + k) HT.out.2⟩
                case measure => simp only [intOf]; omega
              · obtain rfl : ln = k := by omega
                have L1 : decide ((ln : Int) < (ln : Int)) = false := by simp
                have HC3 := Lib.hid (And.intro hC (And.intro hts htl))
                clear hC hts htl HC2
                have hbA : ∀ {W : World} {cv : Value} {cs : List Cell} {nd : Nat → Nod} {ts : List (List Int)}, Ci w3 W A m lg cv cs nd ts → W.cell? ⟨bx, 0, none⟩ = some (.int .i64 m) := fun h => (h.bel.cell (p := ⟨bx, 0, none⟩) HD.out.2.2.1).trans HD.out.2.2.2
                obtain ⟨ρ, hρ, hρm⟩ := norm_mod root m (by omega) (by omega)
                have hat := at_any root m ρ bx wr (by omega) (by omega) (hbA HC3.out.1) hρ
                have a3 : IntKind.i64.wrap ((ρ : Int) + 1) = (ρ : Int) + 1 := IntWalk.i64_in _ (by omega)
                have hρ2 : ρ < m := by omega
                clear hρ
                go_wp2_with fail
                refine hat.mono ?_
                rintro e W9 ⟨rfl, q9, rfl⟩
                have hB9 := (HC3.out.1.below (below_drewN (Below.refl _ _) q9)).built
                have hl9 := (HC3.out.1.below (below_drewN (Below.refl _ _) q9)).bel
                have hlen : (circDs ts).length = m := HC3.out.1.desc.len.symm.trans HC.out.2
                have hcirc : Circ m ts := ⟨by simpa [circDs] using hlen, HC3.out.2.1⟩
                have HK := Lib.hid (And.intro hB9 (And.intro hl9 (And.intro hlen hcirc)))
                clear hB9 hl9 hlen hcirc hat
                generalize wr.drewN q9 = W9 at *
                have hB10 := HK.out.1.below ((Below.refl _ _).alloc (Nat.le_refl _) (.cells #[.int .i64 ((ρ : Int) + 1)] 3))
                have hpu := built_push hB10 ((ρ : Int) + 1) ⟨W9.heap.size, 0, none⟩ 1 (by
                  have := Blk.new W9 3 #[.int .i64 ((ρ : Int) + 1)]
                  show (W9.alloc _).cell? ⟨W9.heap.size, 0, none⟩ = _
                  rw [this.cell]; rfl) (by simp)
                have H10 := Lib.hid hB10
                clear hB10
                go_wp2_with fail
                refine hpu.mono ?_
                rintro e W11 ⟨⟨v11, rfl⟩, rv11, hB11, hu11, hr11⟩
                have hl11 : Below A w3 W11 := (HK.out.2.1.trans (((Below.refl _ _).alloc (Nat.le_refl _) (.cells #[.int .i64 ((ρ : Int) + 1)] 3)).mono (built_A_le HK.out.1).1)).trans (hu11.below (built_A_le H10.out).1 (fun k e => by
                  rcases e with rfl | e
                  · exact Nat.le_refl _
                  · exact (built_A_le H10.out).2 k e))
                have hsm : ∀ d ∈ circDs ts, d.1.length ≤ 100000 ∧ d.2.length ≤ 100000 := by
                  intro d hd
                  obtain ⟨t, ht, rfl⟩ := List.mem_map.1 hd
                  obtain ⟨j, hj, e⟩ := List.getElem_of_mem ht
                  have := HC3.out.2.2 j
                  rw [List.getD_eq_getElem?_getD, List.getElem?_eq_getElem hj] at this
                  have h2 : ts[j].length ≤ m + ln := this
                  rw [e] at h2
                  exact ⟨by show t.length ≤ _; omega, by simp⟩
                have hco := built_collect hB11 (by rw [HK.out.2.2.1]; omega) (by simp) hsm
                have H11 := Lib.hid (And.intro hB11 (And.intro hl11 hsm))
                clear hB11 hl11 hsm hu11 hr11 hpu
                go_wp2_with fail
                refine hco.mono ?_
                rintro e W12 ⟨ms, vg, fv', cs', nd', hM, rfl, hvg, hu, hA2, hcl, hde⟩
                obtain ⟨hg, hall⟩ := circ_held HK.out.2.2.2 hρ2 hM
                rw [hg] at hvg hA2
                obtain ⟨ga, gcap, rfl, _⟩ := own_shape hvg
                obtain ⟨hD12, hge12⟩ := hde hall (fun d hd => by obtain ⟨t, _, rfl⟩ := List.mem_map.1 hd; rfl)
                have hB12 : Built False W12 A cv fv' rv11 (circDs ts) [(ρ : Int) + 1] := ⟨cs', nd', by simpa using hA2, hD12, hge12⟩
                have hl12 := H11.out.1.col_below H11.out.2.1 hu
                have hpo := built_pop hB12 1 (by simp) (by simp)
                have e0 : ((0 : Int) == 0) = true := by decide
                have H12 := Lib.hid (And.intro hB12 hl12)
                clear hB12 hl12 hD12 hge12 hA2 hvg hu hco hM hg hall hde hcl
                go_wp2_with fail
                refine hpo.mono ?_
                rintro e W13 ⟨⟨v13, rfl⟩, rv13, hB13, hu13⟩
                have hl13 : Below A w3 W13 := H12.out.2.trans (hu13.below (built_A_le H12.out.1).1 (fun k e => by rw [e]; exact Nat.le_refl _))
                have H13 := Lib.hid (And.intro hB13 hl13)
                clear hB13 hl13 hu13 hpo
                go_wp2_with fail
                refine wp_region_till (m := 10) (S := (fun W => W.cell? ⟨bx, 0, none⟩ = some (.int .i64 m))) (by kernel_rfl) ?_
                have hB14 := H13.out.1.below (below_drewN (Below.refl _ _) 1)
                have hl14 : Below A w3 (W13.drewN 1) := below_drewN H13.out.2 1
                have eW : W13.drewN 1 = W13.drew := rfl
                rw [eW] at hB14 hl14
                obtain ⟨D, hD⟩ : ∃ D, W13.drew = D := ⟨_, rfl⟩
                rw [hD] at hB14 hl14 ⊢
                clear eW hD
                have yb : D.cell? ⟨bx, 0, none⟩ = some (.int .i64 m) := (hl14.cell (p := ⟨bx, 0, none⟩) HD.out.2.2.1).trans HD.out.2.2.2
                have hco2 := built_collect hB14 (by rw [HK.out.2.2.1]; omega) (by simp) H11.out.2.2
                have H15 := Lib.hid (And.intro hB14 hl14)
                clear hB14 hl14
                change tillH _ _ _ _ _ _ 11 #[false, false, false, false, false, false, false, false, false, false, false] _ _
                refine tillH_takeAny (i := 0) (oi := ?oo29) (v := ?vv29) ?hi29 (by kernel_rfl) (by kernel_rfl) (by kernel_rfl) ?hq29 (by kernel_rfl) ?hy29 (fun _ => yb) ?hh29
                case hi29 => (simp only [List.getElem?_toArray, List.getElem?_cons_succ, List.getElem?_cons_zero]; rfl)
                case hq29 => exact fun _ _ _ h => h
                case hy29 => exact Or.inl ⟨by rfl, by (intro W; go_simp; (try with_reducible rfl))⟩
                (try simp only [Act.put, List.setIfInBounds_toArray, List.set_cons_zero, List.set_cons_succ])
                refine tillH_take (i := 3) (oi := ?oo30) (v := ?vv30) ?hi30 (by kernel_rfl) (by kernel_rfl) (by kernel_rfl) ?hq30 (by kernel_rfl) (by kernel_rfl) (by kernel_rfl) ?hy30 yb ?hh30
                case hi30 => (simp only [List.getElem?_toArray, List.getElem?_cons_succ, List.getElem?_cons_zero]; rfl)
                case hq30 => exact fun _ _ _ h => h
                case hy30 => exact Or.inl ⟨by rfl, by (intro W hSw; (try obtain s0 := hSw); go_simp; (try with_reducible rfl))⟩
                (try simp only [Act.put, List.setIfInBounds_toArray, List.set_cons_zero, List.set_cons_succ])
                refine tillH_next (rs := [1]) (by kernel_rfl) (by simp) ?_
                refine NextH.cons rfl (fun K hK => ?_) NextH.nil
                go_simp
                refine hco2.mono ?_
                rintro e W14 ⟨ms2, vg2, fv2, cs2, nd2, hM2, rfl, hvg2, hu2, hA3, _, _⟩
                have hg2 := circ_free hM2
                rw [HK.out.2.2.1] at hg2
                rw [hg2, upto_len] at hvg2
                rw [hg2, upto_len, HK.out.2.2.1] at hA3
                obtain ⟨ga2, gcap2, rfl, _⟩ := own_shape hvg2
                have hl14 := H15.out.1.col_below H15.out.2 hu2
                have hcn := count_any hA3.ar
                rw [Int.sub_self] at hcn
                have yb2 : W14.cell? ⟨bx, 0, none⟩ = some (.int .i64 m) := (hl14.cell (p := ⟨bx, 0, none⟩) HD.out.2.2.1).trans HD.out.2.2.2
                have e1 : ((m : Int) == (m : Int)) = true := by simp
                have H14 := Lib.hid hl14
                clear hl14 hA3 hvg2 hu2 hM2 hco2 hg2 yb
                refine hK.out _ _ (fun _ => yb2) ?_
                clear hK K
                (try simp only [Act.put, List.setIfInBounds_toArray, List.set_cons_zero, List.set_cons_succ])
                refine tillH_next (rs := [2]) (by kernel_rfl) (by simp) ?_
                refine NextH.cons rfl (fun K hK => ?_) NextH.nil
                go_simp
                refine hK.out _ _ (fun _ => yb2) ?_
                clear hK K
                (try simp only [Act.put, List.setIfInBounds_toArray, List.set_cons_zero, List.set_cons_succ])
                refine tillH_next (rs := [4]) (by kernel_rfl) (by simp) ?_
                refine NextH.cons rfl (fun K hK => ?_) NextH.nil
                go_simp
                refine hK.out _ _ (fun _ => yb2) ?_
                clear hK K
                (try simp only [Act.put, List.setIfInBounds_toArray, List.set_cons_zero, List.set_cons_succ])
                refine tillH_next (rs := [5]) (by kernel_rfl) (by simp) ?_
                refine NextH.cons rfl (fun K hK => ?_) NextH.nil
                go_simp
                refine hK.out _ _ (fun _ => yb2) ?_
                clear hK K
                (try simp only [Act.put, List.setIfInBounds_toArray, List.set_cons_zero, List.set_cons_succ])
                refine tillH_next (rs := [6]) (by kernel_rfl) (by simp) ?_
                refine NextH.cons rfl (fun K hK => ?_) NextH.nil
                go_simp
                refine hK.out _ _ (fun _ => yb2) ?_
                clear hK K
                (try simp only [Act.put, List.setIfInBounds_toArray, List.set_cons_zero, List.set_cons_succ])
                refine tillH_next (rs := [7]) (by kernel_rfl) (by simp) ?_
                refine NextH.cons rfl (fun K hK => ?_) NextH.nil
                go_simp
                refine hcn.mono ?_
                rintro e w' ⟨rfl, rfl⟩
                refine hK.out _ _ (fun _ => yb2) ?_
                clear hK K
                (try simp only [Act.put, List.setIfInBounds_toArray, List.set_cons_zero, List.set_cons_succ])
                refine tillH_next (rs := [8]) (by kernel_rfl) (by simp) ?_
                refine NextH.cons rfl (fun K hK => ?_) NextH.nil
                go_simp
                refine hK.out _ _ (fun _ => yb2) ?_
                clear hK K
                (try simp only [Act.put, List.setIfInBounds_toArray, List.set_cons_zero, List.set_cons_succ])
                refine tillH_next (rs := [9]) (by kernel_rfl) (by simp) ?_
                refine NextH.cons rfl (fun K hK => ?_) NextH.nil
                go_simp
                refine hK.out _ _ (fun _ => yb2) ?_
                clear hK K
                (try simp only [Act.put, List.setIfInBounds_toArray, List.set_cons_zero, List.set_cons_succ])
                refine tillH_next (rs := [10]) (by kernel_rfl) (by simp) ?_
                refine NextH.cons rfl (fun K hK => ?_) NextH.nil
                go_simp
                refine hK.out _ _ (fun h => absurd h (by simp)) ?_
                clear hK K
                (try simp only [Act.put, List.setIfInBounds_toArray, List.set_cons_zero, List.set_cons_succ])
                refine tillH_done (by kernel_rfl) ?_ _
                go_wp2_with fail
                go_ret
                exact ⟨rfl, HD.out.1.trans (H14.out.mono (by rw [← HD.out.2.1]; exact HD.out.1.size))⟩
  · have L0 : decide ((100 : Int) < (ln : Int)) = true := by rw [decide_eq_true_eq]; omega
    simp only [hbxe]
    clear hbxe
    go_wp2
    go_ret
    exact ⟨rfl, (HB.out.1).setCell (p := ⟨bx, 0, none⟩) (by rw [HB.out.2.1]; exact Nat.le_refl _) _⟩
end Go.Proofs.Ythcdhiknjpfmhaa
