/- Show: machine(). -/
import Derived.Test.YtdeboajjhpecbaaDoorShB
import Derived.Deep.CutBlock
import Derived.BigQuiet
import Derived.WalkSpells
set_option linter.unusedVariables false
set_option linter.unusedSimpArgs false
namespace Go.Proofs.YtdeboajjhpecbaaDoor.Hp
open Go.RowKit Go.Proofs.YtdeboajjhpecbaaDoor Go.Shelf
set_option maxRecDepth 100000 in
set_option maxHeartbeats 8000000 in
theorem machine_any (w : World) : Calls Tryd.prog 7 #[] w fun e w' => ∃ m H A B cv cs ps, e = .returned (.pointer (some ⟨m, 0, none⟩)) ∧ Ms w.heap.size w' m H A B cv cs ps ∧ cs.length = 21 ∧ Below w.heap.size w w' := by
  go_enter Tryd.func7, Tryd.ntmps7
  go_wp2_with (go_at_call 21; refine (vmnew_any w).mono ?_)
  rintro e w1 ⟨m, H, rfl, h1, h5, h2, h3, h4⟩
  have x0 : w1.cell? ⟨m, 0, none⟩ = some (.pointer (some ⟨H, 0, none⟩)) := by rw [h2.cell]; rfl
  have HM : Ms w.heap.size w1 m H (H - 1) (H - 1) nilS [] (List.replicate 21 0) :=
    ⟨⟨by omega, by omega, by omega, by have := h3.hb.lt; omega⟩, (fun g hg => by cases hg), h2, rfl, h3, fun i n hn => by simp at hn⟩
  have HI0 := Lib.hid (And.intro HM h4)
  clear h1 h5 h2 h3 h4 HM
  go_wp2_with (fail)
  go_loopw [2, 17] (fun u v wr => ∃ (i : Nat) (cv : Value) (cs : List Cell) (ps : List Int), v = .int .i64 (i : Int) ∧ i ≤ 21 ∧ cs.length = i ∧ Hid (Ms w.heap.size wr m H (H - 1) (H - 1) cv cs ps ∧ Below w.heap.size w wr)) (fun u v _ => 21 - (intOf v).toNat)
  case atStart => exact ⟨0, nilS, [], List.replicate 21 0, rfl, by omega, rfl, HI0⟩
  case round =>
    obtain ⟨i, cv, cs, ps, rfl, hi0, hl, HI⟩ := hrel
    by_cases hi : i < 21
    · have t3 : decide ((i : Int) < 21) = true := by simp; omega
      have z0 : (0 : Int) ≤ (i : Int) := by omega
      have z1 : (i : Int) < 21 := by omega
      have ac : IntKind.i64.wrap ((i : Int) + 1) = (i : Int) + 1 := IntWalk.i64_in _ (by omega)
      have x0 : wr.cell? ⟨m, 0, none⟩ = some (.pointer (some ⟨H, 0, none⟩)) := by rw [HI.out.1.mb.cell]; rfl
      clear HI0
      go_wp2_with (fail)
      refine wp_var0 (fun KV HKV => ?_)
      refine wp_region_till (m := 6) (S := (fun W => W.cell? ⟨m, 0, none⟩ = some (.pointer (some ⟨H, 0, none⟩)))) (by kernel_rfl) ?_
      have e4 : wr.drew = wr.drewN 1 := rfl
      rw [e4]
      have S0 : (wr.drewN 1).cell? ⟨m, 0, none⟩ = some (.pointer (some ⟨H, 0, none⟩)) := x0
      have HBD := Lib.hid (And.intro (HI.out.1.drewN 1) (below_drw HI.out.2 1))
      clear e4 x0 HI
      generalize wr.drewN 1 = E1 at *
      change tillH _ _ _ _ _ _ 14 #[false, false, false, false, false, false, false, false, false, false, false, false, false, false] _ _
      refine tillH_takeAny (i := 0) (oi := ?oo1) (v := ?vv1) ?hi1 (by kernel_rfl) (by kernel_rfl) (by kernel_rfl) ?hq1 (by kernel_rfl) ?hy1 (fun _ => S0) ?hh1
      case hi1 => (simp only [List.getElem?_toArray, List.getElem?_cons_succ, List.getElem?_cons_zero]; rfl)
      case hq1 => exact fun _ _ _ h => h
      case hy1 => exact Or.inl ⟨by rfl, by (intro W; go_simp; (try with_reducible rfl))⟩
      (try simp only [Act.put, List.setIfInBounds_toArray, List.set_cons_zero, List.set_cons_succ])
      refine tillH_takeAny (i := 1) (oi := ?oo2) (v := ?vv2) ?hi2 (by kernel_rfl) (by kernel_rfl) (by kernel_rfl) ?hq2 (by kernel_rfl) ?hy2 (fun _ => S0) ?hh2
      case hi2 => (simp only [List.getElem?_toArray, List.getElem?_cons_succ, List.getElem?_cons_zero]; rfl)
      case hq2 => exact fun _ _ _ h => h
      case hy2 => exact Or.inl ⟨by rfl, by (intro W; go_simp; (try with_reducible rfl))⟩
      (try simp only [Act.put, List.setIfInBounds_toArray, List.set_cons_zero, List.set_cons_succ])
      refine tillH_takeAny (i := 2) (oi := ?oo3) (v := ?vv3) ?hi3 (by kernel_rfl) (by kernel_rfl) (by kernel_rfl) ?hq3 (by kernel_rfl) ?hy3 (fun _ => S0) ?hh3
      case hi3 => (simp only [List.getElem?_toArray, List.getElem?_cons_succ, List.getElem?_cons_zero]; rfl)
      case hq3 => exact fun _ _ _ h => h
      case hy3 => exact Or.inl ⟨by rfl, by (intro W; go_simp; (try with_reducible rfl))⟩
      (try simp only [Act.put, List.setIfInBounds_toArray, List.set_cons_zero, List.set_cons_succ])
      refine tillH_takeAny (i := 3) (oi := ?oo4) (v := ?vv4) ?hi4 (by kernel_rfl) (by kernel_rfl) (by kernel_rfl) ?hq4 (by kernel_rfl) ?hy4 (fun _ => S0) ?hh4
      case hi4 => (simp only [List.getElem?_toArray, List.getElem?_cons_succ, List.getElem?_cons_zero]; rfl)
      case hq4 => exact fun _ _ _ h => h
      case hy4 => exact Or.inl ⟨by rfl, by (intro W; go_simp; (try with_reducible rfl))⟩
      (try simp only [Act.put, List.setIfInBounds_toArray, List.set_cons_zero, List.set_cons_succ])
      refine tillH_takeAny (i := 4) (oi := ?oo5) (v := ?vv5) ?hi5 (by kernel_rfl) (by kernel_rfl) (by kernel_rfl) ?hq5 (by kernel_rfl) ?hy5 (fun _ => S0) ?hh5
      case hi5 => (simp only [List.getElem?_toArray, List.getElem?_cons_succ, List.getElem?_cons_zero]; rfl)
      case hq5 => exact fun _ _ _ h => h
      case hy5 => exact Or.inl ⟨by rfl, by (intro W; go_simp; (try with_reducible rfl))⟩
      (try simp only [Act.put, List.setIfInBounds_toArray, List.set_cons_zero, List.set_cons_succ])
      refine tillH_take (i := 5) (oi := ?oo6) (v := ?vv6) ?hi6 (by kernel_rfl) (by kernel_rfl) (by kernel_rfl) ?hq6 (by kernel_rfl) (by kernel_rfl) (by kernel_rfl) ?hy6 S0 ?hh6
      case hi6 => (simp only [List.getElem?_toArray, List.getElem?_cons_succ, List.getElem?_cons_zero]; rfl)
      case hq6 => exact fun _ _ _ h => h
      case hy6 => exact Or.inl ⟨by rfl, by (intro W hSw; (try obtain s0 := hSw); go_simp; (try with_reducible rfl))⟩
      (try simp only [Act.put, List.setIfInBounds_toArray, List.set_cons_zero, List.set_cons_succ])
      refine tillH_takeAny (i := 10) (oi := ?oo7) (v := ?vv7) ?hi7 (by kernel_rfl) (by kernel_rfl) (by kernel_rfl) ?hq7 (by kernel_rfl) ?hy7 (fun _ => S0) ?hh7
      case hi7 => (simp only [List.getElem?_toArray, List.getElem?_cons_succ, List.getElem?_cons_zero]; rfl)
      case hq7 => exact fun _ _ _ h => h
      case hy7 => exact Or.inl ⟨by rfl, by (intro W; go_simp; (try with_reducible rfl))⟩
      (try simp only [Act.put, List.setIfInBounds_toArray, List.set_cons_zero, List.set_cons_succ])
      refine tillH_takeAny (i := 11) (oi := ?oo8) (v := ?vv8) ?hi8 (by kernel_rfl) (by kernel_rfl) (by kernel_rfl) ?hq8 (by kernel_rfl) ?hy8 (fun _ => S0) ?hh8
      case hi8 => (simp only [List.getElem?_toArray, List.getElem?_cons_succ, List.getElem?_cons_zero]; rfl)
      case hq8 => exact fun _ _ _ h => h
      case hy8 => exact Or.inl ⟨by rfl, by (intro W; go_simp; (try with_reducible rfl))⟩
      (try simp only [Act.put, List.setIfInBounds_toArray, List.set_cons_zero, List.set_cons_succ])
      refine tillH_next (rs := [6]) (by kernel_rfl) (by simp) ?_
      refine NextH.cons rfl (fun K hK => ?_) NextH.nil
      go_simp
      refine (HBD.out.1.make 0 0 (by omega) HBD.out.2.size).mono ?_
      rintro e E2 ⟨b, T, cv2, rfl, hM, -, -, -, -, -, b6⟩
      have y0 : E2.frozen? ⟨m, 1 + i, none⟩ = false := hM.mb.frozen _
      have y1 : E2.cell? ⟨m, 1 + i, none⟩ = some (.int .i64 (ps.getD i 0)) := by rw [hM.mb.cell]; exact machC_get H ps hM.pl i hi
      have b7 := HBD.out.2.trans b6
      have hP := hM.proto i hi ((i : Int) + 1) b7.size
      have hb : objP (cs ++ [(some (tObj, b), false)]) ((i : Int) + 1) = .pointer (some ⟨b, 0, none⟩) := by have := objP_last cs b; rw [show ((cs.length + 1 : Nat) : Int) = (i : Int) + 1 by omega] at this; exact this
      have x0 : (E2.setCell ⟨m, 1 + i, none⟩ (.int .i64 ((i : Int) + 1))).cell? ⟨m, 0, none⟩ = some (.pointer (some ⟨H, 0, none⟩)) := by rw [hP.1.mb.cell]; rfl
      have x1 : (E2.setCell ⟨m, 1 + i, none⟩ (.int .i64 ((i : Int) + 1))).cell? ⟨m, 1 + i, none⟩ = some (.int .i64 ((i : Int) + 1)) := by rw [hP.1.mb.cell, machC_get H _ hP.1.pl i hi]; simp [List.getD, hM.pl, hi]
      have HP := Lib.hid (And.intro hP.1 (And.intro (b7.trans hP.2.2) hb))
      clear hM b6 b7 hP hb HBD
      refine hK.out _ _ (fun h => absurd h (by simp)) ?_
      clear hK K
      (try simp only [Act.put, List.setIfInBounds_toArray, List.set_cons_zero, List.set_cons_succ])
      refine tillH_takeAny (i := 7) (oi := ?oo9) (v := ?vv9) ?hi9 (by kernel_rfl) (by kernel_rfl) (by kernel_rfl) ?hq9 (by kernel_rfl) ?hy9 (fun h => absurd h (by simp)) ?hh9
      case hi9 => (simp only [List.getElem?_toArray, List.getElem?_cons_succ, List.getElem?_cons_zero]; rfl)
      case hq9 => exact fun _ _ _ h => h
      case hy9 => exact Or.inl ⟨by rfl, by (intro W; go_simp; (try with_reducible rfl))⟩
      (try simp only [Act.put, List.setIfInBounds_toArray, List.set_cons_zero, List.set_cons_succ])
      refine tillH_takeAny (i := 8) (oi := ?oo10) (v := ?vv10) ?hi10 (by kernel_rfl) (by kernel_rfl) (by kernel_rfl) ?hq10 (by kernel_rfl) ?hy10 (fun h => absurd h (by simp)) ?hh10
      case hi10 => (simp only [List.getElem?_toArray, List.getElem?_cons_succ, List.getElem?_cons_zero]; rfl)
      case hq10 => exact fun _ _ _ h => h
      case hy10 => exact Or.inl ⟨by rfl, by (intro W; go_simp; (try with_reducible rfl))⟩
      (try simp only [Act.put, List.setIfInBounds_toArray, List.set_cons_zero, List.set_cons_succ])
      refine tillH_takeAny (i := 9) (oi := ?oo11) (v := ?vv11) ?hi11 (by kernel_rfl) (by kernel_rfl) (by kernel_rfl) ?hq11 (by kernel_rfl) ?hy11 (fun h => absurd h (by simp)) ?hh11
      case hi11 => (simp only [List.getElem?_toArray, List.getElem?_cons_succ, List.getElem?_cons_zero]; rfl)
      case hq11 => exact fun _ _ _ h => h
      case hy11 => exact Or.inl ⟨by rfl, by (intro W; go_simp; (try with_reducible rfl))⟩
      (try simp only [Act.put, List.setIfInBounds_toArray, List.set_cons_zero, List.set_cons_succ])
      refine tillH_takeAny (i := 12) (oi := ?oo12) (v := ?vv12) ?hi12 (by kernel_rfl) (by kernel_rfl) (by kernel_rfl) ?hq12 (by kernel_rfl) ?hy12 (fun h => absurd h (by simp)) ?hh12
      case hi12 => (simp only [List.getElem?_toArray, List.getElem?_cons_succ, List.getElem?_cons_zero]; rfl)
      case hq12 => exact fun _ _ _ h => h
      case hy12 => exact Or.inl ⟨by rfl, by (intro W; go_simp; (try with_reducible rfl))⟩
      (try simp only [Act.put, List.setIfInBounds_toArray, List.set_cons_zero, List.set_cons_succ])
      refine tillH_next (rs := [13]) (by kernel_rfl) (by simp) ?_
      refine NextH.cons rfl (fun K hK => ?_) NextH.nil
      go_simp
      refine hK.out _ _ (fun h => absurd h (by simp)) ?_
      clear hK K
      (try simp only [Act.put, List.setIfInBounds_toArray, List.set_cons_zero, List.set_cons_succ])
      clear y0 y1
      generalize E2.setCell ⟨m, 1 + i, none⟩ (.int .i64 ((i : Int) + 1)) = E3 at *
      refine tillH_done (by kernel_rfl) ?_ _
      refine HKV.out _ _ ?_
      go_wp2_with (fail)
      have HC : Hid (∀ q, Calls Tryd.prog 22 #[.pointer (some ⟨H, 0, none⟩), .int .i64 ((i : Int) + 1)] (E3.drewN q) fun e w' => e = .returned (.pointer (some ⟨b, 0, none⟩)) ∧ ∃ n, w' = (E3.drewN q).drewN n) := Lib.hid (fun q => by
        have h1 := obj_anyS ((i : Int) + 1) (HP.out.1.drewN q).hx (by simp; omega) HP.out.1.hk
        rw [HP.out.2.2] at h1
        exact h1)
      go_quiet ((go_at_call 22; exact Calls.quiet_of (HC.out _)))
      have HI4 := Lib.hid (And.intro (HP.out.1.drewN nq) (below_drw HP.out.2.1 nq))
      clear HP HC x0 x1
      generalize E3.drewN nq = E4 at *
      go_wp2_with (fail)
      go_roundw
      case rel => exact ⟨i + 1, cv2, _, _, rfl, by omega, by simp; omega, HI4⟩
      case measure => simp [intOf]; omega
    · have hin : i = 21 := by omega
      have t3 : decide ((i : Int) < 21) = false := by simp; omega
      go_wp2
      go_ret
      exact ⟨m, H, H - 1, H - 1, cv, cs, ps, rfl, HI.out.1, hl.trans hin, HI.out.2⟩
end Go.Proofs.YtdeboajjhpecbaaDoor.Hp
