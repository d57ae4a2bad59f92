/- Show: grow, of an array. -/
import Derived.Test.YtdeboajjhpecbaaGreatDoorShZo
import Derived.Test.YtdeboajjhpecbaaGreatDoorShZk
import Derived.Handy
set_option linter.unusedVariables false
set_option linter.unusedSimpArgs false
namespace Go.Proofs.YtdeboajjhpecbaaGreatDoor.Hp
open Go.RowKit Go.Proofs.YtdeboajjhpecbaaGreatDoor Go.Shelf
set_option maxRecDepth 100000 in
set_option maxHeartbeats 8000000 in
theorem grow_arr {N m H A B : Nat} {ps : List Int} {P : List PartV} {cv : Value} {cs : List Cell} {w : World} {at_ pn pc : Nat} {pa : Option Addr} (hM : Ms N w m H A B cv cs ps) (hP : PlanR w pa pn P) (hpn : pn ≤ 600) (hlen : ∀ p ∈ P, p.len ≤ 600) (hcs : cs.length + pn ≤ 3500 + at_) (deep : Int) (hd : 0 ≤ deep ∧ deep ≤ 7) (ih : deep ≤ 6 → ∀ cv0 cs0 W0 at0, Ms N W0 m H A B cv0 cs0 ps → Below N w W0 → cs0.length + pn ≤ 3500 + at0 → Calls Tryz.prog 8 #[.pointer (some ⟨m, 0, none⟩), .agg #[.slice pa pn pc], .int .i64 (at0 : Int), .int .i64 (deep + 1)] W0 (GrowP N m H A B ps P cv0 cs0 W0 at0)) (hat : at_ < pn) (p : PartV) (hp : P[at_]? = some p) (hk : (wrap64 (p.k.tmod 12 + 12)).tmod 12 = 11) : Calls Tryz.prog 8 #[.pointer (some ⟨m, 0, none⟩), .agg #[.slice pa pn pc], .int .i64 (at_ : Int), .int .i64 deep] w (GrowP N m H A B ps P cv cs w at_) := by
  have HK := Lib.hid hk
  have HLEN := Lib.hid (hlen p (List.mem_of_getElem? hp))
  obtain ⟨g, off, rfl, hgl, hcell⟩ := hP.2.1 (by omega)
  have y0 := hcell at_ p hp 0 (by decide)
  have y1 := hcell at_ p hp 1 (by decide)
  have y2 := hcell at_ p hp 2 (by decide)
  have y0' : (gW (some ⟨g, off, none⟩) pn pc w).cell? ⟨g, off + at_ * 3, none⟩ = some (.int .i64 p.k) := ((gb_of _ pn pc w).bel.cell (p := ⟨g, off + at_ * 3, none⟩) hgl).trans y0
  have y1' : (gW (some ⟨g, off, none⟩) pn pc w).cell? ⟨g, off + at_ * 3 + 1, none⟩ = some (.int .i64 p.n) := ((gb_of _ pn pc w).bel.cell (p := ⟨g, off + at_ * 3 + 1, none⟩) hgl).trans y1
  have y2' : (gW (some ⟨g, off, none⟩) pn pc w).cell? ⟨g, off + at_ * 3 + 2, none⟩ = some (.slice p.a p.len p.cap) := ((gb_of _ pn pc w).bel.cell (p := ⟨g, off + at_ * 3 + 2, none⟩) hgl).trans y2
  have HG := Lib.hid (gb_of (some ⟨g, off, none⟩) pn pc w)
  have HM := Lib.hid hM
  have HP := Lib.hid (And.intro hP hp)
  have hatn : at_ < pn := hat
  have t1 : decide ((at_ : Int) ≥ (pn : Int)) = false := by simp; omega
  have z0 : (0 : Int) ≤ (at_ : Int) := by omega
  have z1 : (at_ : Int) < (pn : Int) := by omega
  have ac : IntKind.i64.wrap ((at_ : Int) + 1) = (at_ : Int) + 1 := IntWalk.i64_in _ (by omega)
  obtain ⟨pk, pN, sa, sn, sc, sl⟩ := p
  dsimp only at y0' y1' y2'
  clear hcell y0 y1 y2 hP hM hp hat
  unfold gW at y0' y1' y2'
  clear hk hlen
  go_enter Tryz.func8, Tryz.ntmps8
  go_upto_region 1 with fail
  unfold gW at HG
  generalize (((w.alloc (.cells #[.slice (some ⟨g, off, none⟩) pn pc] 24)).alloc (.cells VZ 30)).alloc (.cells RZ 33)) = W at *
  have q0 : W.cell? ⟨w.heap.size, 0, none⟩ = some (.slice (some ⟨g, off, none⟩) pn pc) := by rw [HG.out.pb.cell]; rfl
  go_upto_region 5 with fail
  rw [HK.out]
  clear y0' y1' y2' q0
  have ba := (Below.refl W.heap.size W).alloc (Nat.le_refl _) (.cells #[.int .i64 pk, .int .i64 pN, .slice sa sn sc] 51)
  have HG := Lib.hid (And.intro (HG.out.below ba) (And.intro (Blk.new W 51 #[.int .i64 pk, .int .i64 pN, .slice sa sn sc]) HG.out.rb.lt))
  generalize W.alloc (.cells #[.int .i64 pk, .int .i64 pN, .slice sa sn sc] 51) = W2 at *
  generalize W.heap.size = X at *
  clear ba
  have HPR := Lib.hid (HP.out.1.2.2 _ (List.mem_of_getElem? HP.out.2))
  have p1 : W2.cell? ⟨X, 1, none⟩ = some (.int .i64 pN) := by rw [HG.out.2.1.cell]; rfl
  obtain ⟨j, hj, hjb⟩ := and_to pN 3 (by omega)
  have HJ := Lib.hid hjb
  have HIV := Lib.hid (info_parts infoVal)
  have HIR := Lib.hid (info_parts infoV)
  clear hjb
  have hXl := HG.out.2.1.lt
  have hX2 := HG.out.2.2
  have HS := Lib.hid ((Gs.start HM.out HG.out.1).new 46 (robC arrS nilS 0 0 ⟨#[]⟩) okTyO)
  go_upto_region 24 with fail
  generalize W2.alloc (.cells (robC arrS nilS 0 0 ⟨#[]⟩) 46) = W3 at *
  have hol := (HS.out.at (b := W2.heap.size) (t := 46) (c := robC arrS nilS 0 0 ⟨#[]⟩) (by simp)).lt
  have HA := Lib.hid (AS.start (o := W2.heap.size) (at_ := at_) (P := P) HS.out ⟨hol, by omega, by omega⟩ (by have := HP.out.1.1; omega))
  generalize W2.heap.size = o at *
  rw [show bits .and .i64 pN 3 = (j : Int) from HJ.out]
  clear p1 hXl hX2 hol HS HG HJ
  go_loopw [2, 16, 126] (fun v2 v16 v126 wr => ∃ (C : List Ch) (atc : Nat) (cv2 : Value) (ds : List Cell) (rv : Value), v2 = .int .i64 (atc : Int) ∧ v126 = .int .i64 (C.length : Int) ∧ C.length ≤ j ∧ Hid (AS N m H A B ps P w at_ cv cs o cv2 ds [(o, 46, robC arrS rv 0 0 ⟨#[]⟩), (w.heap.size, 24, #[.slice (some ⟨g, off, none⟩) pn pc]), (w.heap.size + 1, 30, VZ), (w.heap.size + 1 + 1, 33, RZ)] atc C C.length C.length v16 rv wr)) (fun _ _ v126 _ => j - (intOf v126).toNat)
  case atStart => exact ⟨[], at_ + 1, cv, [], nilS, rfl, rfl, Nat.zero_le _, HA⟩
  case round =>
    obtain ⟨C, atc, cv2, ds, rv, rfl, rfl, hCj, HA⟩ := hrel
    by_cases hlt : C.length < j
    · have tj : decide ((C.length : Int) < (j : Int)) = true := by rw [decide_eq_true_eq]; omega
      have q0 : wr.cell? ⟨w.heap.size, 0, none⟩ = some (.slice (some ⟨g, off, none⟩) pn pc) := by rw [(HA.out.gs.at (b := w.heap.size) (t := 24) (c := #[.slice (some ⟨g, off, none⟩) pn pc]) (by simp)).cell]; rfl
      by_cases hdp : deep > 6
      · have td : decide (deep > 6) = true := by rw [decide_eq_true_eq]; exact hdp
        obtain ⟨a1, cap1, rfl, _⟩ := row_cells HA.out.ar
        go_upto_region 29 with fail
        go_wp2_with (fail)
        refine (HA.out.gs.ms.array2 a1 C.length cap1 (by have := HA.out.dl; have := HA.out.le; have := HP.out.1.1; rw [List.length_append]; omega) (Nat.le_trans HA.out.gs.ms.low.2.2.1 HA.out.gs.ms.low.2.2.2)).mono ?_
        rintro e W1 ⟨b, T, cv3, rfl, hM3, hB3, hT, hTb, hK3, hb3, hU3, hO3⟩
        obtain ⟨r, hr⟩ : ∃ r : Int, (((cs ++ ds).length + 1 : Nat) : Int) = r := ⟨_, rfl⟩
        rw [hr]
        have HR := Lib.hid hr
        clear hr
        have B8 := kp_upd HA.out.gs.ms hU3 (HA.out.gs.at (b := w.heap.size + 1) (t := 30) (c := VZ) (by simp)) (by decide) (by decide)
        have B9 := kp_upd HA.out.gs.ms hU3 (HA.out.gs.at (b := w.heap.size + 1 + 1) (t := 33) (c := RZ) (by simp)) (by decide) (by decide)
        have v0 : W1.cell? ⟨w.heap.size + 1, 0, none⟩ = some (.int .i64 0) := by rw [B8.cell]; rfl
        have vf0 : W1.frozen? ⟨w.heap.size + 1, 0, none⟩ = false := B8.frozen 0
        have v1 : W1.cell? ⟨w.heap.size + 1, 1, none⟩ = some (.int .i64 0) := by rw [B8.cell]; rfl
        have vf1 : W1.frozen? ⟨w.heap.size + 1, 1, none⟩ = false := B8.frozen 1
        have v2 : W1.cell? ⟨w.heap.size + 1, 2, none⟩ = some (.string ⟨#[]⟩) := by rw [B8.cell]; rfl
        have vf2 : W1.frozen? ⟨w.heap.size + 1, 2, none⟩ = false := B8.frozen 2
        have r0 : W1.cell? ⟨w.heap.size + 1 + 1, 0, none⟩ = some (.int .i64 0) := by rw [B9.cell]; rfl
        have rf0 : W1.frozen? ⟨w.heap.size + 1 + 1, 0, none⟩ = false := B9.frozen 0
        have r1 : W1.cell? ⟨w.heap.size + 1 + 1, 1, none⟩ = some (.int .i64 0) := by rw [B9.cell]; rfl
        have rf1 : W1.frozen? ⟨w.heap.size + 1 + 1, 1, none⟩ = false := B9.frozen 1
        have r2 : W1.cell? ⟨w.heap.size + 1 + 1, 2, none⟩ = some (.string ⟨#[]⟩) := by rw [B9.cell]; rfl
        have rf2 : W1.frozen? ⟨w.heap.size + 1 + 1, 2, none⟩ = false := B9.frozen 2
        have r3 : W1.cell? ⟨w.heap.size + 1 + 1, 3, none⟩ = some (nilP) := by rw [B9.cell]; rfl
        have rf3 : W1.frozen? ⟨w.heap.size + 1 + 1, 3, none⟩ = false := B9.frozen 3
        have vl := B8.lt
        have rl := B9.lt
        have HZ := Lib.hid (And.intro hM3 (And.intro hB3 (And.intro hT (And.intro hTb (And.intro hU3 hO3)))))
        clear hM3 hB3 hT hTb hK3 hb3 hU3 hO3 B8 B9
        go_wp2
        refine bodyPost_ret (v := .tuple #[VS 9 r ⟨#[]⟩, VR 9 0 ⟨#[]⟩ (.pointer (some ⟨o, 0, none⟩)), .int .i64 (atc : Int)]) (by simp [results, Tryz.results8, go_sem, v0, v1, v2, r0, r1, r2, r3, vl, rl]) rfl ?_
        refine ⟨(9, r, ⟨#[]⟩), (9, 0, ⟨#[]⟩, .pointer (some ⟨o, 0, none⟩)), atc, arT (C.map (·.1)), rfl, ?_⟩
        have hu := upd34 W1 (w.heap.size + 1) (w.heap.size + 1 + 1) (.int .i64 9) (.int .i64 r) (.string ⟨#[]⟩) (.int .i64 9) (.int .i64 0) (.string ⟨#[]⟩) (.pointer (some ⟨o, 0, none⟩))
        have h8 : ∃ c, (w.heap.size + 1, 30, c) ∈ [(o, 46, robC arrS rv 0 0 ⟨#[]⟩), (w.heap.size, 24, #[.slice (some ⟨g, off, none⟩) pn pc]), (w.heap.size + 1, 30, VZ), (w.heap.size + 1 + 1, 33, RZ)] := ⟨VZ, by simp⟩
        have h9 : ∃ c, (w.heap.size + 1 + 1, 33, c) ∈ [(o, 46, robC arrS rv 0 0 ⟨#[]⟩), (w.heap.size, 24, #[.slice (some ⟨g, off, none⟩) pn pc]), (w.heap.size + 1, 30, VZ), (w.heap.size + 1 + 1, 33, RZ)] := ⟨RZ, by simp⟩
        have ho : (o, 46, robC arrS rv 0 0 ⟨#[]⟩) ∈ [(o, 46, robC arrS rv 0 0 ⟨#[]⟩), (w.heap.size, 24, #[.slice (some ⟨g, off, none⟩) pn pc]), (w.heap.size + 1, 30, VZ), (w.heap.size + 1 + 1, 33, RZ)] := by simp
        have hF := HA.out.fin ho HZ.out.1 HZ.out.2.1 HZ.out.2.2.1 HZ.out.2.2.2.1 HZ.out.2.2.2.2.1 HZ.out.2.2.2.2.2 hu h8 h9
        rw [HR.out] at hF
        exact hF
      · have td : decide (deep > 6) = false := by rw [decide_eq_false_iff_not]; exact hdp
        by_cases hac : atc < pn
        · have ta : decide ((atc : Int) ≥ (pn : Int)) = false := by rw [decide_eq_false_iff_not]; omega
          have ad : IntKind.i64.wrap (deep + 1) = deep + 1 := IntWalk.i64_in _ (by omega)
          have hN : N ≤ w.heap.size := Nat.le_trans HM.out.low.2.2.1 HM.out.low.2.2.2
          have hbN : Below N w wr := HA.out.gs.up.below hN (fun k hk => hk.elim (fun e => e ▸ HM.out.low.2.1) (fun e => HM.out.own k e))
          have HI := Lib.hid (ih (by omega) cv2 (cs ++ ds) wr atc HA.out.gs.ms hbN (by have := HA.out.dl; rw [List.length_append]; omega))
          clear ih hN hbN
          go_wp2_with (fail)
          refine HI.out.mono ?_
          rintro e W4 ⟨⟨v1, v2, v3⟩, ⟨x1, x2, x3, y4⟩, en, t, rfl, hg⟩
          obtain ⟨x4, h4⟩ := hg.rf.ptr
          dsimp only at h4
          subst h4
          obtain ⟨cv3, ds3, hA⟩ := HA.out.child hg (by omega)
          have hA := (hA.new 30 #[.int .i64 v1, .int .i64 v2, .string v3] okTyVal).new 33 #[.int .i64 x1, .int .i64 x2, .string x3, .pointer x4] okTyV
          rw [World.size_alloc] at hA
          have HA := Lib.hid hA
          clear hg hA HI
          go_upto_region 27 with fail
          generalize (W4.alloc (.cells #[.int .i64 v1, .int .i64 v2, .string v3] 30)).alloc (.cells #[.int .i64 x1, .int .i64 x2, .string x3, .pointer x4] 33) = W5 at *
          generalize W4.heap.size = b1 at *
          obtain ⟨D, hD⟩ : ∃ D, C ++ [(t, (v1, v2, v3), (x1, x2, x3, .pointer x4))] = D := ⟨_, rfl⟩
          have HX := Lib.hid (show D[C.length]? = some (t, (v1, v2, v3), (x1, x2, x3, .pointer x4)) by rw [← hD]; simp)
          have HDL := Lib.hid (show D.length = C.length + 1 by rw [← hD]; simp)
          rw [hD] at HA
          clear hD q0
          refine wp_var0 (fun KV HKV => ?_)
          refine wp_region_till (m := 11) (S := (fun W => W.cell? ⟨o, 3, none⟩ = some rv ∧ W.cell? ⟨b1, 0, none⟩ = some (.int .i64 v1) ∧ W.cell? ⟨b1, 1, none⟩ = some (.int .i64 v2) ∧ W.cell? ⟨b1, 2, none⟩ = some (.string v3) ∧ W.cell? ⟨b1 + 1, 0, none⟩ = some (.int .i64 x1) ∧ W.cell? ⟨b1 + 1, 1, none⟩ = some (.int .i64 x2) ∧ W.cell? ⟨b1 + 1, 2, none⟩ = some (.string x3) ∧ W.cell? ⟨b1 + 1, 3, none⟩ = some (.pointer x4))) (by kernel_rfl) ?_
          have e4 : W5.drew = W5.drewN 1 := rfl
          rw [e4]
          have HA := Lib.hid (HA.out.below (below_drw (Below.refl W5.heap.size W5) 1))
          have S0 : (W5.drewN 1).cell? ⟨o, 3, none⟩ = some rv ∧ (W5.drewN 1).cell? ⟨b1, 0, none⟩ = some (.int .i64 v1) ∧ (W5.drewN 1).cell? ⟨b1, 1, none⟩ = some (.int .i64 v2) ∧ (W5.drewN 1).cell? ⟨b1, 2, none⟩ = some (.string v3) ∧ (W5.drewN 1).cell? ⟨b1 + 1, 0, none⟩ = some (.int .i64 x1) ∧ (W5.drewN 1).cell? ⟨b1 + 1, 1, none⟩ = some (.int .i64 x2) ∧ (W5.drewN 1).cell? ⟨b1 + 1, 2, none⟩ = some (.string x3) ∧ (W5.drewN 1).cell? ⟨b1 + 1, 3, none⟩ = some (.pointer x4) := ⟨by rw [(HA.out.gs.at (b := o) (t := 46) (c := robC arrS rv 0 0 ⟨#[]⟩) (by simp)).cell]; rfl, by rw [(HA.out.gs.at (b := b1) (t := 30) (c := #[.int .i64 v1, .int .i64 v2, .string v3]) (by simp)).cell]; rfl, by rw [(HA.out.gs.at (b := b1) (t := 30) (c := #[.int .i64 v1, .int .i64 v2, .string v3]) (by simp)).cell]; rfl, by rw [(HA.out.gs.at (b := b1) (t := 30) (c := #[.int .i64 v1, .int .i64 v2, .string v3]) (by simp)).cell]; rfl, by rw [(HA.out.gs.at (b := b1 + 1) (t := 33) (c := #[.int .i64 x1, .int .i64 x2, .string x3, .pointer x4]) (by simp)).cell]; rfl, by rw [(HA.out.gs.at (b := b1 + 1) (t := 33) (c := #[.int .i64 x1, .int .i64 x2, .string x3, .pointer x4]) (by simp)).cell]; rfl, by rw [(HA.out.gs.at (b := b1 + 1) (t := 33) (c := #[.int .i64 x1, .int .i64 x2, .string x3, .pointer x4]) (by simp)).cell]; rfl, by rw [(HA.out.gs.at (b := b1 + 1) (t := 33) (c := #[.int .i64 x1, .int .i64 x2, .string x3, .pointer x4]) (by simp)).cell]; rfl⟩
          clear e4
          generalize W5.drewN 1 = E1 at *
          change tillH _ _ _ _ _ _ 18 #[false, false, false, false, false, false, false, false, false, false, false, false, false, false, false, false, false, false] _ _
          refine tillH_takeAny (i := 0) (oi := ?oo1) (v := ?vv1) ?hi1 (by kernel_rfl) (by kernel_rfl) (by kernel_rfl) ?hq1 (by kernel_rfl) ?hy1 (fun _ => S0) ?hh1
          case hi1 => (simp only [List.getElem?_toArray, List.getElem?_cons_succ, List.getElem?_cons_zero]; rfl)
          case hq1 => exact fun _ _ _ h => h
          case hy1 => exact Or.inl ⟨by rfl, by (intro W; go_simp; (try with_reducible rfl))⟩
          (try simp only [Act.put, List.setIfInBounds_toArray, List.set_cons_zero, List.set_cons_succ])
          refine tillH_takeAny (i := 1) (oi := ?oo2) (v := ?vv2) ?hi2 (by kernel_rfl) (by kernel_rfl) (by kernel_rfl) ?hq2 (by kernel_rfl) ?hy2 (fun _ => S0) ?hh2
          case hi2 => (simp only [List.getElem?_toArray, List.getElem?_cons_succ, List.getElem?_cons_zero]; rfl)
          case hq2 => exact fun _ _ _ h => h
          case hy2 => exact Or.inl ⟨by rfl, by (intro W; go_simp; (try with_reducible rfl))⟩
          (try simp only [Act.put, List.setIfInBounds_toArray, List.set_cons_zero, List.set_cons_succ])
          refine tillH_takeC [4, 3] (i := 2) (oi := ?oo3) (v := ?vv3) ?hi3 (by kernel_rfl) (by kernel_rfl) (by kernel_rfl) ?hq3 (by kernel_rfl) (by kernel_rfl) (by kernel_rfl) ?hy3 S0 ?hh3
          case hi3 => (simp only [List.getElem?_toArray, List.getElem?_cons_succ, List.getElem?_cons_zero]; rfl)
          case hq3 => exact fun _ _ _ h => h
          case hy3 => exact Or.inl ⟨by rfl, by (intro W hSw; (try obtain ⟨s0, s1, s2, s3, s4, s5, s6, s7⟩ := hSw); go_simp; (try with_reducible rfl))⟩
          (try simp only [Act.put, List.setIfInBounds_toArray, List.set_cons_zero, List.set_cons_succ])
          refine tillH_takeAny (i := 5) (oi := ?oo4) (v := ?vv4) ?hi4 (by kernel_rfl) (by kernel_rfl) (by kernel_rfl) ?hq4 (by kernel_rfl) ?hy4 (fun _ => S0) ?hh4
          case hi4 => (simp only [List.getElem?_toArray, List.getElem?_cons_succ, List.getElem?_cons_zero]; rfl)
          case hq4 => exact fun _ _ _ h => h
          case hy4 => exact Or.inl ⟨by rfl, by (intro W; go_simp; (try with_reducible rfl))⟩
          (try simp only [Act.put, List.setIfInBounds_toArray, List.set_cons_zero, List.set_cons_succ])
          refine tillH_takeAny (i := 6) (oi := ?oo5) (v := ?vv5) ?hi5 (by kernel_rfl) (by kernel_rfl) (by kernel_rfl) ?hq5 (by kernel_rfl) ?hy5 (fun _ => S0) ?hh5
          case hi5 => (simp only [List.getElem?_toArray, List.getElem?_cons_succ, List.getElem?_cons_zero]; rfl)
          case hq5 => exact fun _ _ _ h => h
          case hy5 => exact Or.inl ⟨by rfl, by (intro W; go_simp; (try with_reducible rfl))⟩
          (try simp only [Act.put, List.setIfInBounds_toArray, List.set_cons_zero, List.set_cons_succ])
          refine tillH_takeAny (i := 7) (oi := ?oo6) (v := ?vv6) ?hi6 (by kernel_rfl) (by kernel_rfl) (by kernel_rfl) ?hq6 (by kernel_rfl) ?hy6 (fun _ => S0) ?hh6
          case hi6 => (simp only [List.getElem?_toArray, List.getElem?_cons_succ, List.getElem?_cons_zero]; rfl)
          case hq6 => exact fun _ _ _ h => h
          case hy6 => exact Or.inl ⟨by rfl, by (intro W; go_simp; (try with_reducible rfl))⟩
          (try simp only [Act.put, List.setIfInBounds_toArray, List.set_cons_zero, List.set_cons_succ])
          refine tillH_take (i := 8) (oi := ?oo7) (v := ?vv7) ?hi7 (by kernel_rfl) (by kernel_rfl) (by kernel_rfl) ?hq7 (by kernel_rfl) (by kernel_rfl) (by kernel_rfl) ?hy7 S0 ?hh7
          case hi7 => (simp only [List.getElem?_toArray, List.getElem?_cons_succ, List.getElem?_cons_zero]; rfl)
          case hq7 => exact fun _ _ _ h => h
          case hy7 => exact Or.inl ⟨by rfl, by (intro W hSw; (try obtain ⟨s0, s1, s2, s3, s4, s5, s6, s7⟩ := hSw); go_simp; (try with_reducible rfl))⟩
          (try simp only [Act.put, List.setIfInBounds_toArray, List.set_cons_zero, List.set_cons_succ])
          refine tillH_takeC [10] (i := 9) (oi := ?oo8) (v := ?vv8) ?hi8 (by kernel_rfl) (by kernel_rfl) (by kernel_rfl) ?hq8 (by kernel_rfl) (by kernel_rfl) (by kernel_rfl) ?hy8 S0 ?hh8
          case hi8 => (simp only [List.getElem?_toArray, List.getElem?_cons_succ, List.getElem?_cons_zero]; rfl)
          case hq8 => exact fun _ _ _ h => h
          case hy8 => exact Or.inl ⟨by rfl, by (intro W hSw; (try obtain ⟨s0, s1, s2, s3, s4, s5, s6, s7⟩ := hSw); go_simp; (try with_reducible rfl))⟩
          (try simp only [Act.put, List.setIfInBounds_toArray, List.set_cons_zero, List.set_cons_succ])
          refine tillH_takeAny (i := 12) (oi := ?oo9) (v := ?vv9) ?hi9 (by kernel_rfl) (by kernel_rfl) (by kernel_rfl) ?hq9 (by kernel_rfl) ?hy9 (fun _ => S0) ?hh9
          case hi9 => (simp only [List.getElem?_toArray, List.getElem?_cons_succ, List.getElem?_cons_zero]; rfl)
          case hq9 => exact fun _ _ _ h => h
          case hy9 => exact Or.inl ⟨by rfl, by (intro W; go_simp; (try with_reducible rfl))⟩
          (try simp only [Act.put, List.setIfInBounds_toArray, List.set_cons_zero, List.set_cons_succ])
          refine tillH_next (rs := [3, 10]) (by kernel_rfl) (by simp) ?_
          refine NextH.cons rfl (fun K hK => ?_) (NextH.cons rfl (fun K hK => ?_) NextH.nil)
          · skip
            go_simp
            have HA := Lib.hid (HA.out.new 30 #[.int .i64 v1, .int .i64 v2, .string v3] okTyVal)
            clear S0
            have S0 : (E1.alloc (.cells #[.int .i64 v1, .int .i64 v2, .string v3] 30)).cell? ⟨o, 3, none⟩ = some rv ∧ (E1.alloc (.cells #[.int .i64 v1, .int .i64 v2, .string v3] 30)).cell? ⟨b1, 0, none⟩ = some (.int .i64 v1) ∧ (E1.alloc (.cells #[.int .i64 v1, .int .i64 v2, .string v3] 30)).cell? ⟨b1, 1, none⟩ = some (.int .i64 v2) ∧ (E1.alloc (.cells #[.int .i64 v1, .int .i64 v2, .string v3] 30)).cell? ⟨b1, 2, none⟩ = some (.string v3) ∧ (E1.alloc (.cells #[.int .i64 v1, .int .i64 v2, .string v3] 30)).cell? ⟨b1 + 1, 0, none⟩ = some (.int .i64 x1) ∧ (E1.alloc (.cells #[.int .i64 v1, .int .i64 v2, .string v3] 30)).cell? ⟨b1 + 1, 1, none⟩ = some (.int .i64 x2) ∧ (E1.alloc (.cells #[.int .i64 v1, .int .i64 v2, .string v3] 30)).cell? ⟨b1 + 1, 2, none⟩ = some (.string x3) ∧ (E1.alloc (.cells #[.int .i64 v1, .int .i64 v2, .string v3] 30)).cell? ⟨b1 + 1, 3, none⟩ = some (.pointer x4) := ⟨by rw [(HA.out.gs.at (b := o) (t := 46) (c := robC arrS rv 0 0 ⟨#[]⟩) (by simp)).cell]; rfl, by rw [(HA.out.gs.at (b := b1) (t := 30) (c := #[.int .i64 v1, .int .i64 v2, .string v3]) (by simp)).cell]; rfl, by rw [(HA.out.gs.at (b := b1) (t := 30) (c := #[.int .i64 v1, .int .i64 v2, .string v3]) (by simp)).cell]; rfl, by rw [(HA.out.gs.at (b := b1) (t := 30) (c := #[.int .i64 v1, .int .i64 v2, .string v3]) (by simp)).cell]; rfl, by rw [(HA.out.gs.at (b := b1 + 1) (t := 33) (c := #[.int .i64 x1, .int .i64 x2, .string x3, .pointer x4]) (by simp)).cell]; rfl, by rw [(HA.out.gs.at (b := b1 + 1) (t := 33) (c := #[.int .i64 x1, .int .i64 x2, .string x3, .pointer x4]) (by simp)).cell]; rfl, by rw [(HA.out.gs.at (b := b1 + 1) (t := 33) (c := #[.int .i64 x1, .int .i64 x2, .string x3, .pointer x4]) (by simp)).cell]; rfl, by rw [(HA.out.gs.at (b := b1 + 1) (t := 33) (c := #[.int .i64 x1, .int .i64 x2, .string x3, .pointer x4]) (by simp)).cell]; rfl⟩
            refine hK.out _ _ (fun _ => S0) ?_
            clear hK K
            (try simp only [Act.put, List.setIfInBounds_toArray, List.set_cons_zero, List.set_cons_succ])
            generalize E1.alloc (.cells #[.int .i64 v1, .int .i64 v2, .string v3] 30) = F1 at *
            generalize E1.heap.size = ba at *
            refine tillH_next (rs := [4, 10]) (by kernel_rfl) (by simp) ?_
            refine NextH.cons rfl (fun K hK => ?_) (NextH.cons rfl (fun K hK => ?_) NextH.nil)
            · skip
              obtain ⟨i0, hi, hz0, hz1, hz2⟩ := HIV.out
              have hrow := HA.out.ar
              have hnw := Blk.news (HA.out.gs.at (b := ba) (t := 30) (c := #[.int .i64 v1, .int .i64 v2, .string v3]) (by simp))
              have hbs := HA.out.gs.up.size
              refine step_append_lies _ (by rfl) _ _ _ (by rfl) w.heap.size 30 i0 _ 3 32 Tryz.underlying39 hi hz0 hz1 hz2 rfl (by decide) _ _ _ (by rfl) hrow ⟨ba, 0, none⟩ 1 1 [.int .i64 v1, .int .i64 v2, .string v3] (by rfl) (by rfl) hnw (by simp [Value.oneCell']) (by decide) (by unfold maxLen; omega) (by omega) hbs _ rfl ?_
              intro ga capa F2 hown hgrow hat hl
              have HA := Lib.hid (HA.out.appA HX.out hown hgrow hat)
              clear hi hz0 hz1 hz2 i0 hrow hnw hbs hown hgrow hat hl
              clear S0
              have S0 : F2.cell? ⟨o, 3, none⟩ = some rv ∧ F2.cell? ⟨b1, 0, none⟩ = some (.int .i64 v1) ∧ F2.cell? ⟨b1, 1, none⟩ = some (.int .i64 v2) ∧ F2.cell? ⟨b1, 2, none⟩ = some (.string v3) ∧ F2.cell? ⟨b1 + 1, 0, none⟩ = some (.int .i64 x1) ∧ F2.cell? ⟨b1 + 1, 1, none⟩ = some (.int .i64 x2) ∧ F2.cell? ⟨b1 + 1, 2, none⟩ = some (.string x3) ∧ F2.cell? ⟨b1 + 1, 3, none⟩ = some (.pointer x4) := ⟨by rw [(HA.out.gs.at (b := o) (t := 46) (c := robC arrS rv 0 0 ⟨#[]⟩) (by simp)).cell]; rfl, by rw [(HA.out.gs.at (b := b1) (t := 30) (c := #[.int .i64 v1, .int .i64 v2, .string v3]) (by simp)).cell]; rfl, by rw [(HA.out.gs.at (b := b1) (t := 30) (c := #[.int .i64 v1, .int .i64 v2, .string v3]) (by simp)).cell]; rfl, by rw [(HA.out.gs.at (b := b1) (t := 30) (c := #[.int .i64 v1, .int .i64 v2, .string v3]) (by simp)).cell]; rfl, by rw [(HA.out.gs.at (b := b1 + 1) (t := 33) (c := #[.int .i64 x1, .int .i64 x2, .string x3, .pointer x4]) (by simp)).cell]; rfl, by rw [(HA.out.gs.at (b := b1 + 1) (t := 33) (c := #[.int .i64 x1, .int .i64 x2, .string x3, .pointer x4]) (by simp)).cell]; rfl, by rw [(HA.out.gs.at (b := b1 + 1) (t := 33) (c := #[.int .i64 x1, .int .i64 x2, .string x3, .pointer x4]) (by simp)).cell]; rfl, by rw [(HA.out.gs.at (b := b1 + 1) (t := 33) (c := #[.int .i64 x1, .int .i64 x2, .string x3, .pointer x4]) (by simp)).cell]; rfl⟩
              refine hK.out _ _ (fun _ => S0) ?_
              clear hK K
              (try simp only [Act.put, List.setIfInBounds_toArray, List.set_cons_zero, List.set_cons_succ])
              refine tillH_next (rs := [10]) (by kernel_rfl) (by simp) ?_
              refine NextH.cons rfl (fun K hK => ?_) NextH.nil
              go_simp
              have HA := Lib.hid (HA.out.new 33 #[.int .i64 x1, .int .i64 x2, .string x3, .pointer x4] okTyV)
              clear S0
              have S0 : (F2.alloc (.cells #[.int .i64 x1, .int .i64 x2, .string x3, .pointer x4] 33)).cell? ⟨o, 3, none⟩ = some rv ∧ (F2.alloc (.cells #[.int .i64 x1, .int .i64 x2, .string x3, .pointer x4] 33)).cell? ⟨b1, 0, none⟩ = some (.int .i64 v1) ∧ (F2.alloc (.cells #[.int .i64 x1, .int .i64 x2, .string x3, .pointer x4] 33)).cell? ⟨b1, 1, none⟩ = some (.int .i64 v2) ∧ (F2.alloc (.cells #[.int .i64 x1, .int .i64 x2, .string x3, .pointer x4] 33)).cell? ⟨b1, 2, none⟩ = some (.string v3) ∧ (F2.alloc (.cells #[.int .i64 x1, .int .i64 x2, .string x3, .pointer x4] 33)).cell? ⟨b1 + 1, 0, none⟩ = some (.int .i64 x1) ∧ (F2.alloc (.cells #[.int .i64 x1, .int .i64 x2, .string x3, .pointer x4] 33)).cell? ⟨b1 + 1, 1, none⟩ = some (.int .i64 x2) ∧ (F2.alloc (.cells #[.int .i64 x1, .int .i64 x2, .string x3, .pointer x4] 33)).cell? ⟨b1 + 1, 2, none⟩ = some (.string x3) ∧ (F2.alloc (.cells #[.int .i64 x1, .int .i64 x2, .string x3, .pointer x4] 33)).cell? ⟨b1 + 1, 3, none⟩ = some (.pointer x4) := ⟨by rw [(HA.out.gs.at (b := o) (t := 46) (c := robC arrS rv 0 0 ⟨#[]⟩) (by simp)).cell]; rfl, by rw [(HA.out.gs.at (b := b1) (t := 30) (c := #[.int .i64 v1, .int .i64 v2, .string v3]) (by simp)).cell]; rfl, by rw [(HA.out.gs.at (b := b1) (t := 30) (c := #[.int .i64 v1, .int .i64 v2, .string v3]) (by simp)).cell]; rfl, by rw [(HA.out.gs.at (b := b1) (t := 30) (c := #[.int .i64 v1, .int .i64 v2, .string v3]) (by simp)).cell]; rfl, by rw [(HA.out.gs.at (b := b1 + 1) (t := 33) (c := #[.int .i64 x1, .int .i64 x2, .string x3, .pointer x4]) (by simp)).cell]; rfl, by rw [(HA.out.gs.at (b := b1 + 1) (t := 33) (c := #[.int .i64 x1, .int .i64 x2, .string x3, .pointer x4]) (by simp)).cell]; rfl, by rw [(HA.out.gs.at (b := b1 + 1) (t := 33) (c := #[.int .i64 x1, .int .i64 x2, .string x3, .pointer x4]) (by simp)).cell]; rfl, by rw [(HA.out.gs.at (b := b1 + 1) (t := 33) (c := #[.int .i64 x1, .int .i64 x2, .string x3, .pointer x4]) (by simp)).cell]; rfl⟩
              refine hK.out _ _ (fun _ => S0) ?_
              clear hK K
              (try simp only [Act.put, List.setIfInBounds_toArray, List.set_cons_zero, List.set_cons_succ])
              generalize F2.alloc (.cells #[.int .i64 x1, .int .i64 x2, .string x3, .pointer x4] 33) = F3 at *
              generalize F2.heap.size = bb at *
              refine tillH_next (rs := [11]) (by kernel_rfl) (by simp) ?_
              refine NextH.cons rfl (fun K hK => ?_) NextH.nil
              obtain ⟨i0, hi, hz0, hz1, hz2⟩ := HIR.out
              have hrow := HA.out.rr
              have hnw := Blk.news (HA.out.gs.at (b := bb) (t := 33) (c := #[.int .i64 x1, .int .i64 x2, .string x3, .pointer x4]) (by simp))
              have hbs := HA.out.gs.up.size
              refine step_append_lies _ (by rfl) _ _ _ (by rfl) w.heap.size 33 i0 _ 4 40 Tryz.underlying40 hi hz0 hz1 hz2 rfl (by decide) _ _ _ (by rfl) hrow ⟨bb, 0, none⟩ 1 1 [.int .i64 x1, .int .i64 x2, .string x3, .pointer x4] (by rfl) (by rfl) hnw (by simp [Value.oneCell']) (by decide) (by unfold maxLen; omega) (by omega) hbs _ rfl ?_
              intro gb capb F4 hown hgrow hat hl
              have HA := Lib.hid (HA.out.appB HX.out hown hgrow hat)
              clear hi hz0 hz1 hz2 i0 hrow hnw hbs hown hgrow hat hl
              refine hK.out _ _ (fun h => absurd h (by simp)) ?_
              clear hK K
              (try simp only [Act.put, List.setIfInBounds_toArray, List.set_cons_zero, List.set_cons_succ])
              refine tillH_takeAny (i := 13) (oi := ?oo10) (v := ?vv10) ?hi10 (by kernel_rfl) (by kernel_rfl) (by kernel_rfl) ?hq10 (by kernel_rfl) ?hy10 (fun h => absurd h (by simp)) ?hh10
              case hi10 => (simp only [List.getElem?_toArray, List.getElem?_cons_succ, List.getElem?_cons_zero]; rfl)
              case hq10 => exact fun _ _ _ h => h
              case hy10 => exact Or.inl ⟨by rfl, by (intro W; go_simp; (try with_reducible rfl))⟩
              (try simp only [Act.put, List.setIfInBounds_toArray, List.set_cons_zero, List.set_cons_succ])
              refine tillH_takeAny (i := 14) (oi := ?oo11) (v := ?vv11) ?hi11 (by kernel_rfl) (by kernel_rfl) (by kernel_rfl) ?hq11 (by kernel_rfl) ?hy11 (fun h => absurd h (by simp)) ?hh11
              case hi11 => (simp only [List.getElem?_toArray, List.getElem?_cons_succ, List.getElem?_cons_zero]; rfl)
              case hq11 => exact fun _ _ _ h => h
              case hy11 => exact Or.inl ⟨by rfl, by (intro W; go_simp; (try with_reducible rfl))⟩
              (try simp only [Act.put, List.setIfInBounds_toArray, List.set_cons_zero, List.set_cons_succ])
              refine tillH_takeAny (i := 15) (oi := ?oo12) (v := ?vv12) ?hi12 (by kernel_rfl) (by kernel_rfl) (by kernel_rfl) ?hq12 (by kernel_rfl) ?hy12 (fun h => absurd h (by simp)) ?hh12
              case hi12 => (simp only [List.getElem?_toArray, List.getElem?_cons_succ, List.getElem?_cons_zero]; rfl)
              case hq12 => exact fun _ _ _ h => h
              case hy12 => exact Or.inl ⟨by rfl, by (intro W; go_simp; (try with_reducible rfl))⟩
              (try simp only [Act.put, List.setIfInBounds_toArray, List.set_cons_zero, List.set_cons_succ])
              have hob := (HA.out.gs.at (b := o) (t := 46) (c := robC arrS rv 0 0 ⟨#[]⟩) (by simp))
              have o3 : F4.cell? ⟨o, 3, none⟩ = some rv := by rw [hob.cell]; rfl
              have of3 := hob.frozen 3
              have olt := hob.lt
              refine tillH_next (rs := [16]) (by kernel_rfl) (by simp) ?_
              refine NextH.cons rfl (fun K hK => ?_) NextH.nil
              go_simp
              have HA := Lib.hid (HA.out.setO (L1 := [(bb, 33, #[.int .i64 x1, .int .i64 x2, .string x3, .pointer x4]), (ba, 30, #[.int .i64 v1, .int .i64 v2, .string v3]), (b1 + 1, 33, #[.int .i64 x1, .int .i64 x2, .string x3, .pointer x4]), (b1, 30, #[.int .i64 v1, .int .i64 v2, .string v3])]) (L2 := [(w.heap.size, 24, #[.slice (some ⟨g, off, none⟩) pn pc]), (w.heap.size + 1, 30, VZ), (w.heap.size + 1 + 1, 33, RZ)]) (t := 46) (c := robC arrS rv 0 0 ⟨#[]⟩) (c' := robC arrS (.slice (some ⟨gb, 0, none⟩) (C.length + 1) capb) 0 0 ⟨#[]⟩) (((Upd.refl F4 (fun k => k = o)).set _ 3 (.slice (some ⟨gb, 0, none⟩) (C.length + 1) capb) rfl)) (hob.set_ 3 (.slice (some ⟨gb, 0, none⟩) (C.length + 1) capb)))
              refine hK.out _ _ (fun h => absurd h (by simp)) ?_
              clear hK K
              (try simp only [Act.put, List.setIfInBounds_toArray, List.set_cons_zero, List.set_cons_succ])
              clear hob o3 of3 olt
              generalize F4.setCell ⟨o, 3, none⟩ (.slice (some ⟨gb, 0, none⟩) (C.length + 1) capb) = F5 at *
              refine tillH_takeAny (i := 17) (oi := ?oo13) (v := ?vv13) ?hi13 (by kernel_rfl) (by kernel_rfl) (by kernel_rfl) ?hq13 (by kernel_rfl) ?hy13 (fun h => absurd h (by simp)) ?hh13
              case hi13 => (simp only [List.getElem?_toArray, List.getElem?_cons_succ, List.getElem?_cons_zero]; rfl)
              case hq13 => exact fun _ _ _ h => h
              case hy13 => exact Or.inl ⟨by rfl, by (intro W; go_simp; (try with_reducible rfl))⟩
              (try simp only [Act.put, List.setIfInBounds_toArray, List.set_cons_zero, List.set_cons_succ])
              refine tillH_done (by kernel_rfl) ?_ _
              refine HKV.out _ _ ?_
              go_wp2
              go_roundw
              case rel =>
                refine ⟨D, en, cv3, ds3, (.slice (some ⟨gb, 0, none⟩) (C.length + 1) capb), rfl, by rw [HDL.out]; go_num, by rw [HDL.out]; omega, Lib.hid ?_⟩
                rw [HDL.out]
                exact HA.out.sub (.cons _ (.cons _ (.cons _ (.cons _ (List.Sublist.refl _)))))
              case measure => simp [intOf]; omega
            · skip
              go_simp
              have HA := Lib.hid (HA.out.new 33 #[.int .i64 x1, .int .i64 x2, .string x3, .pointer x4] okTyV)
              clear S0
              have S0 : (F1.alloc (.cells #[.int .i64 x1, .int .i64 x2, .string x3, .pointer x4] 33)).cell? ⟨o, 3, none⟩ = some rv ∧ (F1.alloc (.cells #[.int .i64 x1, .int .i64 x2, .string x3, .pointer x4] 33)).cell? ⟨b1, 0, none⟩ = some (.int .i64 v1) ∧ (F1.alloc (.cells #[.int .i64 x1, .int .i64 x2, .string x3, .pointer x4] 33)).cell? ⟨b1, 1, none⟩ = some (.int .i64 v2) ∧ (F1.alloc (.cells #[.int .i64 x1, .int .i64 x2, .string x3, .pointer x4] 33)).cell? ⟨b1, 2, none⟩ = some (.string v3) ∧ (F1.alloc (.cells #[.int .i64 x1, .int .i64 x2, .string x3, .pointer x4] 33)).cell? ⟨b1 + 1, 0, none⟩ = some (.int .i64 x1) ∧ (F1.alloc (.cells #[.int .i64 x1, .int .i64 x2, .string x3, .pointer x4] 33)).cell? ⟨b1 + 1, 1, none⟩ = some (.int .i64 x2) ∧ (F1.alloc (.cells #[.int .i64 x1, .int .i64 x2, .string x3, .pointer x4] 33)).cell? ⟨b1 + 1, 2, none⟩ = some (.string x3) ∧ (F1.alloc (.cells #[.int .i64 x1, .int .i64 x2, .string x3, .pointer x4] 33)).cell? ⟨b1 + 1, 3, none⟩ = some (.pointer x4) := ⟨by rw [(HA.out.gs.at (b := o) (t := 46) (c := robC arrS rv 0 0 ⟨#[]⟩) (by simp)).cell]; rfl, by rw [(HA.out.gs.at (b := b1) (t := 30) (c := #[.int .i64 v1, .int .i64 v2, .string v3]) (by simp)).cell]; rfl, by rw [(HA.out.gs.at (b := b1) (t := 30) (c := #[.int .i64 v1, .int .i64 v2, .string v3]) (by simp)).cell]; rfl, by rw [(HA.out.gs.at (b := b1) (t := 30) (c := #[.int .i64 v1, .int .i64 v2, .string v3]) (by simp)).cell]; rfl, by rw [(HA.out.gs.at (b := b1 + 1) (t := 33) (c := #[.int .i64 x1, .int .i64 x2, .string x3, .pointer x4]) (by simp)).cell]; rfl, by rw [(HA.out.gs.at (b := b1 + 1) (t := 33) (c := #[.int .i64 x1, .int .i64 x2, .string x3, .pointer x4]) (by simp)).cell]; rfl, by rw [(HA.out.gs.at (b := b1 + 1) (t := 33) (c := #[.int .i64 x1, .int .i64 x2, .string x3, .pointer x4]) (by simp)).cell]; rfl, by rw [(HA.out.gs.at (b := b1 + 1) (t := 33) (c := #[.int .i64 x1, .int .i64 x2, .string x3, .pointer x4]) (by simp)).cell]; rfl⟩
              refine hK.out _ _ (fun _ => S0) ?_
              clear hK K
              (try simp only [Act.put, List.setIfInBounds_toArray, List.set_cons_zero, List.set_cons_succ])
              generalize F1.alloc (.cells #[.int .i64 x1, .int .i64 x2, .string x3, .pointer x4] 33) = F2 at *
              generalize F1.heap.size = bb at *
              refine tillH_next (rs := [4]) (by kernel_rfl) (by simp) ?_
              refine NextH.cons rfl (fun K hK => ?_) NextH.nil
              obtain ⟨i0, hi, hz0, hz1, hz2⟩ := HIV.out
              have hrow := HA.out.ar
              have hnw := Blk.news (HA.out.gs.at (b := ba) (t := 30) (c := #[.int .i64 v1, .int .i64 v2, .string v3]) (by simp))
              have hbs := HA.out.gs.up.size
              refine step_append_lies _ (by rfl) _ _ _ (by rfl) w.heap.size 30 i0 _ 3 32 Tryz.underlying39 hi hz0 hz1 hz2 rfl (by decide) _ _ _ (by rfl) hrow ⟨ba, 0, none⟩ 1 1 [.int .i64 v1, .int .i64 v2, .string v3] (by rfl) (by rfl) hnw (by simp [Value.oneCell']) (by decide) (by unfold maxLen; omega) (by omega) hbs _ rfl ?_
              intro ga capa F3 hown hgrow hat hl
              have HA := Lib.hid (HA.out.appA HX.out hown hgrow hat)
              clear hi hz0 hz1 hz2 i0 hrow hnw hbs hown hgrow hat hl
              clear S0
              have S0 : F3.cell? ⟨o, 3, none⟩ = some rv ∧ F3.cell? ⟨b1, 0, none⟩ = some (.int .i64 v1) ∧ F3.cell? ⟨b1, 1, none⟩ = some (.int .i64 v2) ∧ F3.cell? ⟨b1, 2, none⟩ = some (.string v3) ∧ F3.cell? ⟨b1 + 1, 0, none⟩ = some (.int .i64 x1) ∧ F3.cell? ⟨b1 + 1, 1, none⟩ = some (.int .i64 x2) ∧ F3.cell? ⟨b1 + 1, 2, none⟩ = some (.string x3) ∧ F3.cell? ⟨b1 + 1, 3, none⟩ = some (.pointer x4) := ⟨by rw [(HA.out.gs.at (b := o) (t := 46) (c := robC arrS rv 0 0 ⟨#[]⟩) (by simp)).cell]; rfl, by rw [(HA.out.gs.at (b := b1) (t := 30) (c := #[.int .i64 v1, .int .i64 v2, .string v3]) (by simp)).cell]; rfl, by rw [(HA.out.gs.at (b := b1) (t := 30) (c := #[.int .i64 v1, .int .i64 v2, .string v3]) (by simp)).cell]; rfl, by rw [(HA.out.gs.at (b := b1) (t := 30) (c := #[.int .i64 v1, .int .i64 v2, .string v3]) (by simp)).cell]; rfl, by rw [(HA.out.gs.at (b := b1 + 1) (t := 33) (c := #[.int .i64 x1, .int .i64 x2, .string x3, .pointer x4]) (by simp)).cell]; rfl, by rw [(HA.out.gs.at (b := b1 + 1) (t := 33) (c := #[.int .i64 x1, .int .i64 x2, .string x3, .pointer x4]) (by simp)).cell]; rfl, by rw [(HA.out.gs.at (b := b1 + 1) (t := 33) (c := #[.int .i64 x1, .int .i64 x2, .string x3, .pointer x4]) (by simp)).cell]; rfl, by rw [(HA.out.gs.at (b := b1 + 1) (t := 33) (c := #[.int .i64 x1, .int .i64 x2, .string x3, .pointer x4]) (by simp)).cell]; rfl⟩
              refine hK.out _ _ (fun _ => S0) ?_
              clear hK K
              (try simp only [Act.put, List.setIfInBounds_toArray, List.set_cons_zero, List.set_cons_succ])
              refine tillH_next (rs := [11]) (by kernel_rfl) (by simp) ?_
              refine NextH.cons rfl (fun K hK => ?_) NextH.nil
              obtain ⟨i0, hi, hz0, hz1, hz2⟩ := HIR.out
              have hrow := HA.out.rr
              have hnw := Blk.news (HA.out.gs.at (b := bb) (t := 33) (c := #[.int .i64 x1, .int .i64 x2, .string x3, .pointer x4]) (by simp))
              have hbs := HA.out.gs.up.size
              refine step_append_lies _ (by rfl) _ _ _ (by rfl) w.heap.size 33 i0 _ 4 40 Tryz.underlying40 hi hz0 hz1 hz2 rfl (by decide) _ _ _ (by rfl) hrow ⟨bb, 0, none⟩ 1 1 [.int .i64 x1, .int .i64 x2, .string x3, .pointer x4] (by rfl) (by rfl) hnw (by simp [Value.oneCell']) (by decide) (by unfold maxLen; omega) (by omega) hbs _ rfl ?_
              intro gb capb F4 hown hgrow hat hl
              have HA := Lib.hid (HA.out.appB HX.out hown hgrow hat)
              clear hi hz0 hz1 hz2 i0 hrow hnw hbs hown hgrow hat hl
              refine hK.out _ _ (fun h => absurd h (by simp)) ?_
              clear hK K
              (try simp only [Act.put, List.setIfInBounds_toArray, List.set_cons_zero, List.set_cons_succ])
              refine tillH_takeAny (i := 13) (oi := ?oo14) (v := ?vv14) ?hi14 (by kernel_rfl) (by kernel_rfl) (by kernel_rfl) ?hq14 (by kernel_rfl) ?hy14 (fun h => absurd h (by simp)) ?hh14
              case hi14 => (simp only [List.getElem?_toArray, List.getElem?_cons_succ, List.getElem?_cons_zero]; rfl)
              case hq14 => exact fun _ _ _ h => h
              case hy14 => exact Or.inl ⟨by rfl, by (intro W; go_simp; (try with_reducible rfl))⟩
              (try simp only [Act.put, List.setIfInBounds_toArray, List.set_cons_zero, List.set_cons_succ])
              refine tillH_takeAny (i := 14) (oi := ?oo15) (v := ?vv15) ?hi15 (by kernel_rfl) (by kernel_rfl) (by kernel_rfl) ?hq15 (by kernel_rfl) ?hy15 (fun h => absurd h (by simp)) ?hh15
              case hi15 => (simp only [List.getElem?_toArray, List.getElem?_cons_succ, List.getElem?_cons_zero]; rfl)
              case hq15 => exact fun _ _ _ h => h
              case hy15 => exact Or.inl ⟨by rfl, by (intro W; go_simp; (try with_reducible rfl))⟩
              (try simp only [Act.put, List.setIfInBounds_toArray, List.set_cons_zero, List.set_cons_succ])
              refine tillH_takeAny (i := 15) (oi := ?oo16) (v := ?vv16) ?hi16 (by kernel_rfl) (by kernel_rfl) (by kernel_rfl) ?hq16 (by kernel_rfl) ?hy16 (fun h => absurd h (by simp)) ?hh16
              case hi16 => (simp only [List.getElem?_toArray, List.getElem?_cons_succ, List.getElem?_cons_zero]; rfl)
              case hq16 => exact fun _ _ _ h => h
              case hy16 => exact Or.inl ⟨by rfl, by (intro W; go_simp; (try with_reducible rfl))⟩
              (try simp only [Act.put, List.setIfInBounds_toArray, List.set_cons_zero, List.set_cons_succ])
              have hob := (HA.out.gs.at (b := o) (t := 46) (c := robC arrS rv 0 0 ⟨#[]⟩) (by simp))
              have o3 : F4.cell? ⟨o, 3, none⟩ = some rv := by rw [hob.cell]; rfl
              have of3 := hob.frozen 3
              have olt := hob.lt
              refine tillH_next (rs := [16]) (by kernel_rfl) (by simp) ?_
              refine NextH.cons rfl (fun K hK => ?_) NextH.nil
              go_simp
              have HA := Lib.hid (HA.out.setO (L1 := [(bb, 33, #[.int .i64 x1, .int .i64 x2, .string x3, .pointer x4]), (ba, 30, #[.int .i64 v1, .int .i64 v2, .string v3]), (b1 + 1, 33, #[.int .i64 x1, .int .i64 x2, .string x3, .pointer x4]), (b1, 30, #[.int .i64 v1, .int .i64 v2, .string v3])]) (L2 := [(w.heap.size, 24, #[.slice (some ⟨g, off, none⟩) pn pc]), (w.heap.size + 1, 30, VZ), (w.heap.size + 1 + 1, 33, RZ)]) (t := 46) (c := robC arrS rv 0 0 ⟨#[]⟩) (c' := robC arrS (.slice (some ⟨gb, 0, none⟩) (C.length + 1) capb) 0 0 ⟨#[]⟩) (((Upd.refl F4 (fun k => k = o)).set _ 3 (.slice (some ⟨gb, 0, none⟩) (C.length + 1) capb) rfl)) (hob.set_ 3 (.slice (some ⟨gb, 0, none⟩) (C.length + 1) capb)))
              refine hK.out _ _ (fun h => absurd h (by simp)) ?_
              clear hK K
              (try simp only [Act.put, List.setIfInBounds_toArray, List.set_cons_zero, List.set_cons_succ])
              clear hob o3 of3 olt
              generalize F4.setCell ⟨o, 3, none⟩ (.slice (some ⟨gb, 0, none⟩) (C.length + 1) capb) = F5 at *
              refine tillH_takeAny (i := 17) (oi := ?oo17) (v := ?vv17) ?hi17 (by kernel_rfl) (by kernel_rfl) (by kernel_rfl) ?hq17 (by kernel_rfl) ?hy17 (fun h => absurd h (by simp)) ?hh17
              case hi17 => (simp only [List.getElem?_toArray, List.getElem?_cons_succ, List.getElem?_cons_zero]; rfl)
              case hq17 => exact fun _ _ _ h => h
              case hy17 => exact Or.inl ⟨by rfl, by (intro W; go_simp; (try with_reducible rfl))⟩
              (try simp only [Act.put, List.setIfInBounds_toArray, List.set_cons_zero, List.set_cons_succ])
              refine tillH_done (by kernel_rfl) ?_ _
              refine HKV.out _ _ ?_
              go_wp2
              go_roundw
              case rel =>
                refine ⟨D, en, cv3, ds3, (.slice (some ⟨gb, 0, none⟩) (C.length + 1) capb), rfl, by rw [HDL.out]; go_num, by rw [HDL.out]; omega, Lib.hid ?_⟩
                rw [HDL.out]
                exact HA.out.sub (.cons _ (.cons _ (.cons _ (.cons _ (List.Sublist.refl _)))))
              case measure => simp [intOf]; omega
          · skip
            go_simp
            have HA := Lib.hid (HA.out.new 33 #[.int .i64 x1, .int .i64 x2, .string x3, .pointer x4] okTyV)
            clear S0
            have S0 : (E1.alloc (.cells #[.int .i64 x1, .int .i64 x2, .string x3, .pointer x4] 33)).cell? ⟨o, 3, none⟩ = some rv ∧ (E1.alloc (.cells #[.int .i64 x1, .int .i64 x2, .string x3, .pointer x4] 33)).cell? ⟨b1, 0, none⟩ = some (.int .i64 v1) ∧ (E1.alloc (.cells #[.int .i64 x1, .int .i64 x2, .string x3, .pointer x4] 33)).cell? ⟨b1, 1, none⟩ = some (.int .i64 v2) ∧ (E1.alloc (.cells #[.int .i64 x1, .int .i64 x2, .string x3, .pointer x4] 33)).cell? ⟨b1, 2, none⟩ = some (.string v3) ∧ (E1.alloc (.cells #[.int .i64 x1, .int .i64 x2, .string x3, .pointer x4] 33)).cell? ⟨b1 + 1, 0, none⟩ = some (.int .i64 x1) ∧ (E1.alloc (.cells #[.int .i64 x1, .int .i64 x2, .string x3, .pointer x4] 33)).cell? ⟨b1 + 1, 1, none⟩ = some (.int .i64 x2) ∧ (E1.alloc (.cells #[.int .i64 x1, .int .i64 x2, .string x3, .pointer x4] 33)).cell? ⟨b1 + 1, 2, none⟩ = some (.string x3) ∧ (E1.alloc (.cells #[.int .i64 x1, .int .i64 x2, .string x3, .pointer x4] 33)).cell? ⟨b1 + 1, 3, none⟩ = some (.pointer x4) := ⟨by rw [(HA.out.gs.at (b := o) (t := 46) (c := robC arrS rv 0 0 ⟨#[]⟩) (by simp)).cell]; rfl, by rw [(HA.out.gs.at (b := b1) (t := 30) (c := #[.int .i64 v1, .int .i64 v2, .string v3]) (by simp)).cell]; rfl, by rw [(HA.out.gs.at (b := b1) (t := 30) (c := #[.int .i64 v1, .int .i64 v2, .string v3]) (by simp)).cell]; rfl, by rw [(HA.out.gs.at (b := b1) (t := 30) (c := #[.int .i64 v1, .int .i64 v2, .string v3]) (by simp)).cell]; rfl, by rw [(HA.out.gs.at (b := b1 + 1) (t := 33) (c := #[.int .i64 x1, .int .i64 x2, .string x3, .pointer x4]) (by simp)).cell]; rfl, by rw [(HA.out.gs.at (b := b1 + 1) (t := 33) (c := #[.int .i64 x1, .int .i64 x2, .string x3, .pointer x4]) (by simp)).cell]; rfl, by rw [(HA.out.gs.at (b := b1 + 1) (t := 33) (c := #[.int .i64 x1, .int .i64 x2, .string x3, .pointer x4]) (by simp)).cell]; rfl, by rw [(HA.out.gs.at (b := b1 + 1) (t := 33) (c := #[.int .i64 x1, .int .i64 x2, .string x3, .pointer x4]) (by simp)).cell]; rfl⟩
            refine hK.out _ _ (fun _ => S0) ?_
            clear hK K
            (try simp only [Act.put, List.setIfInBounds_toArray, List.set_cons_zero, List.set_cons_succ])
            generalize E1.alloc (.cells #[.int .i64 x1, .int .i64 x2, .string x3, .pointer x4] 33) = F1 at *
            generalize E1.heap.size = bb at *
            refine tillH_next (rs := [3]) (by kernel_rfl) (by simp) ?_
            refine NextH.cons rfl (fun K hK => ?_) NextH.nil
            go_simp
            have HA := Lib.hid (HA.out.new 30 #[.int .i64 v1, .int .i64 v2, .string v3] okTyVal)
            clear S0
            have S0 : (F1.alloc (.cells #[.int .i64 v1, .int .i64 v2, .string v3] 30)).cell? ⟨o, 3, none⟩ = some rv ∧ (F1.alloc (.cells #[.int .i64 v1, .int .i64 v2, .string v3] 30)).cell? ⟨b1, 0, none⟩ = some (.int .i64 v1) ∧ (F1.alloc (.cells #[.int .i64 v1, .int .i64 v2, .string v3] 30)).cell? ⟨b1, 1, none⟩ = some (.int .i64 v2) ∧ (F1.alloc (.cells #[.int .i64 v1, .int .i64 v2, .string v3] 30)).cell? ⟨b1, 2, none⟩ = some (.string v3) ∧ (F1.alloc (.cells #[.int .i64 v1, .int .i64 v2, .string v3] 30)).cell? ⟨b1 + 1, 0, none⟩ = some (.int .i64 x1) ∧ (F1.alloc (.cells #[.int .i64 v1, .int .i64 v2, .string v3] 30)).cell? ⟨b1 + 1, 1, none⟩ = some (.int .i64 x2) ∧ (F1.alloc (.cells #[.int .i64 v1, .int .i64 v2, .string v3] 30)).cell? ⟨b1 + 1, 2, none⟩ = some (.string x3) ∧ (F1.alloc (.cells #[.int .i64 v1, .int .i64 v2, .string v3] 30)).cell? ⟨b1 + 1, 3, none⟩ = some (.pointer x4) := ⟨by rw [(HA.out.gs.at (b := o) (t := 46) (c := robC arrS rv 0 0 ⟨#[]⟩) (by simp)).cell]; rfl, by rw [(HA.out.gs.at (b := b1) (t := 30) (c := #[.int .i64 v1, .int .i64 v2, .string v3]) (by simp)).cell]; rfl, by rw [(HA.out.gs.at (b := b1) (t := 30) (c := #[.int .i64 v1, .int .i64 v2, .string v3]) (by simp)).cell]; rfl, by rw [(HA.out.gs.at (b := b1) (t := 30) (c := #[.int .i64 v1, .int .i64 v2, .string v3]) (by simp)).cell]; rfl, by rw [(HA.out.gs.at (b := b1 + 1) (t := 33) (c := #[.int .i64 x1, .int .i64 x2, .string x3, .pointer x4]) (by simp)).cell]; rfl, by rw [(HA.out.gs.at (b := b1 + 1) (t := 33) (c := #[.int .i64 x1, .int .i64 x2, .string x3, .pointer x4]) (by simp)).cell]; rfl, by rw [(HA.out.gs.at (b := b1 + 1) (t := 33) (c := #[.int .i64 x1, .int .i64 x2, .string x3, .pointer x4]) (by simp)).cell]; rfl, by rw [(HA.out.gs.at (b := b1 + 1) (t := 33) (c := #[.int .i64 x1, .int .i64 x2, .string x3, .pointer x4]) (by simp)).cell]; rfl⟩
            refine hK.out _ _ (fun _ => S0) ?_
            clear hK K
            (try simp only [Act.put, List.setIfInBounds_toArray, List.set_cons_zero, List.set_cons_succ])
            generalize F1.alloc (.cells #[.int .i64 v1, .int .i64 v2, .string v3] 30) = F2 at *
            generalize F1.heap.size = ba at *
            refine tillH_next (rs := [4]) (by kernel_rfl) (by simp) ?_
            refine NextH.cons rfl (fun K hK => ?_) NextH.nil
            obtain ⟨i0, hi, hz0, hz1, hz2⟩ := HIV.out
            have hrow := HA.out.ar
            have hnw := Blk.news (HA.out.gs.at (b := ba) (t := 30) (c := #[.int .i64 v1, .int .i64 v2, .string v3]) (by simp))
            have hbs := HA.out.gs.up.size
            refine step_append_lies _ (by rfl) _ _ _ (by rfl) w.heap.size 30 i0 _ 3 32 Tryz.underlying39 hi hz0 hz1 hz2 rfl (by decide) _ _ _ (by rfl) hrow ⟨ba, 0, none⟩ 1 1 [.int .i64 v1, .int .i64 v2, .string v3] (by rfl) (by rfl) hnw (by simp [Value.oneCell']) (by decide) (by unfold maxLen; omega) (by omega) hbs _ rfl ?_
            intro ga capa F3 hown hgrow hat hl
            have HA := Lib.hid (HA.out.appA HX.out hown hgrow hat)
            clear hi hz0 hz1 hz2 i0 hrow hnw hbs hown hgrow hat hl
            clear S0
            have S0 : F3.cell? ⟨o, 3, none⟩ = some rv ∧ F3.cell? ⟨b1, 0, none⟩ = some (.int .i64 v1) ∧ F3.cell? ⟨b1, 1, none⟩ = some (.int .i64 v2) ∧ F3.cell? ⟨b1, 2, none⟩ = some (.string v3) ∧ F3.cell? ⟨b1 + 1, 0, none⟩ = some (.int .i64 x1) ∧ F3.cell? ⟨b1 + 1, 1, none⟩ = some (.int .i64 x2) ∧ F3.cell? ⟨b1 + 1, 2, none⟩ = some (.string x3) ∧ F3.cell? ⟨b1 + 1, 3, none⟩ = some (.pointer x4) := ⟨by rw [(HA.out.gs.at (b := o) (t := 46) (c := robC arrS rv 0 0 ⟨#[]⟩) (by simp)).cell]; rfl, by rw [(HA.out.gs.at (b := b1) (t := 30) (c := #[.int .i64 v1, .int .i64 v2, .string v3]) (by simp)).cell]; rfl, by rw [(HA.out.gs.at (b := b1) (t := 30) (c := #[.int .i64 v1, .int .i64 v2, .string v3]) (by simp)).cell]; rfl, by rw [(HA.out.gs.at (b := b1) (t := 30) (c := #[.int .i64 v1, .int .i64 v2, .string v3]) (by simp)).cell]; rfl, by rw [(HA.out.gs.at (b := b1 + 1) (t := 33) (c := #[.int .i64 x1, .int .i64 x2, .string x3, .pointer x4]) (by simp)).cell]; rfl, by rw [(HA.out.gs.at (b := b1 + 1) (t := 33) (c := #[.int .i64 x1, .int .i64 x2, .string x3, .pointer x4]) (by simp)).cell]; rfl, by rw [(HA.out.gs.at (b := b1 + 1) (t := 33) (c := #[.int .i64 x1, .int .i64 x2, .string x3, .pointer x4]) (by simp)).cell]; rfl, by rw [(HA.out.gs.at (b := b1 + 1) (t := 33) (c := #[.int .i64 x1, .int .i64 x2, .string x3, .pointer x4]) (by simp)).cell]; rfl⟩
            refine hK.out _ _ (fun _ => S0) ?_
            clear hK K
            (try simp only [Act.put, List.setIfInBounds_toArray, List.set_cons_zero, List.set_cons_succ])
            refine tillH_next (rs := [11]) (by kernel_rfl) (by simp) ?_
            refine NextH.cons rfl (fun K hK => ?_) NextH.nil
            obtain ⟨i0, hi, hz0, hz1, hz2⟩ := HIR.out
            have hrow := HA.out.rr
            have hnw := Blk.news (HA.out.gs.at (b := bb) (t := 33) (c := #[.int .i64 x1, .int .i64 x2, .string x3, .pointer x4]) (by simp))
            have hbs := HA.out.gs.up.size
            refine step_append_lies _ (by rfl) _ _ _ (by rfl) w.heap.size 33 i0 _ 4 40 Tryz.underlying40 hi hz0 hz1 hz2 rfl (by decide) _ _ _ (by rfl) hrow ⟨bb, 0, none⟩ 1 1 [.int .i64 x1, .int .i64 x2, .string x3, .pointer x4] (by rfl) (by rfl) hnw (by simp [Value.oneCell']) (by decide) (by unfold maxLen; omega) (by omega) hbs _ rfl ?_
            intro gb capb F4 hown hgrow hat hl
            have HA := Lib.hid (HA.out.appB HX.out hown hgrow hat)
            clear hi hz0 hz1 hz2 i0 hrow hnw hbs hown hgrow hat hl
            refine hK.out _ _ (fun h => absurd h (by simp)) ?_
            clear hK K
            (try simp only [Act.put, List.setIfInBounds_toArray, List.set_cons_zero, List.set_cons_succ])
            refine tillH_takeAny (i := 13) (oi := ?oo18) (v := ?vv18) ?hi18 (by kernel_rfl) (by kernel_rfl) (by kernel_rfl) ?hq18 (by kernel_rfl) ?hy18 (fun h => absurd h (by simp)) ?hh18
            case hi18 => (simp only [List.getElem?_toArray, List.getElem?_cons_succ, List.getElem?_cons_zero]; rfl)
            case hq18 => exact fun _ _ _ h => h
            case hy18 => exact Or.inl ⟨by rfl, by (intro W; go_simp; (try with_reducible rfl))⟩
            (try simp only [Act.put, List.setIfInBounds_toArray, List.set_cons_zero, List.set_cons_succ])
            refine tillH_takeAny (i := 14) (oi := ?oo19) (v := ?vv19) ?hi19 (by kernel_rfl) (by kernel_rfl) (by kernel_rfl) ?hq19 (by kernel_rfl) ?hy19 (fun h => absurd h (by simp)) ?hh19
            case hi19 => (simp only [List.getElem?_toArray, List.getElem?_cons_succ, List.getElem?_cons_zero]; rfl)
            case hq19 => exact fun _ _ _ h => h
            case hy19 => exact Or.inl ⟨by rfl, by (intro W; go_simp; (try with_reducible rfl))⟩
            (try simp only [Act.put, List.setIfInBounds_toArray, List.set_cons_zero, List.set_cons_succ])
            refine tillH_takeAny (i := 15) (oi := ?oo20) (v := ?vv20) ?hi20 (by kernel_rfl) (by kernel_rfl) (by kernel_rfl) ?hq20 (by kernel_rfl) ?hy20 (fun h => absurd h (by simp)) ?hh20
            case hi20 => (simp only [List.getElem?_toArray, List.getElem?_cons_succ, List.getElem?_cons_zero]; rfl)
            case hq20 => exact fun _ _ _ h => h
            case hy20 => exact Or.inl ⟨by rfl, by (intro W; go_simp; (try with_reducible rfl))⟩
            (try simp only [Act.put, List.setIfInBounds_toArray, List.set_cons_zero, List.set_cons_succ])
            have hob := (HA.out.gs.at (b := o) (t := 46) (c := robC arrS rv 0 0 ⟨#[]⟩) (by simp))
            have o3 : F4.cell? ⟨o, 3, none⟩ = some rv := by rw [hob.cell]; rfl
            have of3 := hob.frozen 3
            have olt := hob.lt
            refine tillH_next (rs := [16]) (by kernel_rfl) (by simp) ?_
            refine NextH.cons rfl (fun K hK => ?_) NextH.nil
            go_simp
            have HA := Lib.hid (HA.out.setO (L1 := [(ba, 30, #[.int .i64 v1, .int .i64 v2, .string v3]), (bb, 33, #[.int .i64 x1, .int .i64 x2, .string x3, .pointer x4]), (b1 + 1, 33, #[.int .i64 x1, .int .i64 x2, .string x3, .pointer x4]), (b1, 30, #[.int .i64 v1, .int .i64 v2, .string v3])]) (L2 := [(w.heap.size, 24, #[.slice (some ⟨g, off, none⟩) pn pc]), (w.heap.size + 1, 30, VZ), (w.heap.size + 1 + 1, 33, RZ)]) (t := 46) (c := robC arrS rv 0 0 ⟨#[]⟩) (c' := robC arrS (.slice (some ⟨gb, 0, none⟩) (C.length + 1) capb) 0 0 ⟨#[]⟩) (((Upd.refl F4 (fun k => k = o)).set _ 3 (.slice (some ⟨gb, 0, none⟩) (C.length + 1) capb) rfl)) (hob.set_ 3 (.slice (some ⟨gb, 0, none⟩) (C.length + 1) capb)))
            refine hK.out _ _ (fun h => absurd h (by simp)) ?_
            clear hK K
            (try simp only [Act.put, List.setIfInBounds_toArray, List.set_cons_zero, List.set_cons_succ])
            clear hob o3 of3 olt
            generalize F4.setCell ⟨o, 3, none⟩ (.slice (some ⟨gb, 0, none⟩) (C.length + 1) capb) = F5 at *
            refine tillH_takeAny (i := 17) (oi := ?oo21) (v := ?vv21) ?hi21 (by kernel_rfl) (by kernel_rfl) (by kernel_rfl) ?hq21 (by kernel_rfl) ?hy21 (fun h => absurd h (by simp)) ?hh21
            case hi21 => (simp only [List.getElem?_toArray, List.getElem?_cons_succ, List.getElem?_cons_zero]; rfl)
            case hq21 => exact fun _ _ _ h => h
            case hy21 => exact Or.inl ⟨by rfl, by (intro W; go_simp; (try with_reducible rfl))⟩
            (try simp only [Act.put, List.setIfInBounds_toArray, List.set_cons_zero, List.set_cons_succ])
            refine tillH_done (by kernel_rfl) ?_ _
            refine HKV.out _ _ ?_
            go_wp2
            go_roundw
            case rel =>
              refine ⟨D, en, cv3, ds3, (.slice (some ⟨gb, 0, none⟩) (C.length + 1) capb), rfl, by rw [HDL.out]; go_num, by rw [HDL.out]; omega, Lib.hid ?_⟩
              rw [HDL.out]
              exact HA.out.sub (.cons _ (.cons _ (.cons _ (.cons _ (List.Sublist.refl _)))))
            case measure => simp [intOf]; omega
        · have ta : decide ((atc : Int) ≥ (pn : Int)) = true := by rw [decide_eq_true_eq]; omega
          obtain ⟨a1, cap1, rfl, _⟩ := row_cells HA.out.ar
          go_upto_region 29 with fail
          go_wp2_with (fail)
          refine (HA.out.gs.ms.array2 a1 C.length cap1 (by have := HA.out.dl; have := HA.out.le; have := HP.out.1.1; rw [List.length_append]; omega) (Nat.le_trans HA.out.gs.ms.low.2.2.1 HA.out.gs.ms.low.2.2.2)).mono ?_
          rintro e W1 ⟨b, T, cv3, rfl, hM3, hB3, hT, hTb, hK3, hb3, hU3, hO3⟩
          obtain ⟨r, hr⟩ : ∃ r : Int, (((cs ++ ds).length + 1 : Nat) : Int) = r := ⟨_, rfl⟩
          rw [hr]
          have HR := Lib.hid hr
          clear hr
          have B8 := kp_upd HA.out.gs.ms hU3 (HA.out.gs.at (b := w.heap.size + 1) (t := 30) (c := VZ) (by simp)) (by decide) (by decide)
          have B9 := kp_upd HA.out.gs.ms hU3 (HA.out.gs.at (b := w.heap.size + 1 + 1) (t := 33) (c := RZ) (by simp)) (by decide) (by decide)
          have v0 : W1.cell? ⟨w.heap.size + 1, 0, none⟩ = some (.int .i64 0) := by rw [B8.cell]; rfl
          have vf0 : W1.frozen? ⟨w.heap.size + 1, 0, none⟩ = false := B8.frozen 0
          have v1 : W1.cell? ⟨w.heap.size + 1, 1, none⟩ = some (.int .i64 0) := by rw [B8.cell]; rfl
          have vf1 : W1.frozen? ⟨w.heap.size + 1, 1, none⟩ = false := B8.frozen 1
          have v2 : W1.cell? ⟨w.heap.size + 1, 2, none⟩ = some (.string ⟨#[]⟩) := by rw [B8.cell]; rfl
          have vf2 : W1.frozen? ⟨w.heap.size + 1, 2, none⟩ = false := B8.frozen 2
          have r0 : W1.cell? ⟨w.heap.size + 1 + 1, 0, none⟩ = some (.int .i64 0) := by rw [B9.cell]; rfl
          have rf0 : W1.frozen? ⟨w.heap.size + 1 + 1, 0, none⟩ = false := B9.frozen 0
          have r1 : W1.cell? ⟨w.heap.size + 1 + 1, 1, none⟩ = some (.int .i64 0) := by rw [B9.cell]; rfl
          have rf1 : W1.frozen? ⟨w.heap.size + 1 + 1, 1, none⟩ = false := B9.frozen 1
          have r2 : W1.cell? ⟨w.heap.size + 1 + 1, 2, none⟩ = some (.string ⟨#[]⟩) := by rw [B9.cell]; rfl
          have rf2 : W1.frozen? ⟨w.heap.size + 1 + 1, 2, none⟩ = false := B9.frozen 2
          have r3 : W1.cell? ⟨w.heap.size + 1 + 1, 3, none⟩ = some (nilP) := by rw [B9.cell]; rfl
          have rf3 : W1.frozen? ⟨w.heap.size + 1 + 1, 3, none⟩ = false := B9.frozen 3
          have vl := B8.lt
          have rl := B9.lt
          have HZ := Lib.hid (And.intro hM3 (And.intro hB3 (And.intro hT (And.intro hTb (And.intro hU3 hO3)))))
          clear hM3 hB3 hT hTb hK3 hb3 hU3 hO3 B8 B9
          go_wp2
          refine bodyPost_ret (v := .tuple #[VS 9 r ⟨#[]⟩, VR 9 0 ⟨#[]⟩ (.pointer (some ⟨o, 0, none⟩)), .int .i64 (atc : Int)]) (by simp [results, Tryz.results8, go_sem, v0, v1, v2, r0, r1, r2, r3, vl, rl]) rfl ?_
          refine ⟨(9, r, ⟨#[]⟩), (9, 0, ⟨#[]⟩, .pointer (some ⟨o, 0, none⟩)), atc, arT (C.map (·.1)), rfl, ?_⟩
          have hu := upd34 W1 (w.heap.size + 1) (w.heap.size + 1 + 1) (.int .i64 9) (.int .i64 r) (.string ⟨#[]⟩) (.int .i64 9) (.int .i64 0) (.string ⟨#[]⟩) (.pointer (some ⟨o, 0, none⟩))
          have h8 : ∃ c, (w.heap.size + 1, 30, c) ∈ [(o, 46, robC arrS rv 0 0 ⟨#[]⟩), (w.heap.size, 24, #[.slice (some ⟨g, off, none⟩) pn pc]), (w.heap.size + 1, 30, VZ), (w.heap.size + 1 + 1, 33, RZ)] := ⟨VZ, by simp⟩
          have h9 : ∃ c, (w.heap.size + 1 + 1, 33, c) ∈ [(o, 46, robC arrS rv 0 0 ⟨#[]⟩), (w.heap.size, 24, #[.slice (some ⟨g, off, none⟩) pn pc]), (w.heap.size + 1, 30, VZ), (w.heap.size + 1 + 1, 33, RZ)] := ⟨RZ, by simp⟩
          have ho : (o, 46, robC arrS rv 0 0 ⟨#[]⟩) ∈ [(o, 46, robC arrS rv 0 0 ⟨#[]⟩), (w.heap.size, 24, #[.slice (some ⟨g, off, none⟩) pn pc]), (w.heap.size + 1, 30, VZ), (w.heap.size + 1 + 1, 33, RZ)] := by simp
          have hF := HA.out.fin ho HZ.out.1 HZ.out.2.1 HZ.out.2.2.1 HZ.out.2.2.2.1 HZ.out.2.2.2.2.1 HZ.out.2.2.2.2.2 hu h8 h9
          rw [HR.out] at hF
          exact hF
    · have tj : decide ((C.length : Int) < (j : Int)) = false := by rw [decide_eq_false_iff_not]; omega
      obtain ⟨a1, cap1, rfl, _⟩ := row_cells HA.out.ar
      go_upto_region 29 with fail
      go_wp2_with (fail)
      refine (HA.out.gs.ms.array2 a1 C.length cap1 (by have := HA.out.dl; have := HA.out.le; have := HP.out.1.1; rw [List.length_append]; omega) (Nat.le_trans HA.out.gs.ms.low.2.2.1 HA.out.gs.ms.low.2.2.2)).mono ?_
      rintro e W1 ⟨b, T, cv3, rfl, hM3, hB3, hT, hTb, hK3, hb3, hU3, hO3⟩
      obtain ⟨r, hr⟩ : ∃ r : Int, (((cs ++ ds).length + 1 : Nat) : Int) = r := ⟨_, rfl⟩
      rw [hr]
      have HR := Lib.hid hr
      clear hr
      have B8 := kp_upd HA.out.gs.ms hU3 (HA.out.gs.at (b := w.heap.size + 1) (t := 30) (c := VZ) (by simp)) (by decide) (by decide)
      have B9 := kp_upd HA.out.gs.ms hU3 (HA.out.gs.at (b := w.heap.size + 1 + 1) (t := 33) (c := RZ) (by simp)) (by decide) (by decide)
      have v0 : W1.cell? ⟨w.heap.size + 1, 0, none⟩ = some (.int .i64 0) := by rw [B8.cell]; rfl
      have vf0 : W1.frozen? ⟨w.heap.size + 1, 0, none⟩ = false := B8.frozen 0
      have v1 : W1.cell? ⟨w.heap.size + 1, 1, none⟩ = some (.int .i64 0) := by rw [B8.cell]; rfl
      have vf1 : W1.frozen? ⟨w.heap.size + 1, 1, none⟩ = false := B8.frozen 1
      have v2 : W1.cell? ⟨w.heap.size + 1, 2, none⟩ = some (.string ⟨#[]⟩) := by rw [B8.cell]; rfl
      have vf2 : W1.frozen? ⟨w.heap.size + 1, 2, none⟩ = false := B8.frozen 2
      have r0 : W1.cell? ⟨w.heap.size + 1 + 1, 0, none⟩ = some (.int .i64 0) := by rw [B9.cell]; rfl
      have rf0 : W1.frozen? ⟨w.heap.size + 1 + 1, 0, none⟩ = false := B9.frozen 0
      have r1 : W1.cell? ⟨w.heap.size + 1 + 1, 1, none⟩ = some (.int .i64 0) := by rw [B9.cell]; rfl
      have rf1 : W1.frozen? ⟨w.heap.size + 1 + 1, 1, none⟩ = false := B9.frozen 1
      have r2 : W1.cell? ⟨w.heap.size + 1 + 1, 2, none⟩ = some (.string ⟨#[]⟩) := by rw [B9.cell]; rfl
      have rf2 : W1.frozen? ⟨w.heap.size + 1 + 1, 2, none⟩ = false := B9.frozen 2
      have r3 : W1.cell? ⟨w.heap.size + 1 + 1, 3, none⟩ = some (nilP) := by rw [B9.cell]; rfl
      have rf3 : W1.frozen? ⟨w.heap.size + 1 + 1, 3, none⟩ = false := B9.frozen 3
      have vl := B8.lt
      have rl := B9.lt
      have HZ := Lib.hid (And.intro hM3 (And.intro hB3 (And.intro hT (And.intro hTb (And.intro hU3 hO3)))))
      clear hM3 hB3 hT hTb hK3 hb3 hU3 hO3 B8 B9
      go_wp2
      refine bodyPost_ret (v := .tuple #[VS 9 r ⟨#[]⟩, VR 9 0 ⟨#[]⟩ (.pointer (some ⟨o, 0, none⟩)), .int .i64 (atc : Int)]) (by simp [results, Tryz.results8, go_sem, v0, v1, v2, r0, r1, r2, r3, vl, rl]) rfl ?_
      refine ⟨(9, r, ⟨#[]⟩), (9, 0, ⟨#[]⟩, .pointer (some ⟨o, 0, none⟩)), atc, arT (C.map (·.1)), rfl, ?_⟩
      have hu := upd34 W1 (w.heap.size + 1) (w.heap.size + 1 + 1) (.int .i64 9) (.int .i64 r) (.string ⟨#[]⟩) (.int .i64 9) (.int .i64 0) (.string ⟨#[]⟩) (.pointer (some ⟨o, 0, none⟩))
      have h8 : ∃ c, (w.heap.size + 1, 30, c) ∈ [(o, 46, robC arrS rv 0 0 ⟨#[]⟩), (w.heap.size, 24, #[.slice (some ⟨g, off, none⟩) pn pc]), (w.heap.size + 1, 30, VZ), (w.heap.size + 1 + 1, 33, RZ)] := ⟨VZ, by simp⟩
      have h9 : ∃ c, (w.heap.size + 1 + 1, 33, c) ∈ [(o, 46, robC arrS rv 0 0 ⟨#[]⟩), (w.heap.size, 24, #[.slice (some ⟨g, off, none⟩) pn pc]), (w.heap.size + 1, 30, VZ), (w.heap.size + 1 + 1, 33, RZ)] := ⟨RZ, by simp⟩
      have ho : (o, 46, robC arrS rv 0 0 ⟨#[]⟩) ∈ [(o, 46, robC arrS rv 0 0 ⟨#[]⟩), (w.heap.size, 24, #[.slice (some ⟨g, off, none⟩) pn pc]), (w.heap.size + 1, 30, VZ), (w.heap.size + 1 + 1, 33, RZ)] := by simp
      have hF := HA.out.fin ho HZ.out.1 HZ.out.2.1 HZ.out.2.2.1 HZ.out.2.2.2.1 HZ.out.2.2.2.2.1 HZ.out.2.2.2.2.2 hu h8 h9
      rw [HR.out] at hF
      exact hF
end Go.Proofs.YtdeboajjhpecbaaGreatDoor.Hp
