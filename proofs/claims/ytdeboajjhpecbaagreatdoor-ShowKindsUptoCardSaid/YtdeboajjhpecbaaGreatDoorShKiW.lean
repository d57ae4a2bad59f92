/- Show: the walk of ShowKinds. -/
import Derived.Test.YtdeboajjhpecbaaGreatDoorShKiS
import Derived.Test.YtdeboajjhpecbaaGreatDoorOrdC
set_option linter.unusedVariables false
set_option linter.unusedSimpArgs false
namespace Go.Proofs.YtdeboajjhpecbaaGreatDoor.Hp
open Go.RowKit Go.Proofs.YtdeboajjhpecbaaGreatDoor Go.Shelf
set_option maxRecDepth 100000 in
set_option maxHeartbeats 8000000 in
theorem kinds_walk {P P' : List PartV} {pn pc pn' pc' : Nat} {pa pa' : Option Addr} {w : World} (hP : PlanR w pa pn P) (hP' : PlanR w pa' pn' P') (hlen : ∀ p ∈ P, p.len ≤ 4194304) (hlen' : ∀ p ∈ P', p.len ≤ 4194304) (hpn : pn ≤ 4194304) (hpn' : pn' ≤ 4194304) (hT : Tbs w) (hF : Fb w) : Calls Tryz.prog 4 #[.agg #[.slice pa pn pc], .agg #[.slice pa' pn' pc']] w (Ret (.bool true) w) := by
  have HP := Lib.hid (And.intro hP (And.intro hlen (And.intro hT hF)))
  have HP' := Lib.hid (And.intro hP' hlen')
  clear hP hlen hT hF hP' hlen'
  go_enter Tryz.func4, Tryz.ntmps4
  go_wp2_with (fail)
  have b0 : Below w.heap.size w ((w.alloc (.cells #[.slice pa pn pc] 24)).alloc (.cells #[.slice pa' pn' pc'] 24)) := ((Below.refl w.heap.size w).alloc (Nat.le_refl _) _).alloc (by rw [World.size_alloc]; omega) _
  have h1 : Blk ((w.alloc (.cells #[.slice pa pn pc] 24)).alloc (.cells #[.slice pa' pn' pc'] 24)) w.heap.size 24 #[.slice pa pn pc] := (Blk.new w _ _).alloc _
  have h2 : Blk ((w.alloc (.cells #[.slice pa pn pc] 24)).alloc (.cells #[.slice pa' pn' pc'] 24)) (w.heap.size + 1) 24 #[.slice pa' pn' pc'] := by
    have := Blk.new (w.alloc (.cells #[.slice pa pn pc] 24)) 24 #[.slice pa' pn' pc']
    rwa [World.size_alloc] at this
  have HB := Lib.hid (And.intro b0 (And.intro h1 h2))
  clear b0 h1 h2
  generalize (w.alloc (.cells #[.slice pa pn pc] 24)).alloc (.cells #[.slice pa' pn' pc'] 24) = wa at *
  have step : ∀ {wx wy : World}, (Below w.heap.size w wx ∧ Blk wx w.heap.size 24 #[.slice pa pn pc] ∧ Blk wx (w.heap.size + 1) 24 #[.slice pa' pn' pc']) → Below wx.heap.size wx wy → (Below w.heap.size w wy ∧ Blk wy w.heap.size 24 #[.slice pa pn pc] ∧ Blk wy (w.heap.size + 1) 24 #[.slice pa' pn' pc']) := fun h b => ⟨h.1.trans (b.mono h.1.size), h.2.1.below b h.2.1.lt, h.2.2.below b h.2.2.lt⟩
  refine (fit_any _ (HP.out.2.2.1.below HB.out.1).1).mono ?_
  rintro e wb ⟨rfl, b1⟩
  have HB := Lib.hid (step HB.out b1)
  clear b1
  have q0 : wb.cell? ⟨w.heap.size, 0, none⟩ = some (.slice pa pn pc) := by rw [HB.out.2.1.cell]; rfl
  go_wp2_with (fail)
  refine (light_any (HP.out.1.below HB.out.1) HP.out.2.1 hpn).mono ?_
  rintro e wc ⟨bl, rfl, b2, hl⟩
  have HB := Lib.hid (step HB.out b2)
  clear b2 q0
  cases bl
  · go_wp2
    go_ret
    exact ⟨rfl, HB.out.1⟩
  have HQ := Lib.hid (hl rfl)
  clear hl
  have q1 : wc.cell? ⟨w.heap.size + 1, 0, none⟩ = some (.slice pa' pn' pc') := by rw [HB.out.2.2.cell]; rfl
  go_wp2_with (fail)
  refine (light_any (HP'.out.1.below HB.out.1) HP'.out.2 hpn').mono ?_
  rintro e wd ⟨bl, rfl, b2, hl⟩
  have HB := Lib.hid (step HB.out b2)
  clear b2 q1
  cases bl
  · go_wp2
    go_ret
    exact ⟨rfl, HB.out.1⟩
  have HQ' := Lib.hid (hl rfl)
  clear hl
  go_wp2_with (fail)
  refine (machine_any _).mono ?_
  rintro e w1 ⟨m, H, A, B, cv, cs, ps, rfl, hM, hc, b3⟩
  have HB1 := Lib.hid (step HB.out b3)
  have q0 : w1.cell? ⟨w.heap.size, 0, none⟩ = some (.slice pa pn pc) := by rw [HB1.out.2.1.cell]; rfl
  have hN : wd.heap.size ≤ w1.heap.size := b3.size
  have HG := Lib.hid (grow_all (pc := pc) (HP.out.1.below HB.out.1) (Nat.le_refl _) (by have := HQ.out; have := HP.out.1.1; omega) (fun p hp => by have := len_le_suP P p hp; have := HQ.out; omega) 7 0 rfl (by omega) cv cs w1 0 hM b3 (by have := HQ.out; have := HP.out.1.1; omega))
  have HM := Lib.hid (And.intro hM (And.intro hc b3))
  clear hM hc b3
  go_wp2_with (fail)
  refine HG.out.mono ?_
  rintro e w2 ⟨⟨v1, v2, v3⟩, ⟨x1, x2, x3, y4⟩, en, t, rfl, hg⟩
  obtain ⟨x4, h4⟩ := hg.rf.ptr
  dsimp only at h4
  subst h4
  clear HG q0
  have hbw : Below wd.heap.size w1 w2 := hg.up.below hN (fun k hk => hk.elim (fun e => e ▸ HM.out.1.low.2.1) (fun e => HM.out.1.own k e))
  obtain ⟨⟨cv2, ds, hM2, hds, hO, hli⟩, hlr, hok, hle, hun, hup⟩ := hg
  have bx : Below w2.heap.size w2 ((w2.alloc (.cells #[.int .i64 v1, .int .i64 v2, .string v3] 30)).alloc (.cells #[.int .i64 x1, .int .i64 x2, .string x3, .pointer x4] 33)) := ((Below.refl _ _).alloc (Nat.le_refl _) _).alloc (by rw [World.size_alloc]; omega) _
  have bv : Blk ((w2.alloc (.cells #[.int .i64 v1, .int .i64 v2, .string v3] 30)).alloc (.cells #[.int .i64 x1, .int .i64 x2, .string x3, .pointer x4] 33)) w2.heap.size 30 #[.int .i64 v1, .int .i64 v2, .string v3] := (Blk.new w2 _ _).alloc _
  have br : Blk ((w2.alloc (.cells #[.int .i64 v1, .int .i64 v2, .string v3] 30)).alloc (.cells #[.int .i64 x1, .int .i64 x2, .string x3, .pointer x4] 33)) (w2.heap.size + 1) 33 #[.int .i64 x1, .int .i64 x2, .string x3, .pointer x4] := by
    have := Blk.new (w2.alloc (.cells #[.int .i64 v1, .int .i64 v2, .string v3] 30)) 33 #[.int .i64 x1, .int .i64 x2, .string x3, .pointer x4]
    rwa [World.size_alloc] at this
  go_upto_region 7 with fail
  generalize (w2.alloc (.cells #[.int .i64 v1, .int .i64 v2, .string v3] 30)).alloc (.cells #[.int .i64 x1, .int .i64 x2, .string x3, .pointer x4] 33) = W1 at *
  have hcl : (cs ++ ds).length ≤ 521 := by have := HM.out.2.1; have := HQ.out; have := HP.out.1.1; rw [List.length_append]; omega
  have hVb : Vb W1 (cs ++ ds) w2.heap.size (w2.heap.size + 1) (v1, v2, v3) (x1, x2, x3, .pointer x4) t :=
    ⟨hli.stay (fun _ _ e => (e : False).elim) (fun g t c hb _ _ => hb.below bx hb.lt), hlr.keep (fun _ _ e => (e : False).elim) (KpR.of_below bx), hok, by have := HQ.out; omega, bv, br⟩
  have hdW : Below wd.heap.size wd W1 := (HM.out.2.2.trans hbw).trans (bx.mono (Nat.le_trans hN hbw.size))
  have HB2 := Lib.hid (step HB.out hdW)
  have q1 : W1.cell? ⟨w.heap.size + 1, 0, none⟩ = some (.slice pa' pn' pc') := by rw [HB2.out.2.2.cell]; rfl
  have hMW : Ms wd.heap.size W1 m H A B cv2 (cs ++ ds) ps := hM2.below bx
  have HV := Lib.hid (And.intro hVb (And.intro hdW (And.intro hMW hcl)))
  have HG := Lib.hid (grow_all (pc := pc') (HP'.out.1.below HB.out.1) (Nat.le_refl _) (by have := HQ'.out; have := HP'.out.1.1; omega) (fun p hp => by have := len_le_suP P' p hp; have := HQ'.out; omega) 7 0 rfl (by omega) cv2 (cs ++ ds) W1 0 hMW hdW (by have := HQ'.out; have := HP'.out.1.1; omega))
  obtain ⟨Z, hZ⟩ : ∃ z, w2.heap.size = z := ⟨_, rfl⟩
  rw [hZ] at HV ⊢
  clear hM2 hds hO hli hlr hok hle hun hup bx bv br hVb hdW hMW hcl hbw hN HM HB1 HQ hZ
  clear w1 w2
  go_wp2_with (fail)
  refine HG.out.mono ?_
  rintro e w3 ⟨⟨a1, a2, a3⟩, ⟨y1, y2, y3, u4⟩, en', t', rfl, hg⟩
  obtain ⟨y4, h4⟩ := hg.rf.ptr
  dsimp only at h4
  subst h4
  clear HG q1
  obtain ⟨⟨cv3, ds', hM3, hds, hO, hli⟩, hlr, hok, hle, hun, hup⟩ := hg
  have bx : Below w3.heap.size w3 ((w3.alloc (.cells #[.int .i64 a1, .int .i64 a2, .string a3] 30)).alloc (.cells #[.int .i64 y1, .int .i64 y2, .string y3, .pointer y4] 33)) := ((Below.refl _ _).alloc (Nat.le_refl _) _).alloc (by rw [World.size_alloc]; omega) _
  have bv : Blk ((w3.alloc (.cells #[.int .i64 a1, .int .i64 a2, .string a3] 30)).alloc (.cells #[.int .i64 y1, .int .i64 y2, .string y3, .pointer y4] 33)) w3.heap.size 30 #[.int .i64 a1, .int .i64 a2, .string a3] := (Blk.new w3 _ _).alloc _
  have br : Blk ((w3.alloc (.cells #[.int .i64 a1, .int .i64 a2, .string a3] 30)).alloc (.cells #[.int .i64 y1, .int .i64 y2, .string y3, .pointer y4] 33)) (w3.heap.size + 1) 33 #[.int .i64 y1, .int .i64 y2, .string y3, .pointer y4] := by
    have := Blk.new (w3.alloc (.cells #[.int .i64 a1, .int .i64 a2, .string a3] 30)) 33 #[.int .i64 y1, .int .i64 y2, .string y3, .pointer y4]
    rwa [World.size_alloc] at this
  go_upto_region 8 with fail
  generalize (w3.alloc (.cells #[.int .i64 a1, .int .i64 a2, .string a3] 30)).alloc (.cells #[.int .i64 y1, .int .i64 y2, .string y3, .pointer y4] 33) = W at *
  have hcl : (cs ++ ds ++ ds').length ≤ 1999 := by have := HV.out.2.2.2; have := HQ'.out; have := HP'.out.1.1; rw [List.length_append]; omega
  have hb13 : Below wd.heap.size W1 w3 := hup.below HV.out.2.1.size (fun k hk => hk.elim (fun e => e ▸ HV.out.2.2.1.low.2.1) (fun e => HV.out.2.2.1.own k e))
  have hb3 : Below wd.heap.size W1 W := hb13.trans (bx.mono (Nat.le_trans HV.out.2.1.size hb13.size))
  have hBel : Below w.heap.size w W := HB2.out.1.trans (hb3.mono HB.out.1.size)
  have HK := Lib.hid (show KS w wd.heap.size m H A B ps Z (Z + 1) w3.heap.size (w3.heap.size + 1) (v1, v2, v3) (a1, a2, a3) (x1, x2, x3, .pointer x4) (y1, y2, y3, .pointer y4) t t' none none none none cv3 (cs ++ ds ++ ds') W from
    ⟨hM3.below bx, by omega, (HV.out.1.more HV.out.2.2.1 hup ds').below bx, ⟨hli.stay (fun _ _ e => (e : False).elim) (fun g t c hb _ _ => hb.below bx hb.lt), hlr.keep (fun _ _ e => (e : False).elim) (KpR.of_below bx), hok, by have := HQ'.out; omega, bv, br⟩, HP.out.2.2.1, HP.out.2.2.2, ⟨HB.out.1.size, Nat.le_trans HV.out.2.1.size hb3.size⟩, hBel, (fun _ e => by cases e), (fun _ e => by cases e), (fun _ e => by cases e), (fun _ e => by cases e)⟩)
  have HL := Lib.hid hcl
  obtain ⟨X9, h9⟩ : ∃ z, w3.heap.size = z := ⟨_, rfl⟩
  rw [h9] at HK ⊢
  obtain ⟨X10, h10⟩ : ∃ z, X9 + 1 = z := ⟨_, rfl⟩
  obtain ⟨X7, h7⟩ : ∃ z, Z + 1 = z := ⟨_, rfl⟩
  rw [h10, h7] at HK ⊢
  obtain ⟨N, hN⟩ : ∃ z, wd.heap.size = z := ⟨_, rfl⟩
  rw [hN] at HK
  clear hM3 hds hO hli hlr hok hle hun hup bx bv br hcl hb13 hb3 hBel HV HB2 HB HQ' step h9 h10 h7 hN
  clear w3
  generalize cs ++ ds ++ ds' = cz at *
  generalize Z = X6 at *
  clear HP HP' hpn hpn'
  clear HB
  have D1 := fun d os => Calls.regrown_of ((HK.out.below (below_regrown W d os)).show1)
  have D2 := fun d os => Calls.regrown_of ((HK.out.below (below_regrown W d os)).show2)
  have A0 := fun d os => cell_regrown HK.out.sb.v0 d os
  have A1 := fun d os => cell_regrown HK.out.sb.v1 d os
  have A2 := fun d os => cell_regrown HK.out.sb.v2 d os
  have C0 := fun d os => cell_regrown HK.out.sb.a0 d os
  have C1 := fun d os => cell_regrown HK.out.sb.a1 d os
  have C2 := fun d os => cell_regrown HK.out.sb.a2 d os
  refine wp_region_quiet_below (by kernel_rfl) (by kernel_rfl) ?_
  repeat (quiet_step (first | with_reducible exact D1 _ _ | with_reducible exact D2 _ _))
  refine wpQuiet_nil ?_
  intro _ hw'
  obtain ⟨⟨dq, osq⟩, hw''⟩ := hw'
  subst hw''
  clear A0 A1 A2 C0 C1 C2 D1 D2
  have HK := Lib.hid (HK.out.below (below_regrown W dq osq))
  generalize Go.Sort.grow (redrawn W dq) osq = W2 at *
  obtain ⟨P1, hP1⟩ : ∃ p, (⟨(prT t 0).toArray⟩ : ByteArray) = p := ⟨_, rfl⟩
  obtain ⟨P2, hP2⟩ : ∃ p, (⟨(prT t' 0).toArray⟩ : ByteArray) = p := ⟨_, rfl⟩
  have HP1 := Lib.hid hP1
  have HP2 := Lib.hid hP2
  rw [hP1, hP2]
  clear hP1 hP2
  go_upto_region 9 with fail
  refine wp_var0 (fun KV HKV => ?_)
  refine wp_region_till (m := 40) (S := SB X6 X7 X9 X10 v1 v2 v3 a1 a2 a3 x1 x2 x3 x4 y1 y2 y3 y4) (by kernel_rfl) ?_
  have e4 : W2.drew = W2.drewN 1 := rfl
  rw [e4]
  clear e4
  have HK := Lib.hid (HK.out.below (below_drw (Below.refl W2.heap.size W2) 1))
  generalize W2.drewN 1 = E0 at *
  change tillH _ _ _ _ _ _ 41 #[false, false, false, false, false, false, false, false, false, false, false, false, false, false, false, false, false, false, false, false, false, false, false, false, false, false, false, false, false, false, false, false, false, false, false, false, false, false, false, false, false] _ _
  have S0 := HK.out.sb
  refine tillH_takeAny (i := 0) (oi := ?oo1) (v := ?vv1) ?hi1 (by kernel_rfl) (by kernel_rfl) (by kernel_rfl) ?hq1 (by kernel_rfl) ?hy1 (fun _ => S0) ?hh1
  case hi1 => (simp only [List.getElem?_toArray, List.getElem?_cons_succ, List.getElem?_cons_zero]; rfl)
  case hq1 => exact fun _ _ _ h => h
  case hy1 => exact Or.inl ⟨by rfl, by (intro W; go_simp; (try with_reducible rfl))⟩
  (try simp only [Act.put, List.setIfInBounds_toArray, List.set_cons_zero, List.set_cons_succ])
  refine tillH_takeAny (i := 1) (oi := ?oo2) (v := ?vv2) ?hi2 (by kernel_rfl) (by kernel_rfl) (by kernel_rfl) ?hq2 (by kernel_rfl) ?hy2 (fun _ => S0) ?hh2
  case hi2 => (simp only [List.getElem?_toArray, List.getElem?_cons_succ, List.getElem?_cons_zero]; rfl)
  case hq2 => exact fun _ _ _ h => h
  case hy2 => exact Or.inl ⟨by rfl, by (intro W; go_simp; (try with_reducible rfl))⟩
  (try simp only [Act.put, List.setIfInBounds_toArray, List.set_cons_zero, List.set_cons_succ])
  refine tillH_takeC [39, 23, 22, 12, 11, 5, 4, 3] (i := 2) (oi := ?oo3) (v := ?vv3) ?hi3 (by kernel_rfl) (by kernel_rfl) (by kernel_rfl) ?hq3 (by kernel_rfl) (by kernel_rfl) (by kernel_rfl) ?hy3 S0 ?hh3
  case hi3 => (simp only [List.getElem?_toArray, List.getElem?_cons_succ, List.getElem?_cons_zero]; rfl)
  case hq3 => exact fun _ _ _ h => h
  case hy3 => exact Or.inl ⟨by rfl, by (intro W hSw; (try obtain ⟨s0, s1, s2, s3, s4, s5, s6, s7, s8, s9, s10, s11, s12, s13⟩ := hSw); go_simp; (try with_reducible rfl))⟩
  (try simp only [Act.put, List.setIfInBounds_toArray, List.set_cons_zero, List.set_cons_succ])
  refine tillH_next (rs := [3]) (by kernel_rfl) (by simp) ?_
  refine NextH.cons rfl (fun K hK => ?_) NextH.nil
  go_simp
  have hs := HK.out.show1
  rw [HP1.out] at hs
  refine hs.mono ?_
  rintro e E1 ⟨rfl, bf⟩
  have HK := Lib.hid (HK.out.below bf)
  have S1 := HK.out.sb
  clear bf
  refine hK.out _ _ (fun _ => S1) ?_
  clear hK K hs S0
  (try simp only [Act.put, List.setIfInBounds_toArray, List.set_cons_zero, List.set_cons_succ])
  refine tillH_takeAny (i := 4) (oi := ?oo4) (v := ?vv4) ?hi4 (by kernel_rfl) (by kernel_rfl) (by kernel_rfl) ?hq4 (by kernel_rfl) ?hy4 (fun _ => S1) ?hh4
  case hi4 => (simp only [List.getElem?_toArray, List.getElem?_cons_succ, List.getElem?_cons_zero]; rfl)
  case hq4 => exact fun _ _ _ h => h
  case hy4 => exact Or.inl ⟨by rfl, by (intro W; go_simp; (try with_reducible rfl))⟩
  (try simp only [Act.put, List.setIfInBounds_toArray, List.set_cons_zero, List.set_cons_succ])
  refine tillH_takeAny (i := 5) (oi := ?oo5) (v := ?vv5) ?hi5 (by kernel_rfl) (by kernel_rfl) (by kernel_rfl) ?hq5 (by kernel_rfl) ?hy5 (fun _ => S1) ?hh5
  case hi5 => (simp only [List.getElem?_toArray, List.getElem?_cons_succ, List.getElem?_cons_zero]; rfl)
  case hq5 => exact fun _ _ _ h => h
  case hy5 => exact Or.inl ⟨by rfl, by (intro W; go_simp; (try with_reducible rfl))⟩
  (try simp only [Act.put, List.setIfInBounds_toArray, List.set_cons_zero, List.set_cons_succ])
  refine tillH_takeAny (i := 6) (oi := ?oo6) (v := ?vv6) ?hi6 (by kernel_rfl) (by kernel_rfl) (by kernel_rfl) ?hq6 (by kernel_rfl) ?hy6 (fun _ => S1) ?hh6
  case hi6 => (simp only [List.getElem?_toArray, List.getElem?_cons_succ, List.getElem?_cons_zero]; rfl)
  case hq6 => exact fun _ _ _ h => h
  case hy6 => exact Or.inl ⟨by rfl, by (intro W; go_simp; (try with_reducible rfl))⟩
  (try simp only [Act.put, List.setIfInBounds_toArray, List.set_cons_zero, List.set_cons_succ])
  refine tillH_takeAny (i := 7) (oi := ?oo7) (v := ?vv7) ?hi7 (by kernel_rfl) (by kernel_rfl) (by kernel_rfl) ?hq7 (by kernel_rfl) ?hy7 (fun _ => S1) ?hh7
  case hi7 => (simp only [List.getElem?_toArray, List.getElem?_cons_succ, List.getElem?_cons_zero]; rfl)
  case hq7 => exact fun _ _ _ h => h
  case hy7 => exact Or.inl ⟨by rfl, by (intro W; go_simp; (try with_reducible rfl))⟩
  (try simp only [Act.put, List.setIfInBounds_toArray, List.set_cons_zero, List.set_cons_succ])
  refine tillH_takeC [39, 23, 22, 12, 11, 10, 9] (i := 8) (oi := ?oo8) (v := ?vv8) ?hi8 (by kernel_rfl) (by kernel_rfl) (by kernel_rfl) ?hq8 (by kernel_rfl) (by kernel_rfl) (by kernel_rfl) ?hy8 S1 ?hh8
  case hi8 => (simp only [List.getElem?_toArray, List.getElem?_cons_succ, List.getElem?_cons_zero]; rfl)
  case hq8 => exact fun _ _ _ h => h
  case hy8 => exact Or.inl ⟨by rfl, by (intro W hSw; (try obtain ⟨s0, s1, s2, s3, s4, s5, s6, s7, s8, s9, s10, s11, s12, s13⟩ := hSw); go_simp; (try with_reducible rfl))⟩
  (try simp only [Act.put, List.setIfInBounds_toArray, List.set_cons_zero, List.set_cons_succ])
  refine tillH_next (rs := [9]) (by kernel_rfl) (by simp) ?_
  refine NextH.cons rfl (fun K hK => ?_) NextH.nil
  go_simp
  have hs := HK.out.show2
  rw [HP2.out] at hs
  refine hs.mono ?_
  rintro e E2 ⟨rfl, bf⟩
  have HK := Lib.hid (HK.out.below bf)
  have S2 := HK.out.sb
  clear bf
  refine hK.out _ _ (fun _ => S2) ?_
  clear hK K hs S1
  (try simp only [Act.put, List.setIfInBounds_toArray, List.set_cons_zero, List.set_cons_succ])
  refine tillH_takeAny (i := 10) (oi := ?oo9) (v := ?vv9) ?hi9 (by kernel_rfl) (by kernel_rfl) (by kernel_rfl) ?hq9 (by kernel_rfl) ?hy9 (fun _ => S2) ?hh9
  case hi9 => (simp only [List.getElem?_toArray, List.getElem?_cons_succ, List.getElem?_cons_zero]; rfl)
  case hq9 => exact fun _ _ _ h => h
  case hy9 => exact Or.inl ⟨by rfl, by (intro W; go_simp; (try with_reducible rfl))⟩
  (try simp only [Act.put, List.setIfInBounds_toArray, List.set_cons_zero, List.set_cons_succ])
  refine tillH_takeAny (i := 11) (oi := ?oo10) (v := ?vv10) ?hi10 (by kernel_rfl) (by kernel_rfl) (by kernel_rfl) ?hq10 (by kernel_rfl) ?hy10 (fun _ => S2) ?hh10
  case hi10 => (simp only [List.getElem?_toArray, List.getElem?_cons_succ, List.getElem?_cons_zero]; rfl)
  case hq10 => exact fun _ _ _ h => h
  case hy10 => exact Or.inl ⟨by rfl, by (intro W; go_simp; (try with_reducible rfl))⟩
  (try simp only [Act.put, List.setIfInBounds_toArray, List.set_cons_zero, List.set_cons_succ])
  refine tillH_takeAny (i := 12) (oi := ?oo11) (v := ?vv11) ?hi11 (by kernel_rfl) (by kernel_rfl) (by kernel_rfl) ?hq11 (by kernel_rfl) ?hy11 (fun _ => S2) ?hh11
  case hi11 => (simp only [List.getElem?_toArray, List.getElem?_cons_succ, List.getElem?_cons_zero]; rfl)
  case hq11 => exact fun _ _ _ h => h
  case hy11 => exact Or.inl ⟨by rfl, by (intro W; go_simp; (try with_reducible rfl))⟩
  (try simp only [Act.put, List.setIfInBounds_toArray, List.set_cons_zero, List.set_cons_succ])
  refine tillH_takeAny (i := 13) (oi := ?oo12) (v := ?vv12) ?hi12 (by kernel_rfl) (by kernel_rfl) (by kernel_rfl) ?hq12 (by kernel_rfl) ?hy12 (fun _ => S2) ?hh12
  case hi12 => (simp only [List.getElem?_toArray, List.getElem?_cons_succ, List.getElem?_cons_zero]; rfl)
  case hq12 => exact fun _ _ _ h => h
  case hy12 => exact Or.inl ⟨by rfl, by (intro W; go_simp; (try with_reducible rfl))⟩
  (try simp only [Act.put, List.setIfInBounds_toArray, List.set_cons_zero, List.set_cons_succ])
  refine tillH_takeAny (i := 14) (oi := ?oo13) (v := ?vv13) ?hi13 (by kernel_rfl) (by kernel_rfl) (by kernel_rfl) ?hq13 (by kernel_rfl) ?hy13 (fun _ => S2) ?hh13
  case hi13 => (simp only [List.getElem?_toArray, List.getElem?_cons_succ, List.getElem?_cons_zero]; rfl)
  case hq13 => exact fun _ _ _ h => h
  case hy13 => exact Or.inl ⟨by rfl, by (intro W; go_simp; (try with_reducible rfl))⟩
  (try simp only [Act.put, List.setIfInBounds_toArray, List.set_cons_zero, List.set_cons_succ])
  refine tillH_takeAny (i := 15) (oi := ?oo14) (v := ?vv14) ?hi14 (by kernel_rfl) (by kernel_rfl) (by kernel_rfl) ?hq14 (by kernel_rfl) ?hy14 (fun _ => S2) ?hh14
  case hi14 => (simp only [List.getElem?_toArray, List.getElem?_cons_succ, List.getElem?_cons_zero]; rfl)
  case hq14 => exact fun _ _ _ h => h
  case hy14 => exact Or.inl ⟨by rfl, by (intro W; go_simp; (try with_reducible rfl))⟩
  (try simp only [Act.put, List.setIfInBounds_toArray, List.set_cons_zero, List.set_cons_succ])
  refine tillH_takeC [39, 23, 22, 21, 20, 17] (i := 16) (oi := ?oo15) (v := ?vv15) ?hi15 (by kernel_rfl) (by kernel_rfl) (by kernel_rfl) ?hq15 (by kernel_rfl) (by kernel_rfl) (by kernel_rfl) ?hy15 S2 ?hh15
  case hi15 => (simp only [List.getElem?_toArray, List.getElem?_cons_succ, List.getElem?_cons_zero]; rfl)
  case hq15 => exact fun _ _ _ h => h
  case hy15 => exact Or.inl ⟨by rfl, by (intro W hSw; (try obtain ⟨s0, s1, s2, s3, s4, s5, s6, s7, s8, s9, s10, s11, s12, s13⟩ := hSw); go_simp; (try with_reducible rfl))⟩
  (try simp only [Act.put, List.setIfInBounds_toArray, List.set_cons_zero, List.set_cons_succ])
  refine tillH_takeC [39, 23, 22, 21, 20, 19] (i := 18) (oi := ?oo16) (v := ?vv16) ?hi16 (by kernel_rfl) (by kernel_rfl) (by kernel_rfl) ?hq16 (by kernel_rfl) (by kernel_rfl) (by kernel_rfl) ?hy16 S2 ?hh16
  case hi16 => (simp only [List.getElem?_toArray, List.getElem?_cons_succ, List.getElem?_cons_zero]; rfl)
  case hq16 => exact fun _ _ _ h => h
  case hy16 => exact Or.inl ⟨by rfl, by (intro W hSw; (try obtain ⟨s0, s1, s2, s3, s4, s5, s6, s7, s8, s9, s10, s11, s12, s13⟩ := hSw); go_simp; (try with_reducible rfl))⟩
  (try simp only [Act.put, List.setIfInBounds_toArray, List.set_cons_zero, List.set_cons_succ])
  refine tillH_next (rs := [17]) (by kernel_rfl) (by simp) ?_
  refine NextH.cons rfl (fun K hK => ?_) NextH.nil
  go_simp
  have hs := HK.out.rshow1
  rw [HP1.out] at hs
  refine hs.mono ?_
  rintro e E3 ⟨rfl, bf⟩
  have HK := Lib.hid (HK.out.below bf)
  have S3 := HK.out.sb
  clear bf
  refine hK.out _ _ (fun _ => S3) ?_
  clear hK K hs S2
  (try simp only [Act.put, List.setIfInBounds_toArray, List.set_cons_zero, List.set_cons_succ])
  refine tillH_next (rs := [19]) (by kernel_rfl) (by simp) ?_
  refine NextH.cons rfl (fun K hK => ?_) NextH.nil
  go_simp
  have hs := HK.out.rshow2
  rw [HP2.out] at hs
  refine hs.mono ?_
  rintro e E4 ⟨rfl, bf⟩
  have HK := Lib.hid (HK.out.below bf)
  have S4 := HK.out.sb
  clear bf
  refine hK.out _ _ (fun _ => S4) ?_
  clear hK K hs S3
  (try simp only [Act.put, List.setIfInBounds_toArray, List.set_cons_zero, List.set_cons_succ])
  refine tillH_takeAny (i := 20) (oi := ?oo17) (v := ?vv17) ?hi17 (by kernel_rfl) (by kernel_rfl) (by kernel_rfl) ?hq17 (by kernel_rfl) ?hy17 (fun _ => S4) ?hh17
  case hi17 => (simp only [List.getElem?_toArray, List.getElem?_cons_succ, List.getElem?_cons_zero]; rfl)
  case hq17 => exact fun _ _ _ h => h
  case hy17 => exact Or.inl ⟨by rfl, by (intro W; go_simp; (try with_reducible rfl))⟩
  (try simp only [Act.put, List.setIfInBounds_toArray, List.set_cons_zero, List.set_cons_succ])
  refine tillH_takeAny (i := 21) (oi := ?oo18) (v := ?vv18) ?hi18 (by kernel_rfl) (by kernel_rfl) (by kernel_rfl) ?hq18 (by kernel_rfl) ?hy18 (fun _ => S4) ?hh18
  case hi18 => (simp only [List.getElem?_toArray, List.getElem?_cons_succ, List.getElem?_cons_zero]; rfl)
  case hq18 => exact fun _ _ _ h => h
  case hy18 => exact Or.inl ⟨by rfl, by (intro W; go_simp; (try with_reducible rfl))⟩
  (try simp only [Act.put, List.setIfInBounds_toArray, List.set_cons_zero, List.set_cons_succ])
  refine tillH_takeAny (i := 22) (oi := ?oo19) (v := ?vv19) ?hi19 (by kernel_rfl) (by kernel_rfl) (by kernel_rfl) ?hq19 (by kernel_rfl) ?hy19 (fun _ => S4) ?hh19
  case hi19 => (simp only [List.getElem?_toArray, List.getElem?_cons_succ, List.getElem?_cons_zero]; rfl)
  case hq19 => exact fun _ _ _ h => h
  case hy19 => exact Or.inl ⟨by rfl, by (intro W; go_simp; (try with_reducible rfl))⟩
  (try simp only [Act.put, List.setIfInBounds_toArray, List.set_cons_zero, List.set_cons_succ])
  refine tillH_takeAny (i := 23) (oi := ?oo20) (v := ?vv20) ?hi20 (by kernel_rfl) (by kernel_rfl) (by kernel_rfl) ?hq20 (by kernel_rfl) ?hy20 (fun _ => S4) ?hh20
  case hi20 => (simp only [List.getElem?_toArray, List.getElem?_cons_succ, List.getElem?_cons_zero]; rfl)
  case hq20 => exact fun _ _ _ h => h
  case hy20 => exact Or.inl ⟨by rfl, by (intro W; go_simp; (try with_reducible rfl))⟩
  (try simp only [Act.put, List.setIfInBounds_toArray, List.set_cons_zero, List.set_cons_succ])
  refine tillH_takeAny (i := 24) (oi := ?oo21) (v := ?vv21) ?hi21 (by kernel_rfl) (by kernel_rfl) (by kernel_rfl) ?hq21 (by kernel_rfl) ?hy21 (fun _ => S4) ?hh21
  case hi21 => (simp only [List.getElem?_toArray, List.getElem?_cons_succ, List.getElem?_cons_zero]; rfl)
  case hq21 => exact fun _ _ _ h => h
  case hy21 => exact Or.inl ⟨by rfl, by (intro W; go_simp; (try with_reducible rfl))⟩
  (try simp only [Act.put, List.setIfInBounds_toArray, List.set_cons_zero, List.set_cons_succ])
  refine tillH_takeAny (i := 25) (oi := ?oo22) (v := ?vv22) ?hi22 (by kernel_rfl) (by kernel_rfl) (by kernel_rfl) ?hq22 (by kernel_rfl) ?hy22 (fun _ => S4) ?hh22
  case hi22 => (simp only [List.getElem?_toArray, List.getElem?_cons_succ, List.getElem?_cons_zero]; rfl)
  case hq22 => exact fun _ _ _ h => h
  case hy22 => exact Or.inl ⟨by rfl, by (intro W; go_simp; (try with_reducible rfl))⟩
  (try simp only [Act.put, List.setIfInBounds_toArray, List.set_cons_zero, List.set_cons_succ])
  refine tillH_takeC [39, 38, 30, 29, 28] (i := 26) (oi := ?oo23) (v := ?vv23) ?hi23 (by kernel_rfl) (by kernel_rfl) (by kernel_rfl) ?hq23 (by kernel_rfl) (by kernel_rfl) (by kernel_rfl) ?hy23 S4 ?hh23
  case hi23 => (simp only [List.getElem?_toArray, List.getElem?_cons_succ, List.getElem?_cons_zero]; rfl)
  case hq23 => exact fun _ _ _ h => h
  case hy23 => exact Or.inl ⟨by rfl, by (intro W hSw; (try obtain ⟨s0, s1, s2, s3, s4, s5, s6, s7, s8, s9, s10, s11, s12, s13⟩ := hSw); go_simp; (try with_reducible rfl))⟩
  (try simp only [Act.put, List.setIfInBounds_toArray, List.set_cons_zero, List.set_cons_succ])
  refine tillH_takeC [39, 38, 30, 29, 28] (i := 27) (oi := ?oo24) (v := ?vv24) ?hi24 (by kernel_rfl) (by kernel_rfl) (by kernel_rfl) ?hq24 (by kernel_rfl) (by kernel_rfl) (by kernel_rfl) ?hy24 S4 ?hh24
  case hi24 => (simp only [List.getElem?_toArray, List.getElem?_cons_succ, List.getElem?_cons_zero]; rfl)
  case hq24 => exact fun _ _ _ h => h
  case hy24 => exact Or.inl ⟨by rfl, by (intro W hSw; (try obtain ⟨s0, s1, s2, s3, s4, s5, s6, s7, s8, s9, s10, s11, s12, s13⟩ := hSw); go_simp; (try with_reducible rfl))⟩
  (try simp only [Act.put, List.setIfInBounds_toArray, List.set_cons_zero, List.set_cons_succ])
  refine tillH_takeC [39, 38, 37, 36, 35, 34, 33] (i := 31) (oi := ?oo25) (v := ?vv25) ?hi25 (by kernel_rfl) (by kernel_rfl) (by kernel_rfl) ?hq25 (by kernel_rfl) (by kernel_rfl) (by kernel_rfl) ?hy25 S4 ?hh25
  case hi25 => (simp only [List.getElem?_toArray, List.getElem?_cons_succ, List.getElem?_cons_zero]; rfl)
  case hq25 => exact fun _ _ _ h => h
  case hy25 => exact Or.inl ⟨by rfl, by (intro W hSw; (try obtain ⟨s0, s1, s2, s3, s4, s5, s6, s7, s8, s9, s10, s11, s12, s13⟩ := hSw); go_simp; (try with_reducible rfl))⟩
  (try simp only [Act.put, List.setIfInBounds_toArray, List.set_cons_zero, List.set_cons_succ])
  refine tillH_takeC [39, 38, 37, 36, 35, 34, 33] (i := 32) (oi := ?oo26) (v := ?vv26) ?hi26 (by kernel_rfl) (by kernel_rfl) (by kernel_rfl) ?hq26 (by kernel_rfl) (by kernel_rfl) (by kernel_rfl) ?hy26 S4 ?hh26
  case hi26 => (simp only [List.getElem?_toArray, List.getElem?_cons_succ, List.getElem?_cons_zero]; rfl)
  case hq26 => exact fun _ _ _ h => h
  case hy26 => exact Or.inl ⟨by rfl, by (intro W hSw; (try obtain ⟨s0, s1, s2, s3, s4, s5, s6, s7, s8, s9, s10, s11, s12, s13⟩ := hSw); go_simp; (try with_reducible rfl))⟩
  (try simp only [Act.put, List.setIfInBounds_toArray, List.set_cons_zero, List.set_cons_succ])
  obtain ⟨P3, hP3⟩ : ∃ p, (⟨(prT (.ar2 t t') 0).toArray⟩ : ByteArray) = p := ⟨_, rfl⟩
  have HP3 := Lib.hid hP3
  clear hP3
  refine tillH_next (rs := [28, 33]) (by kernel_rfl) (by simp) ?_
  refine NextH.cons rfl (fun K hK => ?_) (NextH.cons rfl (fun K hK => ?_) (NextH.nil))
  · go_simp
    have HK := Lib.hid HK.out.row3
    have T5 := HK.out.sb
    refine hK.out _ _ (fun _ => T5) ?_
    clear hK K S4
    (try simp only [Act.put, List.setIfInBounds_toArray, List.set_cons_zero, List.set_cons_succ])
    generalize E4.alloc (.cells #[.int .i64 v1, .int .i64 v2, .string v3, .int .i64 a1, .int .i64 a2, .string a3] 30) = F5 at *
    generalize E4.heap.size = F5g at *
    refine tillH_next (rs := [29, 33]) (by kernel_rfl) (by simp) ?_
    refine NextH.cons rfl (fun K hK => ?_) (NextH.cons rfl (fun K hK => ?_) (NextH.nil))
    · go_simp
      refine (HK.out.arr HL.out).mono ?_
      rintro e F6 ⟨k, cw, ct, rfl, HK2⟩
      have HK := Lib.hid HK2
      clear HK2
      have T6 := HK.out.sb
      refine hK.out _ _ (fun _ => T6) ?_
      clear hK K T5
      (try simp only [Act.put, List.setIfInBounds_toArray, List.set_cons_zero, List.set_cons_succ])
      refine tillH_next (rs := [30, 33]) (by kernel_rfl) (by simp) ?_
      refine NextH.cons rfl (fun K hK => ?_) (NextH.cons rfl (fun K hK => ?_) (NextH.nil))
      · go_simp
        have hs := HK.out.show3
        rw [HP3.out] at hs
        refine hs.mono ?_
        rintro e F7 ⟨rfl, bf⟩
        have HK := Lib.hid (HK.out.below bf)
        clear bf hs
        have T7 := HK.out.sb
        refine hK.out _ _ (fun _ => T7) ?_
        clear hK K T6
        (try simp only [Act.put, List.setIfInBounds_toArray, List.set_cons_zero, List.set_cons_succ])
        refine tillH_next (rs := [33]) (by kernel_rfl) (by simp) ?_
        refine NextH.cons rfl (fun K hK => ?_) (NextH.nil)
        go_simp
        have HK := Lib.hid HK.out.rrow3
        have T8 := HK.out.sb
        refine hK.out _ _ (fun _ => T8) ?_
        clear hK K T7
        (try simp only [Act.put, List.setIfInBounds_toArray, List.set_cons_zero, List.set_cons_succ])
        generalize F7.alloc (.cells #[.int .i64 x1, .int .i64 x2, .string x3, .pointer x4, .int .i64 y1, .int .i64 y2, .string y3, .pointer y4] 33) = F8 at *
        generalize F7.heap.size = F8g at *
        refine tillH_takeAny (i := 34) (oi := ?oo27) (v := ?vv27) ?hi27 (by kernel_rfl) (by kernel_rfl) (by kernel_rfl) ?hq27 (by kernel_rfl) ?hy27 (fun _ => T8) ?hh27
        case hi27 => (simp only [List.getElem?_toArray, List.getElem?_cons_succ, List.getElem?_cons_zero]; rfl)
        case hq27 => exact fun _ _ _ h => h
        case hy27 => exact Or.inl ⟨by rfl, by (intro W; go_simp; (try with_reducible rfl))⟩
        (try simp only [Act.put, List.setIfInBounds_toArray, List.set_cons_zero, List.set_cons_succ])
        refine tillH_next (rs := [35]) (by kernel_rfl) (by simp) ?_
        refine NextH.cons rfl (fun K hK => ?_) (NextH.nil)
        go_simp
        have HK := Lib.hid HK.out.robj
        have T9 := HK.out.sb
        refine hK.out _ _ (fun _ => T9) ?_
        clear hK K T8
        (try simp only [Act.put, List.setIfInBounds_toArray, List.set_cons_zero, List.set_cons_succ])
        generalize F8.alloc (.cells (robC arrS (.slice (some ⟨F8g, 0, none⟩) 2 2) 0 0 ⟨#[]⟩) 46) = F9 at *
        generalize F8.heap.size = F9g at *
        refine tillH_takeAny (i := 36) (oi := ?oo28) (v := ?vv28) ?hi28 (by kernel_rfl) (by kernel_rfl) (by kernel_rfl) ?hq28 (by kernel_rfl) ?hy28 (fun _ => T9) ?hh28
        case hi28 => (simp only [List.getElem?_toArray, List.getElem?_cons_succ, List.getElem?_cons_zero]; rfl)
        case hq28 => exact fun _ _ _ h => h
        case hy28 => exact Or.inl ⟨by rfl, by (intro W; go_simp; (try with_reducible rfl))⟩
        (try simp only [Act.put, List.setIfInBounds_toArray, List.set_cons_zero, List.set_cons_succ])
        refine tillH_next (rs := [37]) (by kernel_rfl) (by simp) ?_
        refine NextH.cons rfl (fun K hK => ?_) NextH.nil
        go_simp
        have hs := HK.out.rshow3
        rw [HP3.out] at hs
        refine hs.mono ?_
        rintro e F10 ⟨rfl, bf⟩
        have HK := Lib.hid (HK.out.below bf)
        have SZ := HK.out.sb
        clear bf hs T9
        refine hK.out _ _ (fun _ => SZ) ?_
        clear hK K
        (try simp only [Act.put, List.setIfInBounds_toArray, List.set_cons_zero, List.set_cons_succ])
        refine tillH_takeAny (i := 38) (oi := ?oo29) (v := ?vv29) ?hi29 (by kernel_rfl) (by kernel_rfl) (by kernel_rfl) ?hq29 (by kernel_rfl) ?hy29 (fun _ => SZ) ?hh29
        case hi29 => (simp only [List.getElem?_toArray, List.getElem?_cons_succ, List.getElem?_cons_zero]; rfl)
        case hq29 => exact fun _ _ _ h => h
        case hy29 => exact Or.inl ⟨by rfl, by (intro W; go_simp; (try with_reducible rfl))⟩
        (try simp only [Act.put, List.setIfInBounds_toArray, List.set_cons_zero, List.set_cons_succ])
        refine tillH_takeAny (i := 39) (oi := ?oo30) (v := ?vv30) ?hi30 (by kernel_rfl) (by kernel_rfl) (by kernel_rfl) ?hq30 (by kernel_rfl) ?hy30 (fun _ => SZ) ?hh30
        case hi30 => (simp only [List.getElem?_toArray, List.getElem?_cons_succ, List.getElem?_cons_zero]; rfl)
        case hq30 => exact fun _ _ _ h => h
        case hy30 => exact Or.inl ⟨by rfl, by (intro W; go_simp; (try with_reducible rfl))⟩
        (try simp only [Act.put, List.setIfInBounds_toArray, List.set_cons_zero, List.set_cons_succ])
        clear SZ
        refine tillH_next (rs := [40]) (by kernel_rfl) (by simp) ?_
        refine NextH.cons rfl (fun K hK => ?_) NextH.nil
        go_simp
        refine hK.out _ _ (fun h => absurd h (by simp)) ?_
        clear hK K
        (try simp only [Act.put, List.setIfInBounds_toArray, List.set_cons_zero, List.set_cons_succ])
        refine tillH_done (by kernel_rfl) ?_ _
        refine HKV.out _ _ ?_
        have hb := HK.out.bel
        clear HK HL
        go_wp2
        go_ret
        exact ⟨by simp, hb⟩
      · go_simp
        have HK := Lib.hid HK.out.rrow3
        have T11 := HK.out.sb
        refine hK.out _ _ (fun _ => T11) ?_
        clear hK K T6
        (try simp only [Act.put, List.setIfInBounds_toArray, List.set_cons_zero, List.set_cons_succ])
        generalize F6.alloc (.cells #[.int .i64 x1, .int .i64 x2, .string x3, .pointer x4, .int .i64 y1, .int .i64 y2, .string y3, .pointer y4] 33) = F11 at *
        generalize F6.heap.size = F11g at *
        refine tillH_takeAny (i := 34) (oi := ?oo31) (v := ?vv31) ?hi31 (by kernel_rfl) (by kernel_rfl) (by kernel_rfl) ?hq31 (by kernel_rfl) ?hy31 (fun _ => T11) ?hh31
        case hi31 => (simp only [List.getElem?_toArray, List.getElem?_cons_succ, List.getElem?_cons_zero]; rfl)
        case hq31 => exact fun _ _ _ h => h
        case hy31 => exact Or.inl ⟨by rfl, by (intro W; go_simp; (try with_reducible rfl))⟩
        (try simp only [Act.put, List.setIfInBounds_toArray, List.set_cons_zero, List.set_cons_succ])
        refine tillH_next (rs := [30, 35]) (by kernel_rfl) (by simp) ?_
        refine NextH.cons rfl (fun K hK => ?_) (NextH.cons rfl (fun K hK => ?_) (NextH.nil))
        · go_simp
          have hs := HK.out.show3
          rw [HP3.out] at hs
          refine hs.mono ?_
          rintro e F12 ⟨rfl, bf⟩
          have HK := Lib.hid (HK.out.below bf)
          clear bf hs
          have T12 := HK.out.sb
          refine hK.out _ _ (fun _ => T12) ?_
          clear hK K T11
          (try simp only [Act.put, List.setIfInBounds_toArray, List.set_cons_zero, List.set_cons_succ])
          refine tillH_next (rs := [35]) (by kernel_rfl) (by simp) ?_
          refine NextH.cons rfl (fun K hK => ?_) (NextH.nil)
          go_simp
          have HK := Lib.hid HK.out.robj
          have T13 := HK.out.sb
          refine hK.out _ _ (fun _ => T13) ?_
          clear hK K T12
          (try simp only [Act.put, List.setIfInBounds_toArray, List.set_cons_zero, List.set_cons_succ])
          generalize F12.alloc (.cells (robC arrS (.slice (some ⟨F11g, 0, none⟩) 2 2) 0 0 ⟨#[]⟩) 46) = F13 at *
          generalize F12.heap.size = F13g at *
          refine tillH_takeAny (i := 36) (oi := ?oo32) (v := ?vv32) ?hi32 (by kernel_rfl) (by kernel_rfl) (by kernel_rfl) ?hq32 (by kernel_rfl) ?hy32 (fun _ => T13) ?hh32
          case hi32 => (simp only [List.getElem?_toArray, List.getElem?_cons_succ, List.getElem?_cons_zero]; rfl)
          case hq32 => exact fun _ _ _ h => h
          case hy32 => exact Or.inl ⟨by rfl, by (intro W; go_simp; (try with_reducible rfl))⟩
          (try simp only [Act.put, List.setIfInBounds_toArray, List.set_cons_zero, List.set_cons_succ])
          refine tillH_next (rs := [37]) (by kernel_rfl) (by simp) ?_
          refine NextH.cons rfl (fun K hK => ?_) NextH.nil
          go_simp
          have hs := HK.out.rshow3
          rw [HP3.out] at hs
          refine hs.mono ?_
          rintro e F14 ⟨rfl, bf⟩
          have HK := Lib.hid (HK.out.below bf)
          have SZ := HK.out.sb
          clear bf hs T13
          refine hK.out _ _ (fun _ => SZ) ?_
          clear hK K
          (try simp only [Act.put, List.setIfInBounds_toArray, List.set_cons_zero, List.set_cons_succ])
          refine tillH_takeAny (i := 38) (oi := ?oo33) (v := ?vv33) ?hi33 (by kernel_rfl) (by kernel_rfl) (by kernel_rfl) ?hq33 (by kernel_rfl) ?hy33 (fun _ => SZ) ?hh33
          case hi33 => (simp only [List.getElem?_toArray, List.getElem?_cons_succ, List.getElem?_cons_zero]; rfl)
          case hq33 => exact fun _ _ _ h => h
          case hy33 => exact Or.inl ⟨by rfl, by (intro W; go_simp; (try with_reducible rfl))⟩
          (try simp only [Act.put, List.setIfInBounds_toArray, List.set_cons_zero, List.set_cons_succ])
          refine tillH_takeAny (i := 39) (oi := ?oo34) (v := ?vv34) ?hi34 (by kernel_rfl) (by kernel_rfl) (by kernel_rfl) ?hq34 (by kernel_rfl) ?hy34 (fun _ => SZ) ?hh34
          case hi34 => (simp only [List.getElem?_toArray, List.getElem?_cons_succ, List.getElem?_cons_zero]; rfl)
          case hq34 => exact fun _ _ _ h => h
          case hy34 => exact Or.inl ⟨by rfl, by (intro W; go_simp; (try with_reducible rfl))⟩
          (try simp only [Act.put, List.setIfInBounds_toArray, List.set_cons_zero, List.set_cons_succ])
          clear SZ
          refine tillH_next (rs := [40]) (by kernel_rfl) (by simp) ?_
          refine NextH.cons rfl (fun K hK => ?_) NextH.nil
          go_simp
          refine hK.out _ _ (fun h => absurd h (by simp)) ?_
          clear hK K
          (try simp only [Act.put, List.setIfInBounds_toArray, List.set_cons_zero, List.set_cons_succ])
          refine tillH_done (by kernel_rfl) ?_ _
          refine HKV.out _ _ ?_
          have hb := HK.out.bel
          clear HK HL
          go_wp2
          go_ret
          exact ⟨by simp, hb⟩
        · go_simp
          have HK := Lib.hid HK.out.robj
          have T15 := HK.out.sb
          refine hK.out _ _ (fun _ => T15) ?_
          clear hK K T11
          (try simp only [Act.put, List.setIfInBounds_toArray, List.set_cons_zero, List.set_cons_succ])
          generalize F11.alloc (.cells (robC arrS (.slice (some ⟨F11g, 0, none⟩) 2 2) 0 0 ⟨#[]⟩) 46) = F15 at *
          generalize F11.heap.size = F15g at *
          refine tillH_takeAny (i := 36) (oi := ?oo35) (v := ?vv35) ?hi35 (by kernel_rfl) (by kernel_rfl) (by kernel_rfl) ?hq35 (by kernel_rfl) ?hy35 (fun _ => T15) ?hh35
          case hi35 => (simp only [List.getElem?_toArray, List.getElem?_cons_succ, List.getElem?_cons_zero]; rfl)
          case hq35 => exact fun _ _ _ h => h
          case hy35 => exact Or.inl ⟨by rfl, by (intro W; go_simp; (try with_reducible rfl))⟩
          (try simp only [Act.put, List.setIfInBounds_toArray, List.set_cons_zero, List.set_cons_succ])
          refine tillH_next (rs := [30]) (by kernel_rfl) (by simp) ?_
          refine NextH.cons rfl (fun K hK => ?_) (NextH.nil)
          go_simp
          have hs := HK.out.show3
          rw [HP3.out] at hs
          refine hs.mono ?_
          rintro e F16 ⟨rfl, bf⟩
          have HK := Lib.hid (HK.out.below bf)
          clear bf hs
          have T16 := HK.out.sb
          refine hK.out _ _ (fun _ => T16) ?_
          clear hK K T15
          (try simp only [Act.put, List.setIfInBounds_toArray, List.set_cons_zero, List.set_cons_succ])
          refine tillH_next (rs := [37]) (by kernel_rfl) (by simp) ?_
          refine NextH.cons rfl (fun K hK => ?_) NextH.nil
          go_simp
          have hs := HK.out.rshow3
          rw [HP3.out] at hs
          refine hs.mono ?_
          rintro e F17 ⟨rfl, bf⟩
          have HK := Lib.hid (HK.out.below bf)
          have SZ := HK.out.sb
          clear bf hs T16
          refine hK.out _ _ (fun _ => SZ) ?_
          clear hK K
          (try simp only [Act.put, List.setIfInBounds_toArray, List.set_cons_zero, List.set_cons_succ])
          refine tillH_takeAny (i := 38) (oi := ?oo36) (v := ?vv36) ?hi36 (by kernel_rfl) (by kernel_rfl) (by kernel_rfl) ?hq36 (by kernel_rfl) ?hy36 (fun _ => SZ) ?hh36
          case hi36 => (simp only [List.getElem?_toArray, List.getElem?_cons_succ, List.getElem?_cons_zero]; rfl)
          case hq36 => exact fun _ _ _ h => h
          case hy36 => exact Or.inl ⟨by rfl, by (intro W; go_simp; (try with_reducible rfl))⟩
          (try simp only [Act.put, List.setIfInBounds_toArray, List.set_cons_zero, List.set_cons_succ])
          refine tillH_takeAny (i := 39) (oi := ?oo37) (v := ?vv37) ?hi37 (by kernel_rfl) (by kernel_rfl) (by kernel_rfl) ?hq37 (by kernel_rfl) ?hy37 (fun _ => SZ) ?hh37
          case hi37 => (simp only [List.getElem?_toArray, List.getElem?_cons_succ, List.getElem?_cons_zero]; rfl)
          case hq37 => exact fun _ _ _ h => h
          case hy37 => exact Or.inl ⟨by rfl, by (intro W; go_simp; (try with_reducible rfl))⟩
          (try simp only [Act.put, List.setIfInBounds_toArray, List.set_cons_zero, List.set_cons_succ])
          clear SZ
          refine tillH_next (rs := [40]) (by kernel_rfl) (by simp) ?_
          refine NextH.cons rfl (fun K hK => ?_) NextH.nil
          go_simp
          refine hK.out _ _ (fun h => absurd h (by simp)) ?_
          clear hK K
          (try simp only [Act.put, List.setIfInBounds_toArray, List.set_cons_zero, List.set_cons_succ])
          refine tillH_done (by kernel_rfl) ?_ _
          refine HKV.out _ _ ?_
          have hb := HK.out.bel
          clear HK HL
          go_wp2
          go_ret
          exact ⟨by simp, hb⟩
    · go_simp
      have HK := Lib.hid HK.out.rrow3
      have T18 := HK.out.sb
      refine hK.out _ _ (fun _ => T18) ?_
      clear hK K T5
      (try simp only [Act.put, List.setIfInBounds_toArray, List.set_cons_zero, List.set_cons_succ])
      generalize F5.alloc (.cells #[.int .i64 x1, .int .i64 x2, .string x3, .pointer x4, .int .i64 y1, .int .i64 y2, .string y3, .pointer y4] 33) = F18 at *
      generalize F5.heap.size = F18g at *
      refine tillH_takeAny (i := 34) (oi := ?oo38) (v := ?vv38) ?hi38 (by kernel_rfl) (by kernel_rfl) (by kernel_rfl) ?hq38 (by kernel_rfl) ?hy38 (fun _ => T18) ?hh38
      case hi38 => (simp only [List.getElem?_toArray, List.getElem?_cons_succ, List.getElem?_cons_zero]; rfl)
      case hq38 => exact fun _ _ _ h => h
      case hy38 => exact Or.inl ⟨by rfl, by (intro W; go_simp; (try with_reducible rfl))⟩
      (try simp only [Act.put, List.setIfInBounds_toArray, List.set_cons_zero, List.set_cons_succ])
      refine tillH_next (rs := [29, 35]) (by kernel_rfl) (by simp) ?_
      refine NextH.cons rfl (fun K hK => ?_) (NextH.cons rfl (fun K hK => ?_) (NextH.nil))
      · go_simp
        refine (HK.out.arr HL.out).mono ?_
        rintro e F19 ⟨k, cw, ct, rfl, HK2⟩
        have HK := Lib.hid HK2
        clear HK2
        have T19 := HK.out.sb
        refine hK.out _ _ (fun _ => T19) ?_
        clear hK K T18
        (try simp only [Act.put, List.setIfInBounds_toArray, List.set_cons_zero, List.set_cons_succ])
        refine tillH_next (rs := [30, 35]) (by kernel_rfl) (by simp) ?_
        refine NextH.cons rfl (fun K hK => ?_) (NextH.cons rfl (fun K hK => ?_) (NextH.nil))
        · go_simp
          have hs := HK.out.show3
          rw [HP3.out] at hs
          refine hs.mono ?_
          rintro e F20 ⟨rfl, bf⟩
          have HK := Lib.hid (HK.out.below bf)
          clear bf hs
          have T20 := HK.out.sb
          refine hK.out _ _ (fun _ => T20) ?_
          clear hK K T19
          (try simp only [Act.put, List.setIfInBounds_toArray, List.set_cons_zero, List.set_cons_succ])
          refine tillH_next (rs := [35]) (by kernel_rfl) (by simp) ?_
          refine NextH.cons rfl (fun K hK => ?_) (NextH.nil)
          go_simp
          have HK := Lib.hid HK.out.robj
          have T21 := HK.out.sb
          refine hK.out _ _ (fun _ => T21) ?_
          clear hK K T20
          (try simp only [Act.put, List.setIfInBounds_toArray, List.set_cons_zero, List.set_cons_succ])
          generalize F20.alloc (.cells (robC arrS (.slice (some ⟨F18g, 0, none⟩) 2 2) 0 0 ⟨#[]⟩) 46) = F21 at *
          generalize F20.heap.size = F21g at *
          refine tillH_takeAny (i := 36) (oi := ?oo39) (v := ?vv39) ?hi39 (by kernel_rfl) (by kernel_rfl) (by kernel_rfl) ?hq39 (by kernel_rfl) ?hy39 (fun _ => T21) ?hh39
          case hi39 => (simp only [List.getElem?_toArray, List.getElem?_cons_succ, List.getElem?_cons_zero]; rfl)
          case hq39 => exact fun _ _ _ h => h
          case hy39 => exact Or.inl ⟨by rfl, by (intro W; go_simp; (try with_reducible rfl))⟩
          (try simp only [Act.put, List.setIfInBounds_toArray, List.set_cons_zero, List.set_cons_succ])
          refine tillH_next (rs := [37]) (by kernel_rfl) (by simp) ?_
          refine NextH.cons rfl (fun K hK => ?_) NextH.nil
          go_simp
          have hs := HK.out.rshow3
          rw [HP3.out] at hs
          refine hs.mono ?_
          rintro e F22 ⟨rfl, bf⟩
          have HK := Lib.hid (HK.out.below bf)
          have SZ := HK.out.sb
          clear bf hs T21
          refine hK.out _ _ (fun _ => SZ) ?_
          clear hK K
          (try simp only [Act.put, List.setIfInBounds_toArray, List.set_cons_zero, List.set_cons_succ])
          refine tillH_takeAny (i := 38) (oi := ?oo40) (v := ?vv40) ?hi40 (by kernel_rfl) (by kernel_rfl) (by kernel_rfl) ?hq40 (by kernel_rfl) ?hy40 (fun _ => SZ) ?hh40
          case hi40 => (simp only [List.getElem?_toArray, List.getElem?_cons_succ, List.getElem?_cons_zero]; rfl)
          case hq40 => exact fun _ _ _ h => h
          case hy40 => exact Or.inl ⟨by rfl, by (intro W; go_simp; (try with_reducible rfl))⟩
          (try simp only [Act.put, List.setIfInBounds_toArray, List.set_cons_zero, List.set_cons_succ])
          refine tillH_takeAny (i := 39) (oi := ?oo41) (v := ?vv41) ?hi41 (by kernel_rfl) (by kernel_rfl) (by kernel_rfl) ?hq41 (by kernel_rfl) ?hy41 (fun _ => SZ) ?hh41
          case hi41 => (simp only [List.getElem?_toArray, List.getElem?_cons_succ, List.getElem?_cons_zero]; rfl)
          case hq41 => exact fun _ _ _ h => h
          case hy41 => exact Or.inl ⟨by rfl, by (intro W; go_simp; (try with_reducible rfl))⟩
          (try simp only [Act.put, List.setIfInBounds_toArray, List.set_cons_zero, List.set_cons_succ])
          clear SZ
          refine tillH_next (rs := [40]) (by kernel_rfl) (by simp) ?_
          refine NextH.cons rfl (fun K hK => ?_) NextH.nil
          go_simp
          refine hK.out _ _ (fun h => absurd h (by simp)) ?_
          clear hK K
          (try simp only [Act.put, List.setIfInBounds_toArray, List.set_cons_zero, List.set_cons_succ])
          refine tillH_done (by kernel_rfl) ?_ _
          refine HKV.out _ _ ?_
          have hb := HK.out.bel
          clear HK HL
          go_wp2
          go_ret
          exact ⟨by simp, hb⟩
        · go_simp
          have HK := Lib.hid HK.out.robj
          have T23 := HK.out.sb
          refine hK.out _ _ (fun _ => T23) ?_
          clear hK K T19
          (try simp only [Act.put, List.setIfInBounds_toArray, List.set_cons_zero, List.set_cons_succ])
          generalize F19.alloc (.cells (robC arrS (.slice (some ⟨F18g, 0, none⟩) 2 2) 0 0 ⟨#[]⟩) 46) = F23 at *
          generalize F19.heap.size = F23g at *
          refine tillH_takeAny (i := 36) (oi := ?oo42) (v := ?vv42) ?hi42 (by kernel_rfl) (by kernel_rfl) (by kernel_rfl) ?hq42 (by kernel_rfl) ?hy42 (fun _ => T23) ?hh42
          case hi42 => (simp only [List.getElem?_toArray, List.getElem?_cons_succ, List.getElem?_cons_zero]; rfl)
          case hq42 => exact fun _ _ _ h => h
          case hy42 => exact Or.inl ⟨by rfl, by (intro W; go_simp; (try with_reducible rfl))⟩
          (try simp only [Act.put, List.setIfInBounds_toArray, List.set_cons_zero, List.set_cons_succ])
          refine tillH_next (rs := [30]) (by kernel_rfl) (by simp) ?_
          refine NextH.cons rfl (fun K hK => ?_) (NextH.nil)
          go_simp
          have hs := HK.out.show3
          rw [HP3.out] at hs
          refine hs.mono ?_
          rintro e F24 ⟨rfl, bf⟩
          have HK := Lib.hid (HK.out.below bf)
          clear bf hs
          have T24 := HK.out.sb
          refine hK.out _ _ (fun _ => T24) ?_
          clear hK K T23
          (try simp only [Act.put, List.setIfInBounds_toArray, List.set_cons_zero, List.set_cons_succ])
          refine tillH_next (rs := [37]) (by kernel_rfl) (by simp) ?_
          refine NextH.cons rfl (fun K hK => ?_) NextH.nil
          go_simp
          have hs := HK.out.rshow3
          rw [HP3.out] at hs
          refine hs.mono ?_
          rintro e F25 ⟨rfl, bf⟩
          have HK := Lib.hid (HK.out.below bf)
          have SZ := HK.out.sb
          clear bf hs T24
          refine hK.out _ _ (fun _ => SZ) ?_
          clear hK K
          (try simp only [Act.put, List.setIfInBounds_toArray, List.set_cons_zero, List.set_cons_succ])
          refine tillH_takeAny (i := 38) (oi := ?oo43) (v := ?vv43) ?hi43 (by kernel_rfl) (by kernel_rfl) (by kernel_rfl) ?hq43 (by kernel_rfl) ?hy43 (fun _ => SZ) ?hh43
          case hi43 => (simp only [List.getElem?_toArray, List.getElem?_cons_succ, List.getElem?_cons_zero]; rfl)
          case hq43 => exact fun _ _ _ h => h
          case hy43 => exact Or.inl ⟨by rfl, by (intro W; go_simp; (try with_reducible rfl))⟩
          (try simp only [Act.put, List.setIfInBounds_toArray, List.set_cons_zero, List.set_cons_succ])
          refine tillH_takeAny (i := 39) (oi := ?oo44) (v := ?vv44) ?hi44 (by kernel_rfl) (by kernel_rfl) (by kernel_rfl) ?hq44 (by kernel_rfl) ?hy44 (fun _ => SZ) ?hh44
          case hi44 => (simp only [List.getElem?_toArray, List.getElem?_cons_succ, List.getElem?_cons_zero]; rfl)
          case hq44 => exact fun _ _ _ h => h
          case hy44 => exact Or.inl ⟨by rfl, by (intro W; go_simp; (try with_reducible rfl))⟩
          (try simp only [Act.put, List.setIfInBounds_toArray, List.set_cons_zero, List.set_cons_succ])
          clear SZ
          refine tillH_next (rs := [40]) (by kernel_rfl) (by simp) ?_
          refine NextH.cons rfl (fun K hK => ?_) NextH.nil
          go_simp
          refine hK.out _ _ (fun h => absurd h (by simp)) ?_
          clear hK K
          (try simp only [Act.put, List.setIfInBounds_toArray, List.set_cons_zero, List.set_cons_succ])
          refine tillH_done (by kernel_rfl) ?_ _
          refine HKV.out _ _ ?_
          have hb := HK.out.bel
          clear HK HL
          go_wp2
          go_ret
          exact ⟨by simp, hb⟩
      · go_simp
        have HK := Lib.hid HK.out.robj
        have T26 := HK.out.sb
        refine hK.out _ _ (fun _ => T26) ?_
        clear hK K T18
        (try simp only [Act.put, List.setIfInBounds_toArray, List.set_cons_zero, List.set_cons_succ])
        generalize F18.alloc (.cells (robC arrS (.slice (some ⟨F18g, 0, none⟩) 2 2) 0 0 ⟨#[]⟩) 46) = F26 at *
        generalize F18.heap.size = F26g at *
        refine tillH_takeAny (i := 36) (oi := ?oo45) (v := ?vv45) ?hi45 (by kernel_rfl) (by kernel_rfl) (by kernel_rfl) ?hq45 (by kernel_rfl) ?hy45 (fun _ => T26) ?hh45
        case hi45 => (simp only [List.getElem?_toArray, List.getElem?_cons_succ, List.getElem?_cons_zero]; rfl)
        case hq45 => exact fun _ _ _ h => h
        case hy45 => exact Or.inl ⟨by rfl, by (intro W; go_simp; (try with_reducible rfl))⟩
        (try simp only [Act.put, List.setIfInBounds_toArray, List.set_cons_zero, List.set_cons_succ])
        refine tillH_next (rs := [29]) (by kernel_rfl) (by simp) ?_
        refine NextH.cons rfl (fun K hK => ?_) (NextH.nil)
        go_simp
        refine (HK.out.arr HL.out).mono ?_
        rintro e F27 ⟨k, cw, ct, rfl, HK2⟩
        have HK := Lib.hid HK2
        clear HK2
        have T27 := HK.out.sb
        refine hK.out _ _ (fun _ => T27) ?_
        clear hK K T26
        (try simp only [Act.put, List.setIfInBounds_toArray, List.set_cons_zero, List.set_cons_succ])
        refine tillH_next (rs := [30]) (by kernel_rfl) (by simp) ?_
        refine NextH.cons rfl (fun K hK => ?_) (NextH.nil)
        go_simp
        have hs := HK.out.show3
        rw [HP3.out] at hs
        refine hs.mono ?_
        rintro e F28 ⟨rfl, bf⟩
        have HK := Lib.hid (HK.out.below bf)
        clear bf hs
        have T28 := HK.out.sb
        refine hK.out _ _ (fun _ => T28) ?_
        clear hK K T27
        (try simp only [Act.put, List.setIfInBounds_toArray, List.set_cons_zero, List.set_cons_succ])
        refine tillH_next (rs := [37]) (by kernel_rfl) (by simp) ?_
        refine NextH.cons rfl (fun K hK => ?_) NextH.nil
        go_simp
        have hs := HK.out.rshow3
        rw [HP3.out] at hs
        refine hs.mono ?_
        rintro e F29 ⟨rfl, bf⟩
        have HK := Lib.hid (HK.out.below bf)
        have SZ := HK.out.sb
        clear bf hs T28
        refine hK.out _ _ (fun _ => SZ) ?_
        clear hK K
        (try simp only [Act.put, List.setIfInBounds_toArray, List.set_cons_zero, List.set_cons_succ])
        refine tillH_takeAny (i := 38) (oi := ?oo46) (v := ?vv46) ?hi46 (by kernel_rfl) (by kernel_rfl) (by kernel_rfl) ?hq46 (by kernel_rfl) ?hy46 (fun _ => SZ) ?hh46
        case hi46 => (simp only [List.getElem?_toArray, List.getElem?_cons_succ, List.getElem?_cons_zero]; rfl)
        case hq46 => exact fun _ _ _ h => h
        case hy46 => exact Or.inl ⟨by rfl, by (intro W; go_simp; (try with_reducible rfl))⟩
        (try simp only [Act.put, List.setIfInBounds_toArray, List.set_cons_zero, List.set_cons_succ])
        refine tillH_takeAny (i := 39) (oi := ?oo47) (v := ?vv47) ?hi47 (by kernel_rfl) (by kernel_rfl) (by kernel_rfl) ?hq47 (by kernel_rfl) ?hy47 (fun _ => SZ) ?hh47
        case hi47 => (simp only [List.getElem?_toArray, List.getElem?_cons_succ, List.getElem?_cons_zero]; rfl)
        case hq47 => exact fun _ _ _ h => h
        case hy47 => exact Or.inl ⟨by rfl, by (intro W; go_simp; (try with_reducible rfl))⟩
        (try simp only [Act.put, List.setIfInBounds_toArray, List.set_cons_zero, List.set_cons_succ])
        clear SZ
        refine tillH_next (rs := [40]) (by kernel_rfl) (by simp) ?_
        refine NextH.cons rfl (fun K hK => ?_) NextH.nil
        go_simp
        refine hK.out _ _ (fun h => absurd h (by simp)) ?_
        clear hK K
        (try simp only [Act.put, List.setIfInBounds_toArray, List.set_cons_zero, List.set_cons_succ])
        refine tillH_done (by kernel_rfl) ?_ _
        refine HKV.out _ _ ?_
        have hb := HK.out.bel
        clear HK HL
        go_wp2
        go_ret
        exact ⟨by simp, hb⟩
  · go_simp
    have HK := Lib.hid HK.out.rrow3
    have T30 := HK.out.sb
    refine hK.out _ _ (fun _ => T30) ?_
    clear hK K S4
    (try simp only [Act.put, List.setIfInBounds_toArray, List.set_cons_zero, List.set_cons_succ])
    generalize E4.alloc (.cells #[.int .i64 x1, .int .i64 x2, .string x3, .pointer x4, .int .i64 y1, .int .i64 y2, .string y3, .pointer y4] 33) = F30 at *
    generalize E4.heap.size = F30g at *
    refine tillH_takeAny (i := 34) (oi := ?oo48) (v := ?vv48) ?hi48 (by kernel_rfl) (by kernel_rfl) (by kernel_rfl) ?hq48 (by kernel_rfl) ?hy48 (fun _ => T30) ?hh48
    case hi48 => (simp only [List.getElem?_toArray, List.getElem?_cons_succ, List.getElem?_cons_zero]; rfl)
    case hq48 => exact fun _ _ _ h => h
    case hy48 => exact Or.inl ⟨by rfl, by (intro W; go_simp; (try with_reducible rfl))⟩
    (try simp only [Act.put, List.setIfInBounds_toArray, List.set_cons_zero, List.set_cons_succ])
    refine tillH_next (rs := [28, 35]) (by kernel_rfl) (by simp) ?_
    refine NextH.cons rfl (fun K hK => ?_) (NextH.cons rfl (fun K hK => ?_) (NextH.nil))
    · go_simp
      have HK := Lib.hid HK.out.row3
      have T31 := HK.out.sb
      refine hK.out _ _ (fun _ => T31) ?_
      clear hK K T30
      (try simp only [Act.put, List.setIfInBounds_toArray, List.set_cons_zero, List.set_cons_succ])
      generalize F30.alloc (.cells #[.int .i64 v1, .int .i64 v2, .string v3, .int .i64 a1, .int .i64 a2, .string a3] 30) = F31 at *
      generalize F30.heap.size = F31g at *
      refine tillH_next (rs := [29, 35]) (by kernel_rfl) (by simp) ?_
      refine NextH.cons rfl (fun K hK => ?_) (NextH.cons rfl (fun K hK => ?_) (NextH.nil))
      · go_simp
        refine (HK.out.arr HL.out).mono ?_
        rintro e F32 ⟨k, cw, ct, rfl, HK2⟩
        have HK := Lib.hid HK2
        clear HK2
        have T32 := HK.out.sb
        refine hK.out _ _ (fun _ => T32) ?_
        clear hK K T31
        (try simp only [Act.put, List.setIfInBounds_toArray, List.set_cons_zero, List.set_cons_succ])
        refine tillH_next (rs := [30, 35]) (by kernel_rfl) (by simp) ?_
        refine NextH.cons rfl (fun K hK => ?_) (NextH.cons rfl (fun K hK => ?_) (NextH.nil))
        · go_simp
          have hs := HK.out.show3
          rw [HP3.out] at hs
          refine hs.mono ?_
          rintro e F33 ⟨rfl, bf⟩
          have HK := Lib.hid (HK.out.below bf)
          clear bf hs
          have T33 := HK.out.sb
          refine hK.out _ _ (fun _ => T33) ?_
          clear hK K T32
          (try simp only [Act.put, List.setIfInBounds_toArray, List.set_cons_zero, List.set_cons_succ])
          refine tillH_next (rs := [35]) (by kernel_rfl) (by simp) ?_
          refine NextH.cons rfl (fun K hK => ?_) (NextH.nil)
          go_simp
          have HK := Lib.hid HK.out.robj
          have T34 := HK.out.sb
          refine hK.out _ _ (fun _ => T34) ?_
          clear hK K T33
          (try simp only [Act.put, List.setIfInBounds_toArray, List.set_cons_zero, List.set_cons_succ])
          generalize F33.alloc (.cells (robC arrS (.slice (some ⟨F30g, 0, none⟩) 2 2) 0 0 ⟨#[]⟩) 46) = F34 at *
          generalize F33.heap.size = F34g at *
          refine tillH_takeAny (i := 36) (oi := ?oo49) (v := ?vv49) ?hi49 (by kernel_rfl) (by kernel_rfl) (by kernel_rfl) ?hq49 (by kernel_rfl) ?hy49 (fun _ => T34) ?hh49
          case hi49 => (simp only [List.getElem?_toArray, List.getElem?_cons_succ, List.getElem?_cons_zero]; rfl)
          case hq49 => exact fun _ _ _ h => h
          case hy49 => exact Or.inl ⟨by rfl, by (intro W; go_simp; (try with_reducible rfl))⟩
          (try simp only [Act.put, List.setIfInBounds_toArray, List.set_cons_zero, List.set_cons_succ])
          refine tillH_next (rs := [37]) (by kernel_rfl) (by simp) ?_
          refine NextH.cons rfl (fun K hK => ?_) NextH.nil
          go_simp
          have hs := HK.out.rshow3
          rw [HP3.out] at hs
          refine hs.mono ?_
          rintro e F35 ⟨rfl, bf⟩
          have HK := Lib.hid (HK.out.below bf)
          have SZ := HK.out.sb
          clear bf hs T34
          refine hK.out _ _ (fun _ => SZ) ?_
          clear hK K
          (try simp only [Act.put, List.setIfInBounds_toArray, List.set_cons_zero, List.set_cons_succ])
          refine tillH_takeAny (i := 38) (oi := ?oo50) (v := ?vv50) ?hi50 (by kernel_rfl) (by kernel_rfl) (by kernel_rfl) ?hq50 (by kernel_rfl) ?hy50 (fun _ => SZ) ?hh50
          case hi50 => (simp only [List.getElem?_toArray, List.getElem?_cons_succ, List.getElem?_cons_zero]; rfl)
          case hq50 => exact fun _ _ _ h => h
          case hy50 => exact Or.inl ⟨by rfl, by (intro W; go_simp; (try with_reducible rfl))⟩
          (try simp only [Act.put, List.setIfInBounds_toArray, List.set_cons_zero, List.set_cons_succ])
          refine tillH_takeAny (i := 39) (oi := ?oo51) (v := ?vv51) ?hi51 (by kernel_rfl) (by kernel_rfl) (by kernel_rfl) ?hq51 (by kernel_rfl) ?hy51 (fun _ => SZ) ?hh51
          case hi51 => (simp only [List.getElem?_toArray, List.getElem?_cons_succ, List.getElem?_cons_zero]; rfl)
          case hq51 => exact fun _ _ _ h => h
          case hy51 => exact Or.inl ⟨by rfl, by (intro W; go_simp; (try with_reducible rfl))⟩
          (try simp only [Act.put, List.setIfInBounds_toArray, List.set_cons_zero, List.set_cons_succ])
          clear SZ
          refine tillH_next (rs := [40]) (by kernel_rfl) (by simp) ?_
          refine NextH.cons rfl (fun K hK => ?_) NextH.nil
          go_simp
          refine hK.out _ _ (fun h => absurd h (by simp)) ?_
          clear hK K
          (try simp only [Act.put, List.setIfInBounds_toArray, List.set_cons_zero, List.set_cons_succ])
          refine tillH_done (by kernel_rfl) ?_ _
          refine HKV.out _ _ ?_
          have hb := HK.out.bel
          clear HK HL
          go_wp2
          go_ret
          exact ⟨by simp, hb⟩
        · go_simp
          have HK := Lib.hid HK.out.robj
          have T36 := HK.out.sb
          refine hK.out _ _ (fun _ => T36) ?_
          clear hK K T32
          (try simp only [Act.put, List.setIfInBounds_toArray, List.set_cons_zero, List.set_cons_succ])
          generalize F32.alloc (.cells (robC arrS (.slice (some ⟨F30g, 0, none⟩) 2 2) 0 0 ⟨#[]⟩) 46) = F36 at *
          generalize F32.heap.size = F36g at *
          refine tillH_takeAny (i := 36) (oi := ?oo52) (v := ?vv52) ?hi52 (by kernel_rfl) (by kernel_rfl) (by kernel_rfl) ?hq52 (by kernel_rfl) ?hy52 (fun _ => T36) ?hh52
          case hi52 => (simp only [List.getElem?_toArray, List.getElem?_cons_succ, List.getElem?_cons_zero]; rfl)
          case hq52 => exact fun _ _ _ h => h
          case hy52 => exact Or.inl ⟨by rfl, by (intro W; go_simp; (try with_reducible rfl))⟩
          (try simp only [Act.put, List.setIfInBounds_toArray, List.set_cons_zero, List.set_cons_succ])
          refine tillH_next (rs := [30]) (by kernel_rfl) (by simp) ?_
          refine NextH.cons rfl (fun K hK => ?_) (NextH.nil)
          go_simp
          have hs := HK.out.show3
          rw [HP3.out] at hs
          refine hs.mono ?_
          rintro e F37 ⟨rfl, bf⟩
          have HK := Lib.hid (HK.out.below bf)
          clear bf hs
          have T37 := HK.out.sb
          refine hK.out _ _ (fun _ => T37) ?_
          clear hK K T36
          (try simp only [Act.put, List.setIfInBounds_toArray, List.set_cons_zero, List.set_cons_succ])
          refine tillH_next (rs := [37]) (by kernel_rfl) (by simp) ?_
          refine NextH.cons rfl (fun K hK => ?_) NextH.nil
          go_simp
          have hs := HK.out.rshow3
          rw [HP3.out] at hs
          refine hs.mono ?_
          rintro e F38 ⟨rfl, bf⟩
          have HK := Lib.hid (HK.out.below bf)
          have SZ := HK.out.sb
          clear bf hs T37
          refine hK.out _ _ (fun _ => SZ) ?_
          clear hK K
          (try simp only [Act.put, List.setIfInBounds_toArray, List.set_cons_zero, List.set_cons_succ])
          refine tillH_takeAny (i := 38) (oi := ?oo53) (v := ?vv53) ?hi53 (by kernel_rfl) (by kernel_rfl) (by kernel_rfl) ?hq53 (by kernel_rfl) ?hy53 (fun _ => SZ) ?hh53
          case hi53 => (simp only [List.getElem?_toArray, List.getElem?_cons_succ, List.getElem?_cons_zero]; rfl)
          case hq53 => exact fun _ _ _ h => h
          case hy53 => exact Or.inl ⟨by rfl, by (intro W; go_simp; (try with_reducible rfl))⟩
          (try simp only [Act.put, List.setIfInBounds_toArray, List.set_cons_zero, List.set_cons_succ])
          refine tillH_takeAny (i := 39) (oi := ?oo54) (v := ?vv54) ?hi54 (by kernel_rfl) (by kernel_rfl) (by kernel_rfl) ?hq54 (by kernel_rfl) ?hy54 (fun _ => SZ) ?hh54
          case hi54 => (simp only [List.getElem?_toArray, List.getElem?_cons_succ, List.getElem?_cons_zero]; rfl)
          case hq54 => exact fun _ _ _ h => h
          case hy54 => exact Or.inl ⟨by rfl, by (intro W; go_simp; (try with_reducible rfl))⟩
          (try simp only [Act.put, List.setIfInBounds_toArray, List.set_cons_zero, List.set_cons_succ])
          clear SZ
          refine tillH_next (rs := [40]) (by kernel_rfl) (by simp) ?_
          refine NextH.cons rfl (fun K hK => ?_) NextH.nil
          go_simp
          refine hK.out _ _ (fun h => absurd h (by simp)) ?_
          clear hK K
          (try simp only [Act.put, List.setIfInBounds_toArray, List.set_cons_zero, List.set_cons_succ])
          refine tillH_done (by kernel_rfl) ?_ _
          refine HKV.out _ _ ?_
          have hb := HK.out.bel
          clear HK HL
          go_wp2
          go_ret
          exact ⟨by simp, hb⟩
      · go_simp
        have HK := Lib.hid HK.out.robj
        have T39 := HK.out.sb
        refine hK.out _ _ (fun _ => T39) ?_
        clear hK K T31
        (try simp only [Act.put, List.setIfInBounds_toArray, List.set_cons_zero, List.set_cons_succ])
        generalize F31.alloc (.cells (robC arrS (.slice (some ⟨F30g, 0, none⟩) 2 2) 0 0 ⟨#[]⟩) 46) = F39 at *
        generalize F31.heap.size = F39g at *
        refine tillH_takeAny (i := 36) (oi := ?oo55) (v := ?vv55) ?hi55 (by kernel_rfl) (by kernel_rfl) (by kernel_rfl) ?hq55 (by kernel_rfl) ?hy55 (fun _ => T39) ?hh55
        case hi55 => (simp only [List.getElem?_toArray, List.getElem?_cons_succ, List.getElem?_cons_zero]; rfl)
        case hq55 => exact fun _ _ _ h => h
        case hy55 => exact Or.inl ⟨by rfl, by (intro W; go_simp; (try with_reducible rfl))⟩
        (try simp only [Act.put, List.setIfInBounds_toArray, List.set_cons_zero, List.set_cons_succ])
        refine tillH_next (rs := [29]) (by kernel_rfl) (by simp) ?_
        refine NextH.cons rfl (fun K hK => ?_) (NextH.nil)
        go_simp
        refine (HK.out.arr HL.out).mono ?_
        rintro e F40 ⟨k, cw, ct, rfl, HK2⟩
        have HK := Lib.hid HK2
        clear HK2
        have T40 := HK.out.sb
        refine hK.out _ _ (fun _ => T40) ?_
        clear hK K T39
        (try simp only [Act.put, List.setIfInBounds_toArray, List.set_cons_zero, List.set_cons_succ])
        refine tillH_next (rs := [30]) (by kernel_rfl) (by simp) ?_
        refine NextH.cons rfl (fun K hK => ?_) (NextH.nil)
        go_simp
        have hs := HK.out.show3
        rw [HP3.out] at hs
        refine hs.mono ?_
        rintro e F41 ⟨rfl, bf⟩
        have HK := Lib.hid (HK.out.below bf)
        clear bf hs
        have T41 := HK.out.sb
        refine hK.out _ _ (fun _ => T41) ?_
        clear hK K T40
        (try simp only [Act.put, List.setIfInBounds_toArray, List.set_cons_zero, List.set_cons_succ])
        refine tillH_next (rs := [37]) (by kernel_rfl) (by simp) ?_
        refine NextH.cons rfl (fun K hK => ?_) NextH.nil
        go_simp
        have hs := HK.out.rshow3
        rw [HP3.out] at hs
        refine hs.mono ?_
        rintro e F42 ⟨rfl, bf⟩
        have HK := Lib.hid (HK.out.below bf)
        have SZ := HK.out.sb
        clear bf hs T41
        refine hK.out _ _ (fun _ => SZ) ?_
        clear hK K
        (try simp only [Act.put, List.setIfInBounds_toArray, List.set_cons_zero, List.set_cons_succ])
        refine tillH_takeAny (i := 38) (oi := ?oo56) (v := ?vv56) ?hi56 (by kernel_rfl) (by kernel_rfl) (by kernel_rfl) ?hq56 (by kernel_rfl) ?hy56 (fun _ => SZ) ?hh56
        case hi56 => (simp only [List.getElem?_toArray, List.getElem?_cons_succ, List.getElem?_cons_zero]; rfl)
        case hq56 => exact fun _ _ _ h => h
        case hy56 => exact Or.inl ⟨by rfl, by (intro W; go_simp; (try with_reducible rfl))⟩
        (try simp only [Act.put, List.setIfInBounds_toArray, List.set_cons_zero, List.set_cons_succ])
        refine tillH_takeAny (i := 39) (oi := ?oo57) (v := ?vv57) ?hi57 (by kernel_rfl) (by kernel_rfl) (by kernel_rfl) ?hq57 (by kernel_rfl) ?hy57 (fun _ => SZ) ?hh57
        case hi57 => (simp only [List.getElem?_toArray, List.getElem?_cons_succ, List.getElem?_cons_zero]; rfl)
        case hq57 => exact fun _ _ _ h => h
        case hy57 => exact Or.inl ⟨by rfl, by (intro W; go_simp; (try with_reducible rfl))⟩
        (try simp only [Act.put, List.setIfInBounds_toArray, List.set_cons_zero, List.set_cons_succ])
        clear SZ
        refine tillH_next (rs := [40]) (by kernel_rfl) (by simp) ?_
        refine NextH.cons rfl (fun K hK => ?_) NextH.nil
        go_simp
        refine hK.out _ _ (fun h => absurd h (by simp)) ?_
        clear hK K
        (try simp only [Act.put, List.setIfInBounds_toArray, List.set_cons_zero, List.set_cons_succ])
        refine tillH_done (by kernel_rfl) ?_ _
        refine HKV.out _ _ ?_
        have hb := HK.out.bel
        clear HK HL
        go_wp2
        go_ret
        exact ⟨by simp, hb⟩
    · go_simp
      have HK := Lib.hid HK.out.robj
      have T43 := HK.out.sb
      refine hK.out _ _ (fun _ => T43) ?_
      clear hK K T30
      (try simp only [Act.put, List.setIfInBounds_toArray, List.set_cons_zero, List.set_cons_succ])
      generalize F30.alloc (.cells (robC arrS (.slice (some ⟨F30g, 0, none⟩) 2 2) 0 0 ⟨#[]⟩) 46) = F43 at *
      generalize F30.heap.size = F43g at *
      refine tillH_takeAny (i := 36) (oi := ?oo58) (v := ?vv58) ?hi58 (by kernel_rfl) (by kernel_rfl) (by kernel_rfl) ?hq58 (by kernel_rfl) ?hy58 (fun _ => T43) ?hh58
      case hi58 => (simp only [List.getElem?_toArray, List.getElem?_cons_succ, List.getElem?_cons_zero]; rfl)
      case hq58 => exact fun _ _ _ h => h
      case hy58 => exact Or.inl ⟨by rfl, by (intro W; go_simp; (try with_reducible rfl))⟩
      (try simp only [Act.put, List.setIfInBounds_toArray, List.set_cons_zero, List.set_cons_succ])
      refine tillH_next (rs := [28]) (by kernel_rfl) (by simp) ?_
      refine NextH.cons rfl (fun K hK => ?_) (NextH.nil)
      go_simp
      have HK := Lib.hid HK.out.row3
      have T44 := HK.out.sb
      refine hK.out _ _ (fun _ => T44) ?_
      clear hK K T43
      (try simp only [Act.put, List.setIfInBounds_toArray, List.set_cons_zero, List.set_cons_succ])
      generalize F43.alloc (.cells #[.int .i64 v1, .int .i64 v2, .string v3, .int .i64 a1, .int .i64 a2, .string a3] 30) = F44 at *
      generalize F43.heap.size = F44g at *
      refine tillH_next (rs := [29]) (by kernel_rfl) (by simp) ?_
      refine NextH.cons rfl (fun K hK => ?_) (NextH.nil)
      go_simp
      refine (HK.out.arr HL.out).mono ?_
      rintro e F45 ⟨k, cw, ct, rfl, HK2⟩
      have HK := Lib.hid HK2
      clear HK2
      have T45 := HK.out.sb
      refine hK.out _ _ (fun _ => T45) ?_
      clear hK K T44
      (try simp only [Act.put, List.setIfInBounds_toArray, List.set_cons_zero, List.set_cons_succ])
      refine tillH_next (rs := [30]) (by kernel_rfl) (by simp) ?_
      refine NextH.cons rfl (fun K hK => ?_) (NextH.nil)
      go_simp
      have hs := HK.out.show3
      rw [HP3.out] at hs
      refine hs.mono ?_
      rintro e F46 ⟨rfl, bf⟩
      have HK := Lib.hid (HK.out.below bf)
      clear bf hs
      have T46 := HK.out.sb
      refine hK.out _ _ (fun _ => T46) ?_
      clear hK K T45
      (try simp only [Act.put, List.setIfInBounds_toArray, List.set_cons_zero, List.set_cons_succ])
      refine tillH_next (rs := [37]) (by kernel_rfl) (by simp) ?_
      refine NextH.cons rfl (fun K hK => ?_) NextH.nil
      go_simp
      have hs := HK.out.rshow3
      rw [HP3.out] at hs
      refine hs.mono ?_
      rintro e F47 ⟨rfl, bf⟩
      have HK := Lib.hid (HK.out.below bf)
      have SZ := HK.out.sb
      clear bf hs T46
      refine hK.out _ _ (fun _ => SZ) ?_
      clear hK K
      (try simp only [Act.put, List.setIfInBounds_toArray, List.set_cons_zero, List.set_cons_succ])
      refine tillH_takeAny (i := 38) (oi := ?oo59) (v := ?vv59) ?hi59 (by kernel_rfl) (by kernel_rfl) (by kernel_rfl) ?hq59 (by kernel_rfl) ?hy59 (fun _ => SZ) ?hh59
      case hi59 => (simp only [List.getElem?_toArray, List.getElem?_cons_succ, List.getElem?_cons_zero]; rfl)
      case hq59 => exact fun _ _ _ h => h
      case hy59 => exact Or.inl ⟨by rfl, by (intro W; go_simp; (try with_reducible rfl))⟩
      (try simp only [Act.put, List.setIfInBounds_toArray, List.set_cons_zero, List.set_cons_succ])
      refine tillH_takeAny (i := 39) (oi := ?oo60) (v := ?vv60) ?hi60 (by kernel_rfl) (by kernel_rfl) (by kernel_rfl) ?hq60 (by kernel_rfl) ?hy60 (fun _ => SZ) ?hh60
      case hi60 => (simp only [List.getElem?_toArray, List.getElem?_cons_succ, List.getElem?_cons_zero]; rfl)
      case hq60 => exact fun _ _ _ h => h
      case hy60 => exact Or.inl ⟨by rfl, by (intro W; go_simp; (try with_reducible rfl))⟩
      (try simp only [Act.put, List.setIfInBounds_toArray, List.set_cons_zero, List.set_cons_succ])
      clear SZ
      refine tillH_next (rs := [40]) (by kernel_rfl) (by simp) ?_
      refine NextH.cons rfl (fun K hK => ?_) NextH.nil
      go_simp
      refine hK.out _ _ (fun h => absurd h (by simp)) ?_
      clear hK K
      (try simp only [Act.put, List.setIfInBounds_toArray, List.set_cons_zero, List.set_cons_succ])
      refine tillH_done (by kernel_rfl) ?_ _
      refine HKV.out _ _ ?_
      have hb := HK.out.bel
      clear HK HL
      go_wp2
      go_ret
      exact ⟨by simp, hb⟩
end Go.Proofs.YtdeboajjhpecbaaGreatDoor.Hp
