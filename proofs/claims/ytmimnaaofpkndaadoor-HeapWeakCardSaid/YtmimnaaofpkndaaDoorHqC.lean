/- The heap: drain over bodies of any type. -/
import Derived.Test.YtmimnaaofpkndaaDoorHqB
import Derived.StillTailTactics
set_option linter.unusedVariables false
set_option linter.unusedSimpArgs false
namespace Go.Proofs.YtmimnaaofpkndaaDoor.Hp
open Go.RowKit Go.Proofs.YtmimnaaofpkndaaDoor Go.Shelf
attribute [local go_sem] Oper.semAt_some

theorem each_invoke (N : Nat × Nat) (h : N.1 = tObj ∨ N.1 = tEnv ∨ N.1 = tMark) (l : Nat) (W : World) : (invoke (.fn (.method "Each") #[]) #[.iface N.1 (.pointer (some ⟨N.2, 0, none⟩)), .func (.yield l) #[] #[]]).run Tryd.prog W = .ok (.enter (eachF N.1) #[.pointer (some ⟨N.2, 0, none⟩), .func (.yield l) #[] #[]]) W := by
  obtain ⟨t, b⟩ := N
  dsimp only at h
  rcases h with rfl | rfl | rfl <;> kernel_rfl
theorem pairs_of (N : Nat × Nat) (h : N.1 = tObj ∨ N.1 = tEnv ∨ N.1 = tMark) (v : Value) (w : World) : (Instr.typeAssert (.iface N.1 v) 90 108 true).run Tryd.prog w = .ok (.tuple #[if N.1 = tObj then .iface N.1 v else .nilIface, .bool (decide (N.1 = tObj))]) w := by
  obtain ⟨t, b⟩ := N
  dsimp only at h ⊢
  rcases h with rfl | rfl | rfl
  · exact isPairs_obj v w
  · exact noPairs_env v w
  · exact noPairs_mark v w
/-- What drain and settle leave. -/
structure DrEnd (X : Bods) (Oo O : Nat → Prop) (w0 w : World) (A B M B1 : Nat) (cv fv rv : Value) (fr ro : List Int) (live : Int) (cs : List Cell) (pr : List (Nat × Nat)) (O' : Nat → Prop) (w' : World) : Prop where
  mks : ∃ wv pv, MkS w' A B M B1 cv fv rv wv pv cs fr ro live [] pr ∧ Far O' A M A cv fv rv wv pv
  s : X.S O' w'
  new : ∀ k, O' k → O k ∨ w.heap.size ≤ k
  upd : Upd w0 w' (fun k => cv.ownBlock = some k ∨ B1 ≤ k ∨ Oo k)
  ko : KeepsOthers w w'
  kb : ∀ g xs, Blk w g tMkP xs → Blk w' g tMkP xs
theorem BodsOk.put {X : Bods} {bs : Nat × Nat → Prop} (h : BodsOk X bs) {O : Nat → Prop} {W : World} {l : Nat} {o : Obj} (o' : Obj) (hS : X.S O W) (hl : W.heap[l]? = some o) (ho : o.isCells = false) : X.S O (W.putObj l o') :=
  h.keep hS (Upd.put W l o') fun k hk e => by
    subst e
    obtain ⟨c, t, f, e, _⟩ := h.fit hS hk
    rw [e] at hl; cases hl; cases ho
/-- What a function of the marking's leaves, as its caller has it. -/
theorem DrG.next {X : Bods} {bs : Nat × Nat → Prop} (hX : BodsOk X bs) {Oo O O' : Nat → Prop} {w0 w1 W W' : World} {A B M B1 bx : Nat} {cv fv rv : Value} {fr ro : List Int} {live : Int} {Ds : List Nat} {cs cs' : List Cell} {wk : List Int} {pr pr' : List (Nat × Nat)} (h : DrG Oo w0 w1 A B M B1 bx cv fv rv fr ro live Ds cs wk pr O W) (hB : B1 ≤ W.heap.size) (e : DrEnd X Oo O w0 W A B M B1 cv fv rv fr ro live cs' pr' O' W') :
    DrG Oo w0 w1 A B M B1 bx cv fv rv fr ro live Ds cs' [] pr' O' W' := by
  obtain ⟨wv, pv, hm, hf⟩ := e.mks
  obtain ⟨_, _, _, hf1⟩ := h.mks
  have n : ∀ k, k < W.heap.size → ¬ O k → ¬ O' k := fun k hk hn h3 => (e.new k h3).elim hn (fun e => by omega)
  refine ⟨⟨wv, pv, hm, hf.a, hf.m, n _ h.box.lt hf1.b, hf.c, hf.f, hf.r, hf.w, hf.p⟩, e.upd, h.ko.trans e.ko, e.kb _ _ h.box, fun D hD => ⟨(h.ds D hD).1, e.ko.same _ _ (h.ds D hD).2.1 rfl, n _ (Array.getElem?_eq_some_iff.1 (h.ds D hD).2.1).1 (h.ds D hD).2.2⟩, h.nd, fun g xs hb => e.kb _ _ (h.kb g xs hb), fun k hk => (e.new k hk).elim (h.old k) (fun q => .inr (Nat.le_trans hB q)), fun k o hk ho => (e.new k hk).elim (fun q => h.fit k o q ho) (fun q => ?_), fun k hk => hX.lt e.s hk⟩
  have := (Array.getElem?_eq_some_iff.1 ho).1
  have := h.ko.size
  omega
/-- Whatever lies in the temporaries. -/
theorem tmps72 {a b : Value} {d : List Deferred} {G : Prop} {u2 u3 u4 u5 u6 u7 u8 u9 u10 u11 u12 u13 u14 u15 u16 u17 u18 u19 u20 u21 u22 u23 u24 u25 u26 u27 u28 u29 u30 u31 u32 u33 u34 u35 u36 u37 u38 u39 u40 u41 u42 u43 u44 u45 u46 u47 u48 u49 u50 u51 u52 u53 u54 u55 u56 u57 u58 u59 u60 u61 u62 u63 u64 u65 u66 u67 u68 u69 u70 u71 u72 u73 : Value} (h : ∀ t : Nat → Value, (⟨#[a, b, u2, u3, u4, u5, u6, u7, u8, u9, u10, u11, u12, u13, u14, u15, u16, u17, u18, u19, u20, u21, u22, u23, u24, u25, u26, u27, u28, u29, u30, u31, u32, u33, u34, u35, u36, u37, u38, u39, u40, u41, u42, u43, u44, u45, u46, u47, u48, u49, u50, u51, u52, u53, u54, u55, u56, u57, u58, u59, u60, u61, u62, u63, u64, u65, u66, u67, u68, u69, u70, u71, u72, u73], d⟩ : Act) = ⟨#[a, b, t 2, t 3, t 4, t 5, t 6, t 7, t 8, t 9, t 10, t 11, t 12, t 13, t 14, t 15, t 16, t 17, t 18, t 19, t 20, t 21, t 22, t 23, t 24, t 25, t 26, t 27, t 28, t 29, t 30, t 31, t 32, t 33, t 34, t 35, t 36, t 37, t 38, t 39, t 40, t 41, t 42, t 43, t 44, t 45, t 46, t 47, t 48, t 49, t 50, t 51, t 52, t 53, t 54, t 55, t 56, t 57, t 58, t 59, t 60, t 61, t 62, t 63, t 64, t 65, t 66, t 67, t 68, t 69, t 70, t 71, t 72, t 73], d⟩ → G) : G := h (fun i => [u2, u3, u4, u5, u6, u7, u8, u9, u10, u11, u12, u13, u14, u15, u16, u17, u18, u19, u20, u21, u22, u23, u24, u25, u26, u27, u28, u29, u30, u31, u32, u33, u34, u35, u36, u37, u38, u39, u40, u41, u42, u43, u44, u45, u46, u47, u48, u49, u50, u51, u52, u53, u54, u55, u56, u57, u58, u59, u60, u61, u62, u63, u64, u65, u66, u67, u68, u69, u70, u71, u72, u73].getD (i - 2) undef) rfl
/-- Where drain stands ahead of a round. -/
def DrInv (X : Bods) (Oo O : Nat → Prop) (w0 w : World) (A B M B1 : Nat) (cv fv rv : Value) (fr ro : List Int) (live : Int) (nl K : Nat) (Y : List Cell × List (Nat × Nat)) (cs : List Cell) (a : Act) (W : World) : Prop :=
  ∃ t : Nat → Value, ∃ Ds cs1 wk1 pr1 f1 O1, (DrG Oo w0 w A B M B1 w.heap.size cv fv rv fr ro live Ds cs1 wk1 pr1 O1 W ∧ X.S O1 W ∧ (∀ k, O1 k → O k ∨ w.heap.size ≤ k)) ∧ drainP X.to_ f1 cs1 wk1 pr1 = Y ∧ WorkOk cs1 wk1 ∧ (wk1.length + (nl - mc cs1) ≤ f1 ∧ cs1.length = nl ∧ pr1.length + wk1.length + nl ≤ K + mc cs1 ∧ (∀ i, (cs1.getD i (none, false)).1 = (cs.getD i (none, false)).1)) ∧
    a = ⟨#[.pointer (some ⟨M, 0, none⟩), .pointer (some ⟨w.heap.size, 0, none⟩), t 2, t 3, t 4, t 5, t 6, t 7, t 8, t 9, t 10, t 11, t 12, t 13, t 14, t 15, t 16, t 17, t 18, t 19, t 20, t 21, t 22, t 23, t 24, t 25, t 26, t 27, t 28, t 29, t 30, t 31, t 32, t 33, t 34, t 35, t 36, t 37, t 38, t 39, t 40, t 41, t 42, t 43, t 44, t 45, t 46, t 47, t 48, t 49, t 50, t 51, t 52, t 53, t 54, t 55, t 56, t 57, t 58, t 59, t 60, t 61, t 62, t 63, t 64, t 65, t 66, t 67, t 68, t 69, t 70, t 71, t 72, t 73], Ds.map markD⟩
set_option maxHeartbeats 4000000 in
set_option maxRecDepth 100000 in
theorem drain_g {X : Bods} {bs : Nat × Nat → Prop} (hX : BodsOk X bs) {Oo O : Nat → Prop} {w0 w : World} {A B M B1 : Nat} {cv fv rv wv pv : Value} {cs : List Cell} {fr ro : List Int} {live : Int} {wk : List Int} {pr : List (Nat × Nat)} (h : MkS w A B M B1 cv fv rv wv pv cs fr ro live wk pr) (hS : X.S O w) (hf0 : Far O A M A cv fv rv wv pv) (ho : ∀ k, O k → Oo k ∨ B1 ≤ k) (hu : Upd w0 w (fun k => cv.ownBlock = some k ∨ B1 ≤ k ∨ Oo k))
    (hN : ∀ i N, (cs.getD i (none, false)).1 = some N → bs N) (hok : WorkOk cs wk) (hM : B1 ≤ M) (hB1 : B1 ≤ w.heap.size) (hl : cs.length ≤ 1000000) (hwk : wk.length ≤ 1000000) (hpr : pr.length ≤ 1000000) (f : Nat) (hf : wk.length + (cs.length - mc cs) ≤ f) :
    Calls Tryd.prog 48 #[.pointer (some ⟨M, 0, none⟩)] w fun e w' => (∃ v, e = .returned v) ∧ ∃ O', DrEnd X Oo O w0 w A B M B1 cv fv rv fr ro live (drainP X.to_ f cs wk pr).1 (drainP X.to_ f cs wk pr).2 O' w' := by
  obtain ⟨Y, hY⟩ : ∃ Y, drainP X.to_ f cs wk pr = Y := ⟨_, rfl⟩
  obtain ⟨nl, hnl⟩ : ∃ nl, cs.length = nl := ⟨_, rfl⟩
  obtain ⟨K, hK⟩ : ∃ K, pr.length + wk.length + nl - mc cs = K := ⟨_, rfl⟩
  have hmc := mc_le cs
  rw [hY]
  have hfb : Far O A M w.heap.size cv fv rv wv pv := ⟨hf0.a, hf0.m, fun k => Nat.lt_irrefl _ (hX.lt hS k), hf0.c, hf0.f, hf0.r, hf0.w, hf0.p⟩
  obtain ⟨hst, hsS⟩ := DrG.start hX h hS hfb hu ho _ rfl
  obtain ⟨i0, hi, hz0, hz1, hz2⟩ := info_parts infoPairs
  refine calls_of_wp_marks Tryd.func48 rfl ?_
  simp only [Tryd.ntmps48, List.size_toArray, List.length_cons, List.length_nil, Nat.reduceAdd, Nat.reduceSub, Array.replicate_succ, Array.replicate_zero, List.push_toArray, List.append_toArray, List.nil_append, List.cons_append]
  go_wp2_with (fail)
  refine wp_loop (DrInv X Oo O w0 w A B M B1 cv fv rv fr ro live nl K Y cs) (fun _ W => wkN W M + (nl - mkN W A)) ?_ ?_
  · apply tmps72
    intro t ht
    exact ⟨t, [], cs, wk, pr, f, O, ⟨hst, hsS, fun k hk => .inl hk⟩, hY, hok, ⟨by omega, hnl, by omega, fun _ => rfl⟩, ht⟩
  rintro a W ⟨t, Ds, cs1, wk1, pr1, f1, O1, ⟨hI, hS1, hO1⟩, hX1, hok1, ⟨hf1, hl1, hk1, hb1⟩, rfl⟩
  have hmc1 := mc_le cs1
  have y0 := hI.fb
  obtain ⟨wv1, pv1, hm1, hF1⟩ := hI.mks
  obtain ⟨wa, wcap, rfl, hwa⟩ := own_shape hm1.work
  have m1 : W.cell? ⟨M, 1, none⟩ = some (.slice wa wk1.length wcap) := by rw [hm1.mkb.cell]; rfl
  have hMl := hm1.mkb.lt
  rcases snoc_cases wk1 with rfl | ⟨wk2, r, rfl⟩
  · -- nothing is left
    have m1' : W.cell? ⟨M, 1, none⟩ = some (.slice wa 0 wcap) := m1
    clear m1 hwa
    have hX2 : Y = (cs1, pr1) := by rw [← hX1]; cases f1 <;> rfl
    have HF := Lib.hid (And.intro hI (And.intro hS1 (And.intro hO1 hX2)))
    clear hI hm1 hX1 hY hX2 hst hsS h hok1 hok hS1 hO1 hS
    go_wp2_with (fail)
    refine marksOut (b := w.heap.size) (I := fun W2 => DrG Oo w0 w A B M B1 w.heap.size cv fv rv fr ro live [] cs1 [] pr1 O1 W2 ∧ X.S O1 W2) ?_ ?_ Ds W HF.out.1.nd (fun D hD => ⟨(HF.out.1.ds D hD).1, (HF.out.1.ds D hD).2.1⟩) ⟨HF.out.1.noDs, HF.out.2.1⟩
    · intro W1 l o o' hI1 hbl hl1 ho1
      exact ⟨hI1.1.put o' hbl (Nat.le_trans hB1 hbl) (fun D hD => (List.not_mem_nil hD).elim) hl1 ho1, hX.put o' hI1.2 hl1 ho1⟩
    · intro W2 h2
      obtain ⟨wv2, pv2, hm2, hF2⟩ := h2.1.mks
      rw [HF.out.2.2.2]
      exact ⟨_, by first | exact results_none rfl _ _ _ | kernel_rfl | rfl, ⟨_, rfl⟩, O1, ⟨wv2, pv2, hm2, ⟨hF2.a, hF2.m, hF2.a, hF2.c, hF2.f, hF2.r, hF2.w, hF2.p⟩⟩, h2.2, HF.out.2.2.1, h2.1.upd, h2.1.ko, h2.1.kb⟩
  have hlen : (wk2 ++ [r]).length = wk2.length + 1 := by simp
  clear hst hsS
  rw [hlen] at m1 hwa
  obtain ⟨g, rfl⟩ := hwa (by omega)
  obtain ⟨i, N, rfl, hil, hbN⟩ := hok1 r (by simp)
  obtain ⟨ca, ccap, hcv, hca⟩ := own_shape hm1.ar.cells
  obtain ⟨gc, rfl⟩ := hca (by omega)
  subst hcv
  have hNR := (hN i N (by rw [← hb1]; exact hbN))
  have hNt := hX.typ N hNR
  have hcap := own_cap hm1.work
  rw [hlen] at hcap
  have hwc := (hm1.work.cellAt wk2.length (show wk2.length < (wk2 ++ [(i : Int) + 1]).length * 1 by rw [hlen]; omega)).trans (numCells_get _ wk2.length (by rw [hlen]; omega))
  have hlast : (wk2 ++ [(i : Int) + 1]).getD wk2.length 0 = (i : Int) + 1 := by rw [List.getD_eq_getElem?_getD, List.getElem?_append_right (Nat.le_refl _), Nat.sub_self]; rfl
  rw [hlast] at hwc
  obtain ⟨nw, hnw⟩ : ∃ nw, wk2.length = nw := ⟨_, rfl⟩
  rw [hl1] at hil
  rw [hnw] at m1 hwc
  have hnwb : nw ≤ 100000000 := by rw [hlen, hnw] at hk1; omega
  have z8 : nw ≤ wcap := by rw [hnw] at hcap; omega
  have a1' : IntKind.i64.wrap ((nw : Int) + 1 - 1) = (nw : Int) := by rw [IntWalk.i64_in _ (by omega)]; omega
  have a1'' : IntKind.i64.wrap (nw : Int) = (nw : Int) := IntWalk.i64_in _ (by omega)
  have a2' : IntKind.i64.wrap (i : Int) = (i : Int) := IntWalk.i64_in _ (by omega)
  have z6' : (nw : Int) < (nw : Int) + 1 := by omega
  have e1 : (nw : Int) + 1 - 1 = (nw : Int) := by omega
  have e2 : (i : Int) + 1 - 1 = (i : Int) := by omega
  have L1 : decide ((0 : Int) < ((nw + 1 : Nat) : Int)) = true := by rw [decide_eq_true_eq]; omega
  have z2 : (0 : Int) ≤ (i : Int) := by omega
  have z3 : (i : Int) < (nl : Int) := by omega
  have z4 : (i : Int).toNat = i := by omega
  have z5 : (0 : Int) ≤ (nw : Int) := by omega
  have z7 : (nw : Int).toNat = nw := by omega
  have hmeas : wkN W M = nw + 1 ∧ mkN W A = mc cs1 := ⟨by rw [hI.wkN, hlen, hnw], hI.mkN⟩
  have HI := Lib.hid hI
  have HM := Lib.hid (And.intro hm1 hF1)
  have HSO := Lib.hid (And.intro hS1 hO1)
  have HR := Lib.hid (And.intro hX1 (And.intro hok1 (And.intro hf1 (And.intro hk1 (And.intro hb1 (And.intro hbN (And.intro hcap hmeas)))))))
  have HN := Lib.hid (And.intro hNR hNt)
  have HL := Lib.hid hnw
  have HO := Lib.hid (And.intro hN (And.intro hu (And.intro hf (And.intro hK ho))))
  clear hcap hN hu hf hK ho hmeas
  clear hI hm1 hF1 hX1 hok1 hf1 hk1 hb1 hbN hNR hnw hlast hlen hY h hok hS1 hO1 hNt hS hf0 hfb
  go_wp2_with (fail)
  go_quiet (fail)
  go_wp2_with (fail)
  refine still_tail 12 (by kernel_rfl) (by kernel_rfl) (fun W2 hW2 => ?_)
  have hI2 := Lib.hid ((HI.out.drewN nq).drewN 1)
  have hm2 := Lib.hid ((HM.out.1.drewN nq).drewN 1)
  have hS2 := Lib.hid (hX.keep HSO.out.1 (((Upd.refl W (fun _ => False)).drewN nq).drewN 1) (fun _ _ e => e))
  clear m1 y0 hwc
  rw [← hW2] at hI2 hm2 hS2
  clear hW2
  have y0 := hI2.out.fb
  have m1 := hm2.out.f1
  rw [show (wk2 ++ [(i : Int) + 1]).length = nw + 1 by simp [HL.out]] at m1
  simp only [List.take_succ_cons, List.take_zero, List.drop_succ_cons, List.drop_zero]
  repeat still_step
  refine wpStill_nil ?_
  have z1 := hm2.out.mkb.frozen 1
  have l1 := hm2.out.mkb.lt
  have hm4 := hm2.out.pop rfl
  have uM := setc_upd W2 M 1 (.slice (some ⟨g, 0, none⟩) wk2.length wcap)
  have hF4 : Far O1 A M w.heap.size (.slice (some ⟨gc, 0, none⟩) cs1.length ccap) fv rv (.slice (some ⟨g, 0, none⟩) wk2.length wcap) pv1 := ⟨HM.out.2.a, HM.out.2.m, HM.out.2.b, HM.out.2.c, HM.out.2.f, HM.out.2.r, fun g' hg' => HM.out.2.w g' hg', HM.out.2.p⟩
  have hI4 := hI2.out.turn ⟨_, _, hm4, hF4⟩ uM (fun k e => .inr (by rw [e]; exact hM)) (fun g' xs' hb' e => hm2.out.mkb.ne_ hb' (by decide) e.symm) (KeepsOthers.setCell W2 _ _)
  have hS4 := hX.keep hS2.out uM (fun k hk e => HM.out.2.m (e ▸ hk))
  rw [HL.out] at hm4 hI4 hS4
  have y4 := hI4.fb
  have m4 := hm4.f0
  have x4 := hm4.fc
  have c4 := hm4.body rfl (by rw [hl1]; exact hil) HR.out.2.2.2.2.2.1
  rw [hl1] at x4
  have HI4 := Lib.hid hI4
  have HM4 := Lib.hid hm4
  have HS4 := Lib.hid hS4
  clear hI4 hm4 hI2 hm2 hS2 hS4 uM hF4
  go_wp2_with (fail)
  obtain ⟨W4, hW4⟩ : ∃ W4, W2.setCell ⟨M, 1, none⟩ (.slice (some ⟨g, 0, none⟩) nw wcap) = W4 := ⟨_, rfl⟩
  rw [hW4] at HI4 HM4 HS4 ⊢
  clear hW4 y4 m4 x4 c4 y0 m1 z1 l1
  have hB4 : B1 ≤ W4.heap.size := Nat.le_trans hB1 HI4.out.ko.size
  refine wpIn_wide.1 (wpIn_range_g (F := Fence.wide) (n := 9) rfl (by decide) (gf := eachF N.1) (argsOf := fun l => #[.pointer (some ⟨N.2, 0, none⟩), .func (.yield l) #[] #[]]) ?res (encs := fun x => #[.int .i64 x]) (fun _ => rfl) (X.to_ N) O1 ?lt0 (BFin X) ?seq (fun O' W' l o hF hl => hX.fin hF hl)
    (fun O' pre W' => DrG Oo w0 w A B M B1 w.heap.size (.slice (some ⟨gc, 0, none⟩) cs1.length ccap) fv rv fr ro live Ds (pre.foldl reachP (cs1, wk2)).1 (pre.foldl reachP (cs1, wk2)).2 pr1 O' W' ∧ (∀ k, O' k → O1 k ∨ W4.heap.size ≤ k) ∧ W4.heap.size ≤ W'.heap.size) ?iup ?igr ?iput ?h0 ?act ?assign ?body ?done)
  case res => exact fun l W => ⟨({ target := .fn (.method "Each") #[], args := #[.iface N.1 (.pointer (some ⟨N.2, 0, none⟩)), .func (.yield l) #[] #[]] } : Deferred), by kernel_rfl, fun _ _ => trivial, each_invoke N HN.out.2 l W⟩
  case lt0 => exact fun k hk => hX.lt HS4.out hk
  case seq => exact fun l W' u => hX.each N HN.out.1 O1 W' l (hX.keep HS4.out u (fun _ _ e => e))
  case iup => exact fun O' pre W1 W1' h1 u => ⟨h1.1.own u, h1.2.1, Nat.le_trans h1.2.2 u.size⟩
  case igr => exact fun O' O'' pre W1 W1' h1 u g1 g2 g3 => ⟨h1.1.wide (Nat.le_trans hB1 h1.1.ko.size) u g2 g3, fun k hk => (g2 k hk).elim (h1.2.1 k) (fun e => .inr (Nat.le_trans h1.2.2 e)), Nat.le_trans h1.2.2 u.size⟩
  case iput => exact fun O' pre W1 l o o' h1 hl hk ho => ⟨h1.1.put o' (Nat.le_trans HI4.out.ko.size hl) (Nat.le_trans hB4 hl) (fun D hD e => by have := (Array.getElem?_eq_some_iff.1 (HI4.out.ds D hD).2.1).1; omega) hk ho, h1.2.1, by simpa using h1.2.2⟩
  case h0 => exact fun O' W1 u hO' hlt => ⟨HI4.out.wide hB4 u hO' hlt, hO', u.size⟩
  case assign =>
    intro l x W K hK
    gi_wp2
    exact hK
  case body =>
    intro l O' pre x W1 hI1 hpre
    obtain ⟨hI1, hO'⟩ := hI1
    obtain ⟨wv5, pv5, hm5, hF5⟩ := hI1.mks
    have y5 := hI1.fb
    have hfl := foldl_len pre (cs1, wk2)
    have hfm := foldl_mc pre (cs1, wk2)
    have hfc := mc_le (pre.foldl reachP (cs1, wk2)).1
    have hcs5 : (pre.foldl reachP (cs1, wk2)).1.length ≤ 100000000 := by rw [hfl, hl1, ← hnl]; omega
    have hwk5 : (pre.foldl reachP (cs1, wk2)).2.length ≤ 100000000 := by
      rw [hfl] at hfc
      have := HR.out.2.2.2.1
      have h3 := HO.out.2.2.2.1
      simp only [List.length_append, List.length_cons, List.length_nil] at this hfm
      simp only at hfc
      omega
    have hrc := reach_any hm5 x hcs5 hwk5 hM (Nat.le_trans hB1 hI1.ko.size)
    have HI5 := Lib.hid (And.intro hI1 hO')
    have HM5 := Lib.hid (And.intro hm5 hF5)
    clear hI1 hm5 hF5 hfl hfm hfc hO'
    gi_wp2_with (fail)
    refine ⟨trivial, ?_⟩
    refine (CallsIn.inRound l (callsIn_wide.2 hrc)).mono ?_
    rintro e W6 ⟨rfl, wv6, hm6, hU6, hK6, hV6⟩
    gi_wp2
    have hsn : (pre ++ [x]).foldl reachP (cs1, wk2) = reachP (pre.foldl reachP (cs1, wk2)) x := by rw [List.foldl_append]; rfl
    have hF5 := HM5.out.2
    refine ⟨hK6, hU6.mono (fun k _ e hk => ?_), ?_, HI5.out.2.1, Nat.le_trans HI5.out.2.2 hU6.size⟩
    · rcases e with e | rfl | e
      · exact hF5.c k e hk
      · exact hF5.m hk
      · exact hF5.w k e hk
    (try dsimp only)
    rw [hsn]
    refine HI5.out.1.turn ⟨_, _, hm6, ⟨hF5.a, hF5.m, hF5.b, hF5.c, hF5.f, hF5.r, fun g' hg' hk' => ?_, hF5.p⟩⟩ hU6 (fun k e => ?_) (fun g' xs' hb' e => ?_) hK6
    · rcases hV6 g' hg' with e | e
      · exact hF5.w g' e hk'
      · have := HI5.out.1.lt g' hk'; omega
    · rcases e with e | rfl | e
      · exact .inl e
      · exact .inr hM
      · exact .inr (HM5.out.1.work.lt k e).1
    · rcases e with e | e | e
      · exact own_blk_ne HM5.out.1.ar.cells hb' (by decide) e
      · exact HM5.out.1.mkb.ne_ hb' (by decide) e.symm
      · exact own_blk_ne HM5.out.1.work hb' (by decide) e
  case done =>
    intro O' D1 W5 hD1 hOD hF5 hI1 hk1
    obtain ⟨hI1, hO'⟩ := hI1
    have hI5a := hI1.mark HI4.out.ko.size hD1 (fun D hD => (Array.getElem?_eq_some_iff.1 (HI4.out.ds D hD).2.1).1) hk1 hOD
    obtain ⟨O2, hS5, hO2⟩ := hF5
    have hI5 := hI5a.sub hO2
    have hOn : ∀ k, O2 k → O k ∨ w.heap.size ≤ k := fun k hk => (hO'.1 k (hO2 k hk)).elim (HSO.out.2 k) (fun e => .inr (Nat.le_trans HI4.out.ko.size e))
    obtain ⟨wv5, pv5, hm5, hF5⟩ := hI5.mks
    have hfl := foldl_len (X.to_ N) (cs1, wk2)
    have hfm := foldl_mc (X.to_ N) (cs1, wk2)
    have hfc := mc_le ((X.to_ N).foldl reachP (cs1, wk2)).1
    have hfb := foldl_body (X.to_ N) (cs1, wk2)
    have hfo := foldl_ok (X.to_ N) (cs1, wk2)
    obtain ⟨s, hs⟩ : ∃ s, (X.to_ N).foldl reachP (cs1, wk2) = s := ⟨_, rfl⟩
    rw [hs] at hI5 hm5 hfl hfm hfc hfb hfo
    obtain ⟨cs5, wk5⟩ := s
    dsimp only at hI5 hm5 hfl hfm hfc hfb hfo
    clear hI1 hI5a hOD hk1 hO' hO2
    obtain ⟨pa, pcap, rfl, _⟩ := own_shape hm5.prs
    obtain ⟨np, hnp⟩ : ∃ np, pr1.length = np := ⟨_, rfl⟩
    have hB5 : B1 ≤ W5.heap.size := Nat.le_trans hB1 hI5.ko.size
    have y5 := hI5.fb
    have m5 := hm5.f2
    rw [hnp] at m5
    have z5' := hm5.mkb.frozen 2
    have l5 := hm5.mkb.lt
    have l6 := hI5.box.lt
    have hnpb : np ≤ 100000000 := by
      have := HR.out.2.2.2.1
      have h3 := HO.out.2.2.2.1
      simp only [List.length_append, List.length_cons, List.length_nil] at this
      omega
    have hpr5 := hm5.prs
    rw [hnp] at hpr5
    have hnews := World.news_of_block (cs := #[bodyV (some N)]) (t := 108) (fr := (0, 0)) (heap_alloc_new W5 (.cells #[bodyV (some N)] 108))
    simp only [bodyV] at hnews
    have HS := Lib.hid (And.intro hs (And.intro hfl (And.intro hfm (And.intro hfb hfo))))
    have HI5 := Lib.hid hI5
    have HM5 := Lib.hid (And.intro hm5 hF5)
    have HS5 := Lib.hid (And.intro hS5 hOn)
    have HP := Lib.hid hnp
    clear hI5 hm5 hs hfl hfm hfb hfo hfc hnp hF5 hS5 hOn
    have hfin : ∀ (pr2 : List (Nat × Nat)) (W6 : World) (t' : Nat → Value) (a' : Act), (pr2 = pr1 ++ if N.1 = tObj then [N] else []) → DrG Oo w0 w A B M B1 w.heap.size (.slice (some ⟨gc, 0, none⟩) cs1.length ccap) fv rv fr ro live (D1 :: Ds) cs5 wk5 pr2 O2 W6 → X.S O2 W6 →
        a' = ⟨#[.pointer (some ⟨M, 0, none⟩), .pointer (some ⟨w.heap.size, 0, none⟩), t' 2, t' 3, t' 4, t' 5, t' 6, t' 7, t' 8, t' 9, t' 10, t' 11, t' 12, t' 13, t' 14, t' 15, t' 16, t' 17, t' 18, t' 19, t' 20, t' 21, t' 22, t' 23, t' 24, t' 25, t' 26, t' 27, t' 28, t' 29, t' 30, t' 31, t' 32, t' 33, t' 34, t' 35, t' 36, t' 37, t' 38, t' 39, t' 40, t' 41, t' 42, t' 43, t' 44, t' 45, t' 46, t' 47, t' 48, t' 49, t' 50, t' 51, t' 52, t' 53, t' 54, t' 55, t' 56, t' 57, t' 58, t' 59, t' 60, t' 61, t' 62, t' 63, t' 64, t' 65, t' 66, t' 67, t' 68, t' 69, t' 70, t' 71, t' 72, t' 73], (D1 :: Ds).map markD⟩ →
        DrInv X Oo O w0 w A B M B1 (.slice (some ⟨gc, 0, none⟩) cs1.length ccap) fv rv fr ro live nl K Y cs a' W6 ∧ wkN W6 M + (nl - mkN W6 A) < wkN W M + (nl - mkN W A) := by
      intro pr2 W6 t' a' hp2 hI6 hS6 ha'
      obtain ⟨r1, r2, r3, r4, r5, r6, r7, r8, r9⟩ := HR.out
      obtain ⟨s1, s2, s3, s4, s5⟩ := HS.out
      have hlen : (wk2 ++ [(i : Int) + 1]).length = wk2.length + 1 := by simp
      rw [hlen] at r3 r4
      have hf2 : f1 = (f1 - 1) + 1 := by omega
      have hmc5 := mc_le cs5
      have hL2 : pr2.length ≤ pr1.length + 1 := by
        rw [hp2, List.length_append]
        split <;> simp
      have hnw := HL.out
      refine ⟨⟨t', D1 :: Ds, cs5, wk5, pr2, f1 - 1, O2, ⟨hI6, hS6, HS5.out.2⟩, ?_, s5 (fun r hr => r2 r (List.mem_append_left _ hr)), ⟨?_, ?_, ?_, fun j => ?_⟩, ha'⟩, ?_⟩
      · rw [← r1, hf2, drainP]
        simp only [List.getLast?_append, List.getLast?_singleton, Option.some_or, List.dropLast_concat, Nat.add_sub_cancel]
        rw [show ((i : Int) + 1 - 1).toNat = i by omega, r6]
        dsimp only
        rw [s1, hp2]
      · omega
      · omega
      · omega
      · rw [← r5 j, s4 j]
      · rw [r8, r9, hI6.wkN, hI6.mkN]
        omega
    have HFIN := Lib.hid hfin
    clear hfin
    have HA := Lib.hid (pairs_of N HN.out.2)
    by_cases hto : N.1 = tObj
    · have q2 : ∀ (v : Value) (w : World), (Instr.typeAssert (.iface N.1 v) 90 108 true).run Tryd.prog w = .ok (.tuple #[.iface N.1 v, .bool true]) w := fun v w => by rw [HA.out, if_pos hto, decide_eq_true hto]
      have HTO := Lib.hid hto
      clear hto HA
      go_wp2_with (fail)
      refine wp_var (fun K hKn => ?_)
      go_cut [] from 64 to 73 (fun wx => ∃ gq capq w1, (W5.alloc (.cells #[.iface N.1 (.pointer (some ⟨N.2, 0, none⟩))] 108)).grownBy w1 (Value.slice pa np pcap).ownBlock ∧ w1.ownsRow B1 108 1 (.slice (some ⟨gq, 0, none⟩) (np + 1) capq) (np + 1) (pvCells pr1 ++ [.iface N.1 (.pointer (some ⟨N.2, 0, none⟩))]) ∧ ((Value.slice pa np pcap).ownBlock = some gq ∨ W5.heap.size ≤ gq) ∧ wx = w1.setCell ⟨M, 2, none⟩ (.slice (some ⟨gq, 0, none⟩) (np + 1) capq))
      case first =>
        go_region_law ((refine step_append_lies _ (by rfl) _ _ _ (by rfl) B1 108 i0 .nilIface 1 16 Tryd.underlying102 hi hz0 hz1 hz2 rfl (by omega) (.slice pa np pcap) np (pvCells pr1) (by rfl) ((hpr5.alloc _).drew) ⟨W5.heap.size, 0, none⟩ 1 1 [.iface N.1 (.pointer (some ⟨N.2, 0, none⟩))] (by rfl) (by rfl) hnews (by simp [Value.oneCell']) (by omega) (by unfold maxLen; omega) (by omega) (by simp; omega) (W5.heap.size + 1) (by simp) ?_; intro gq capq w1 hown1 hgrow hat hlt; obtain ⟨d9, e9, l9⟩ := HM5.out.1.mid ⟨hgrow.os, hgrow.tape, hgrow.output, hgrow.size, hgrow.block⟩ (by rw [HP.out]); rw [HP.out] at d9; have d10 := box_mid HM5.out.1 HI5.out.box ⟨hgrow.os, hgrow.tape, hgrow.output, hgrow.size, hgrow.block⟩ (by rw [HP.out])))
        all_goals
          go_wp2_with fail
          go_meet
          exact ⟨gq, capq, w1, ⟨hgrow.os, hgrow.tape, hgrow.output, hgrow.size, hgrow.block⟩, hown1, hat.imp id (fun e => by omega), rfl⟩
      case rest =>
      obtain ⟨gq, capq, w1, hgrow, hown1, hat1, rfl⟩ := hcut
      rw [← HP.out] at hgrow hown1 hat1 ⊢
      obtain ⟨p1, p2, p3⟩ := HM5.out.1.push hgrow hown1
      have hF5 := HM5.out.2
      have hI6 := HI5.out.turn ⟨_, _, p1, ⟨hF5.a, hF5.m, hF5.b, hF5.c, hF5.f, hF5.r, hF5.w, fun g' hg' hk' => ?e0⟩⟩ p2 (fun k e => ?e1) (fun g' xs' hb' e => ?e2) p3
      case e0 =>
        obtain rfl : gq = g' := by simpa [Value.ownBlock] using hg'
        rcases hat1 with e | e
        · exact hF5.p _ e hk'
        · have := HI5.out.lt _ hk'; omega
      case e1 =>
        rcases e with e | rfl
        · exact .inr (HM5.out.1.prs.lt k e).1
        · exact .inr hM
      case e2 =>
        rcases e with e | e
        · exact own_blk_ne HM5.out.1.prs hb' (by decide) e
        · exact HM5.out.1.mkb.ne_ hb' (by decide) e.symm
      have hS6 := hX.keep HS5.out.1 p2 (fun k hk e => by
        rcases e with e | rfl
        · exact hF5.p k e hk
        · exact hF5.m hk)
      refine hKn.out _ _ ?_
      apply tmps72
      intro t' ht'
      exact HFIN.out (pr1 ++ [N]) _ t' _ (by rw [if_pos HTO.out]) hI6 hS6 ht'
    · have q2 : ∀ (v : Value) (w : World), (Instr.typeAssert (.iface N.1 v) 90 108 true).run Tryd.prog w = .ok (.tuple #[.nilIface, .bool false]) w := fun v w => by rw [HA.out, if_neg hto, decide_eq_false hto]
      have HTO := Lib.hid hto
      clear hto HA hl1
      go_wp2_with (fail)
      apply tmps72
      intro t' ht'
      have hh := HFIN.out pr1 _ t' _ (by rw [if_neg HTO.out, List.append_nil]) HI5.out HS5.out.1 ht'
      exact hh
end Go.Proofs.YtmimnaaofpkndaaDoor.Hp
