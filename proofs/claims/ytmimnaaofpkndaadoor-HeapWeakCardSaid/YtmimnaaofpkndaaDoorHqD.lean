/- The heap: settle over bodies of any type. -/
import Derived.Test.YtmimnaaofpkndaaDoorHqC
set_option linter.unusedVariables false
set_option linter.unusedSimpArgs false
namespace Go.Proofs.YtmimnaaofpkndaaDoor.Hp
open Go.RowKit Go.Proofs.YtmimnaaofpkndaaDoor Go.Shelf
attribute [local go_sem] Oper.semAt_some

def bv : Value → Nat
  | .bool true => 1
  | _ => 0
/-! Whatever lies in the temporaries. -/
theorem tmpsO {d : List Deferred} {G : Prop} {u3 u4 u5 u6 u7 u8 u9 u10 u11 u12 u13 u14 u15 u16 u17 u18 u19 u20 u21 u22 u23 u24 u25 u26 u27 u28 u29 u30 u31 u32 u33 u34 u35 u36 u37 u38 u39 u40 f0 f1 f2 : Value} (h : ∀ t : Nat → Value, (⟨#[f0, f1, f2, u3, u4, u5, u6, u7, u8, u9, u10, u11, u12, u13, u14, u15, u16, u17, u18, u19, u20, u21, u22, u23, u24, u25, u26, u27, u28, u29, u30, u31, u32, u33, u34, u35, u36, u37, u38, u39, u40], d⟩ : Act) = ⟨#[f0, f1, f2, t 3, t 4, t 5, t 6, t 7, t 8, t 9, t 10, t 11, t 12, t 13, t 14, t 15, t 16, t 17, t 18, t 19, t 20, t 21, t 22, t 23, t 24, t 25, t 26, t 27, t 28, t 29, t 30, t 31, t 32, t 33, t 34, t 35, t 36, t 37, t 38, t 39, t 40], d⟩ → G) : G := h (fun i => [f0, f1, f2, u3, u4, u5, u6, u7, u8, u9, u10, u11, u12, u13, u14, u15, u16, u17, u18, u19, u20, u21, u22, u23, u24, u25, u26, u27, u28, u29, u30, u31, u32, u33, u34, u35, u36, u37, u38, u39, u40].getD i undef) rfl
theorem tmpsI {d : List Deferred} {G : Prop} {u3 u4 u5 u6 u7 u8 u9 u10 u14 u15 u16 u17 u18 u19 u20 u21 u22 u23 u24 u25 u26 u27 u28 u29 u30 u31 u32 u33 u34 u35 u36 u37 u38 u39 u40 f0 f1 f2 f11 f12 f13 : Value} (h : ∀ t : Nat → Value, (⟨#[f0, f1, f2, u3, u4, u5, u6, u7, u8, u9, u10, f11, f12, f13, u14, u15, u16, u17, u18, u19, u20, u21, u22, u23, u24, u25, u26, u27, u28, u29, u30, u31, u32, u33, u34, u35, u36, u37, u38, u39, u40], d⟩ : Act) = ⟨#[f0, f1, f2, t 3, t 4, t 5, t 6, t 7, t 8, t 9, t 10, f11, f12, f13, t 14, t 15, t 16, t 17, t 18, t 19, t 20, t 21, t 22, t 23, t 24, t 25, t 26, t 27, t 28, t 29, t 30, t 31, t 32, t 33, t 34, t 35, t 36, t 37, t 38, t 39, t 40], d⟩ → G) : G := h (fun i => [f0, f1, f2, u3, u4, u5, u6, u7, u8, u9, u10, f11, f12, f13, u14, u15, u16, u17, u18, u19, u20, u21, u22, u23, u24, u25, u26, u27, u28, u29, u30, u31, u32, u33, u34, u35, u36, u37, u38, u39, u40].getD i undef) rfl
theorem pairs_invoke (N : Nat × Nat) (h : N.1 = tObj) (l : Nat) (W : World) : (invoke (.fn (.method "Pairs") #[]) #[.iface N.1 (.pointer (some ⟨N.2, 0, none⟩)), .func (.yield l) #[] #[]]).run Tryd.prog W = .ok (.enter 123 #[.pointer (some ⟨N.2, 0, none⟩), .func (.yield l) #[] #[]]) W := by
  obtain ⟨t, b⟩ := N
  dsimp only at h
  subst h
  kernel_rfl
/-- Where settle stands ahead of a round: to be gone on with, or settled. -/
def StQ (toF : Nat × Nat → List Int) (tab : Nat × Nat → List Pr) (nl : Nat) (X : List Cell × List (Nat × Nat)) (cs : List Cell) (pr : List (Nat × Nat)) : Bool → Prop
  | true => ∃ f, nl - mc cs < f ∧ settleP toF tab f cs pr = X
  | false => (cs, pr) = X
set_option maxHeartbeats 4000000 in
set_option maxRecDepth 100000 in
theorem settle_g {X : Bods} {bs : Nat × Nat → Prop} (hX : BodsOk X bs) {Oo O : Nat → Prop} {w0 w : World} {A B M B1 : Nat} {cv fv rv wv pv : Value} {cs : List Cell} {fr ro : List Int} {live : Int} {pr : List (Nat × Nat)} (h : MkS w A B M B1 cv fv rv wv pv cs fr ro live [] pr) (hS : X.S O w) (hf0 : Far O A M A cv fv rv wv pv) (ho : ∀ k, O k → Oo k ∨ B1 ≤ k) (hu : Upd w0 w (fun k => cv.ownBlock = some k ∨ B1 ≤ k ∨ Oo k))
    (hN : ∀ i N, (cs.getD i (none, false)).1 = some N → bs N) (hok : PrOk cs pr) (hM : B1 ≤ M) (hB1 : B1 ≤ w.heap.size) (hl : cs.length ≤ 400000) (hpr : pr.length ≤ 400000) (f : Nat) (hf : cs.length - mc cs < f) :
    Calls Tryd.prog 49 #[.pointer (some ⟨M, 0, none⟩)] w fun e w' => (∃ v, e = .returned v) ∧ ∃ O', DrEnd X Oo O w0 w A B M B1 cv fv rv fr ro live (settleP X.to_ X.tab f cs pr).1 (settleP X.to_ X.tab f cs pr).2 O' w' := by
  obtain ⟨Y, hY⟩ : ∃ Y, settleP X.to_ X.tab f cs pr = Y := ⟨_, rfl⟩
  obtain ⟨nl, hnl⟩ : ∃ nl, cs.length = nl := ⟨_, rfl⟩
  obtain ⟨K, hK⟩ : ∃ K, pr.length + nl - mc cs = K := ⟨_, rfl⟩
  have hmc := mc_le cs
  rw [hY]
  have hfb : Far O A M w.heap.size cv fv rv wv pv := ⟨hf0.a, hf0.m, fun k => Nat.lt_irrefl _ (hX.lt hS k), hf0.c, hf0.f, hf0.r, hf0.w, hf0.p⟩
  obtain ⟨hst, hsS⟩ := DrG.start hX h hS hfb hu ho _ rfl
  have HO := Lib.hid (And.intro hN (And.intro hK (And.intro hmc (And.intro hf (And.intro hu ho)))))
  clear hN hf hu ho hfb hf0
  refine calls_of_wp_marks Tryd.func49 rfl ?_
  simp only [Tryd.ntmps49, List.size_toArray, List.length_cons, List.length_nil, Nat.reduceAdd, Nat.reduceSub, Array.replicate_succ, Array.replicate_zero, List.push_toArray, List.append_toArray, List.nil_append, List.cons_append]
  go_wp2_with (fail)
  refine wp_loop (fun a W => ∃ t : Nat → Value, ∃ Ds again cs1 pr1 O1, (DrG Oo w0 w A B M B1 w.heap.size cv fv rv fr ro live Ds cs1 [] pr1 O1 W ∧ X.S O1 W ∧ (∀ k, O1 k → O k ∨ w.heap.size ≤ k)) ∧ (cs1.length = nl ∧ pr1.length + nl ≤ K + mc cs1 ∧ (∀ i, (cs1.getD i (none, false)).1 = (cs.getD i (none, false)).1) ∧ PrOk cs1 pr1) ∧ StQ X.to_ X.tab nl Y cs1 pr1 again ∧
    a = ⟨#[.pointer (some ⟨M, 0, none⟩), .pointer (some ⟨w.heap.size, 0, none⟩), .bool again, t 3, t 4, t 5, t 6, t 7, t 8, t 9, t 10, t 11, t 12, t 13, t 14, t 15, t 16, t 17, t 18, t 19, t 20, t 21, t 22, t 23, t 24, t 25, t 26, t 27, t 28, t 29, t 30, t 31, t 32, t 33, t 34, t 35, t 36, t 37, t 38, t 39, t 40], Ds.map markD⟩) (fun a W => 2 * (nl - mkN W A) + bv (a.tmps.getD 2 undef)) ?_ ?_
  · apply tmpsO
    intro t ht
    exact ⟨t, [], true, cs, pr, O, ⟨hst, hsS, fun k hk => .inl hk⟩, ⟨hnl, by omega, fun _ => rfl, hok⟩, ⟨f, by rw [← hnl]; exact HO.out.2.2.2.1, hY⟩, ht⟩
  rintro a W ⟨t, Ds, again, cs1, pr1, O1, ⟨hI, hS1, hO1⟩, ⟨hl1, hk1, hb1, hp1⟩, hQ, rfl⟩
  cases again with
  | false =>
    have hX2 : (cs1, pr1) = Y := hQ
    have HF := Lib.hid (And.intro hI (And.intro hS1 (And.intro hO1 hX2)))
    clear hI hY hX2 hst hsS h hp1 hok hQ hS1 hO1 hS
    go_wp2_with (fail)
    refine marksOut (b := w.heap.size) (I := fun W2 => DrG Oo w0 w A B M B1 w.heap.size cv fv rv fr ro live [] cs1 [] pr1 O1 W2 ∧ X.S O1 W2) ?_ ?_ Ds W HF.out.1.nd (fun D hD => ⟨(HF.out.1.ds D hD).1, (HF.out.1.ds D hD).2.1⟩) ⟨HF.out.1.noDs, HF.out.2.1⟩
    · intro W1 l o o' hI1 hbl hl1 ho1
      exact ⟨hI1.1.put o' hbl (Nat.le_trans hB1 hbl) (fun D hD => (List.not_mem_nil hD).elim) hl1 ho1, hX.put o' hI1.2 hl1 ho1⟩
    · intro W2 h2
      obtain ⟨wv2, pv2, hm2, hF2⟩ := h2.1.mks
      rw [← HF.out.2.2.2]
      exact ⟨_, by first | exact results_none rfl _ _ _ | kernel_rfl | rfl, ⟨_, rfl⟩, O1, ⟨wv2, pv2, hm2, ⟨hF2.a, hF2.m, hF2.a, hF2.c, hF2.f, hF2.r, hF2.w, hF2.p⟩⟩, h2.2, HF.out.2.2.1, h2.1.upd, h2.1.ko, h2.1.kb⟩
  | true =>
    obtain ⟨f1, hf1, hX1⟩ : ∃ f, nl - mc cs1 < f ∧ settleP X.to_ X.tab f cs1 pr1 = Y := hQ
    have y0 := hI.fb
    obtain ⟨wv1, pv1, hm1, hF1⟩ := hI.mks
    obtain ⟨pa, pcap, rfl, hpa⟩ := own_shape hm1.prs
    obtain ⟨np, hnp⟩ : ∃ np, pr1.length = np := ⟨_, rfl⟩
    have m2 := hm1.f2
    have l1 := hm1.mkb.lt
    rw [hnp] at m2 hpa
    have hnpb : np ≤ 1000000 := by have := mc_le cs1; omega
    have HR := Lib.hid (And.intro hf1 (And.intro hX1 (And.intro hk1 (And.intro hb1 (And.intro hp1 hnp)))))
    have HI := Lib.hid (And.intro hI (And.intro hS1 hO1))
    clear hI hm1 hF1 hY hX1 hst hsS h hp1 hok hf1 hk1 hb1 hnp hS1 hO1 hS
    go_wp2_with (fail)
    refine wp_loop (fun a W1 => ∃ t : Nat → Value, ∃ Ds1 k O2, k ≤ np ∧ (DrG Oo w0 w A B M B1 w.heap.size cv fv rv fr ro live Ds1 (pairsP X.tab (pr1.take k) (cs1, [])).1 (pairsP X.tab (pr1.take k) (cs1, [])).2 pr1 O2 W1 ∧ X.S O2 W1 ∧ (∀ k, O2 k → O k ∨ w.heap.size ≤ k)) ∧ W1.cell? ⟨M, 2, none⟩ = some (.slice pa np pcap) ∧
      a = ⟨#[.pointer (some ⟨M, 0, none⟩), .pointer (some ⟨w.heap.size, 0, none⟩), .bool false, t 3, t 4, t 5, t 6, t 7, t 8, t 9, t 10, .slice pa np pcap, .int .i64 (np : Int), .int .i64 (k : Int), t 14, t 15, t 16, t 17, t 18, t 19, t 20, t 21, t 22, t 23, t 24, t 25, t 26, t 27, t 28, t 29, t 30, t 31, t 32, t 33, t 34, t 35, t 36, t 37, t 38, t 39, t 40], Ds1.map markD⟩) (fun a _ => np - (intOf (a.tmps.getD 13 undef)).toNat) ?_ ?_
    · apply tmpsI
      intro t' ht'
      exact ⟨t', Ds, 0, O1, Nat.zero_le _, HI.out, m2, ht'⟩
    clear y0 m2 l1
    rintro a W1 ⟨t1, Ds1, k, O2, hk, ⟨hI1, hS2, hO2⟩, m2, rfl⟩
    by_cases hlt : k < np
    · have L1 : decide ((k : Int) < (np : Int)) = true := by rw [decide_eq_true_eq]; omega
      obtain ⟨pg, rfl⟩ := hpa (by omega)
      have y0 := hI1.fb
      obtain ⟨wv1, hm1, hF1⟩ := hI1.row m2
      have hkx : k < pr1.length := by rw [HR.out.2.2.2.2.2]; exact hlt
      have hprs := hm1.prs
      rw [HR.out.2.2.2.2.2] at hprs
      have c0 := (hprs.cellAt k (show k < np * 1 by omega)).trans (show (pvCells pr1)[k]? = some (bodyV (some (pr1.getD k (0, 0)))) by simp [pvCells, List.getElem?_eq_getElem hkx])
      simp only [bodyV] at c0
      have htk : pr1.take (k + 1) = pr1.take k ++ [pr1.getD k (0, 0)] := by rw [List.take_succ_eq_append_getElem hkx, List.getD_eq_getElem?_getD, List.getElem?_eq_getElem hkx]; rfl
      have hmem : pr1.getD k (0, 0) ∈ pr1 := by rw [List.getD_eq_getElem?_getD, List.getElem?_eq_getElem hkx]; exact List.getElem_mem _
      obtain ⟨N, hNk⟩ : ∃ N, pr1.getD k (0, 0) = N := ⟨_, rfl⟩
      rw [hNk] at c0 htk hmem
      have hNR : bs N ∧ N.1 = tObj := by
        obtain ⟨ht, j, hj⟩ := HR.out.2.2.2.2.1 N hmem
        exact ⟨HO.out.1 j N (by rw [← HR.out.2.2.2.1]; exact hj), ht⟩
      have hst2 : pairsP X.tab (pr1.take (k + 1)) (cs1, []) = ndF X.tab (pairsP X.tab (pr1.take k) (cs1, [])) N := by rw [htk]; exact List.foldl_append ..
      have hmk := pairsP_mk X.tab (pr1.take k) (cs1, [])
      obtain ⟨s, hs⟩ : ∃ s, pairsP X.tab (pr1.take k) (cs1, []) = s := ⟨_, rfl⟩
      rw [hs] at hI1 hm1 hst2 hmk
      have hB4 : B1 ≤ W1.heap.size := Nat.le_trans hB1 hI1.ko.size
      have z0 : (0 : Int) ≤ k := by omega
      have z1 : (k : Int) < np := by omega
      have z2 : (k : Int).toNat = k := by omega
      have a1 : IntKind.i64.wrap ((k : Int) + 1) = ((k + 1 : Nat) : Int) := by rw [IntWalk.i64_in _ (by omega)]; rfl
      have HI1 := Lib.hid (And.intro hI1 (And.intro hS2 hO2))
      have HS := Lib.hid (And.intro hst2 (And.intro hmk (And.intro hNR m2)))
      clear hI1 hm1 hF1 hprs htk hmem hNk hst2 hs hmk hNR m2 hS2 hO2
      go_wp2_with (fail)
      refine wpIn_wide.1 (wpIn_range_g (F := Fence.wide) (n := 9) rfl (by decide) (gf := 123) (argsOf := fun l => #[.pointer (some ⟨N.2, 0, none⟩), .func (.yield l) #[] #[]]) ?res (encs := fun x => #[.int .i64 x.1, .int .i64 x.2]) (fun _ => rfl) (X.tab N) O2 ?lt0 (BFin X) ?seq (fun O' W' l o hF hl => hX.fin hF hl)
        (fun O' pre W' => DrG Oo w0 w A B M B1 w.heap.size cv fv rv fr ro live Ds1 (pre.foldl prF s).1 (pre.foldl prF s).2 pr1 O' W' ∧ (∀ k, O' k → O2 k ∨ W1.heap.size ≤ k) ∧ W'.cell? ⟨M, 2, none⟩ = some (.slice (some ⟨pg, 0, none⟩) np pcap) ∧ W1.heap.size ≤ W'.heap.size) ?iup ?igr ?iput ?h0 ?act ?assign ?body ?done)
      case res => exact fun l W => ⟨({ target := .fn (.method "Pairs") #[], args := #[.iface N.1 (.pointer (some ⟨N.2, 0, none⟩)), .func (.yield l) #[] #[]] } : Deferred), by kernel_rfl, fun _ _ => trivial, pairs_invoke N HS.out.2.2.1.2 l W⟩
      case lt0 => exact fun k hk => hX.lt HI1.out.2.1 hk
      case seq => exact fun l W' u => hX.pairs N HS.out.2.2.1.1 HS.out.2.2.1.2 O2 W' l (hX.keep HI1.out.2.1 u (fun _ _ e => e))
      case iup => exact fun O' pre V V' h1 u => ⟨h1.1.own u, h1.2.1, u.cell h1.2.2.1 (by obtain ⟨_, _, _, hf⟩ := h1.1.mks; exact hf.m), Nat.le_trans h1.2.2.2 u.size⟩
      case igr => exact fun O' O'' pre V V' h1 u g1 g2 g3 => ⟨h1.1.wide (Nat.le_trans hB1 h1.1.ko.size) u g2 g3, fun k hk => (g2 k hk).elim (h1.2.1 k) (fun e => .inr (Nat.le_trans h1.2.2.2 e)), u.cell h1.2.2.1 (by obtain ⟨_, _, _, hf⟩ := h1.1.mks; exact hf.m), Nat.le_trans h1.2.2.2 u.size⟩
      case iput => exact fun O' pre V l o o' h1 hl hk ho => ⟨h1.1.put o' (Nat.le_trans HI1.out.1.ko.size hl) (Nat.le_trans hB4 hl) (fun D hD e => by have := (Array.getElem?_eq_some_iff.1 (HI1.out.1.ds D hD).2.1).1; omega) hk ho, h1.2.1, (Upd.put V l o').cell h1.2.2.1 (by obtain ⟨_, _, hm, _⟩ := h1.1.mks; rintro rfl; rw [show V.heap[_]? = _ from hm.mkb] at hk; cases hk; cases ho), by simpa using h1.2.2.2⟩
      case h0 => exact fun O' V u hO' hlt => ⟨HI1.out.1.wide hB4 u hO' hlt, hO', u.cell HS.out.2.2.2 (by obtain ⟨_, _, _, hf⟩ := HI1.out.1.mks; exact hf.m), u.size⟩
      case assign =>
        intro l x W K hK
        gi_wp2
        exact hK
      case body =>
        rintro l O' pre ⟨xa, xb⟩ W2 ⟨hI2, hO', m2, hsz2⟩ hpre
        dsimp only
        obtain ⟨wv5, hm5, hF5⟩ := hI2.row m2
        have y5 := hI2.fb
        have m0 := hm5.f0
        have hfm := foldl_mk prF prF_mk pre s
        have hmk2 := HS.out.2.1.trans hfm
        have hfc := mc_le (pre.foldl prF s).1
        have hsn : (pre ++ [(xa, xb)]).foldl prF s = prF (pre.foldl prF s) (xa, xb) := by rw [List.foldl_append]; rfl
        obtain ⟨s5, hs5⟩ : ∃ s5, pre.foldl prF s = s5 := ⟨_, rfl⟩
        rw [hs5] at hI2 hm5 hmk2 hfc hsn
        have hcs5 : s5.1.length ≤ 100000000 := by rw [hmk2.len]; dsimp only; omega
        have hwk5 : s5.2.length ≤ 100000000 := by
          have h1 := hmk2.cnt
          have h2 := hmk2.len
          simp only [List.length_nil] at h1 h2
          omega
        have hdd := dead_any hm5.ar xa hcs5
        have hrc := reach_any hm5 xb hcs5 hwk5 hM (Nat.le_trans hB1 hI2.ko.size)
        have hIJ : deadP s5.1 xa = true → DrG Oo w0 w A B M B1 w.heap.size cv fv rv fr ro live Ds1 ((pre ++ [(xa, xb)]).foldl prF s).1 ((pre ++ [(xa, xb)]).foldl prF s).2 pr1 O' W2 := fun hd => by
          rw [hsn, prF, if_pos hd]; exact hI2
        have hsn2 : deadP s5.1 xa = false → (pre ++ [(xa, xb)]).foldl prF s = reachP s5 xb := fun hd => by
          rw [hsn, prF, if_neg (by rw [hd]; decide)]
        obtain ⟨dd, hdd2⟩ : ∃ dd, deadP s5.1 xa = dd := ⟨_, rfl⟩
        rw [hdd2] at hdd hIJ hsn2
        have HI5 := Lib.hid (And.intro hI2 hO')
        have HM5 := Lib.hid (And.intro hm5 hF5)
        have HX := Lib.hid (And.intro hIJ hsn2)
        have HM2 := Lib.hid m2
        clear hI2 hm5 hF5 hfm hmk2 hfc hsn hs5 hIJ hsn2 hdd2 m2 hpre hO'
        cases dd with
        | true =>
          gi_wp2_with (fail)
          refine ⟨trivial, ?_⟩
          refine (CallsIn.inRound l (callsIn_wide.2 hdd)).mono ?_
          rintro e W6 ⟨rfl, rfl⟩
          gi_wp2
          exact ⟨KeepsOthers.refl _, Upd.refl _ _, HX.out.1 (by decide), HI5.out.2, HM2.out, hsz2⟩
        | false =>
          gi_wp2_with (fail)
          refine ⟨trivial, ?_⟩
          refine (CallsIn.inRound l (callsIn_wide.2 hdd)).mono ?_
          rintro e W6 ⟨rfl, rfl⟩
          gi_wp2_with (fail)
          refine ⟨trivial, ?_⟩
          refine (CallsIn.inRound l (callsIn_wide.2 hrc)).mono ?_
          rintro e W6 ⟨rfl, wv6, hm6, hU6, hK6, hV6⟩
          gi_wp2
          have hF5 := HM5.out.2
          refine ⟨hK6, hU6.mono (fun k _ e hk => ?_), ?_, HI5.out.2, hm6.f2, Nat.le_trans hsz2 hU6.size⟩
          · rcases e with e | rfl | e
            · exact hF5.c k e hk
            · exact hF5.m hk
            · exact hF5.w k e hk
          rw [HX.out.2 (by decide)]
          refine HI5.out.1.turn ⟨_, _, hm6, ⟨hF5.a, hF5.m, hF5.b, hF5.c, hF5.f, hF5.r, fun g' hg' hk' => ?_, hF5.p⟩⟩ hU6 (fun k e => ?_) (fun g' xs' hb' e => ?_) hK6
          · rcases hV6 g' hg' with e | e
            · exact hF5.w g' e hk'
            · have := HI5.out.1.lt g' hk'; omega
          · rcases e with e | rfl | e
            · exact .inl e
            · exact .inr hM
            · exact .inr (HM5.out.1.work.lt k e).1
          · rcases e with e | e | e
            · exact own_blk_ne HM5.out.1.ar.cells hb' (by decide) e
            · exact HM5.out.1.mkb.ne_ hb' (by decide) e.symm
            · exact own_blk_ne HM5.out.1.work hb' (by decide) e
      case done =>
        intro O' D1 W5 hD1 hOD hF5 hI5 hk5
        obtain ⟨O3, hS3, hO3⟩ := hF5
        have hOn : ∀ k, O3 k → O k ∨ w.heap.size ≤ k := fun k hk => (hI5.2.1 k (hO3 k hk)).elim (HI1.out.2.2 k) (fun e => .inr (Nat.le_trans HI1.out.1.ko.size e))
        have HI5 := Lib.hid (And.intro ((hI5.1.mark HI1.out.1.ko.size hD1 (fun D hD => (Array.getElem?_eq_some_iff.1 (HI1.out.1.ds D hD).2.1).1) hk5 hOD).sub hO3) (And.intro hS3 (And.intro hOn hI5.2.2.1)))
        clear hI5 y0 c0 hOn hS3 hO3 hOD
        go_wp2_with (fail)
        refine ⟨?_, ?_⟩
        · apply tmpsI
          intro t' ht'
          refine ⟨t', D1 :: Ds1, k + 1, O3, by omega, ⟨?_, HI5.out.2.1, HI5.out.2.2.1⟩, HI5.out.2.2.2, ht'⟩
          rw [HS.out.1]
          exact HI5.out.1
        · show np - (intOf (.int .i64 ((k + 1 : Nat) : Int))).toNat < np - (intOf (.int .i64 (k : Int))).toNat
          simp only [intOf]; omega
    · obtain rfl : k = np := by omega
      have L1 : decide ((k : Int) < (k : Int)) = false := by simp
      rw [← HR.out.2.2.2.2.2, List.take_of_length_le (Nat.le_refl _)] at hI1
      have hmk := pairsP_mk X.tab pr1 (cs1, [])
      have y0 := hI1.fb
      obtain ⟨wv1, hm1, hF1⟩ := hI1.row m2
      obtain ⟨wa, wcap, rfl, _⟩ := own_shape hm1.work
      have hmkN : mkN W A = mc cs1 := HI.out.1.mkN
      have hmkN1 : mkN W1 A = mc (pairsP X.tab pr1 (cs1, [])).1 := hI1.mkN
      have m1 := hm1.f1
      obtain ⟨r1, r2, r3, r4, r5, r6⟩ := HR.out
      obtain ⟨f2, rfl⟩ : ∃ f2, f1 = f2 + 1 := ⟨f1 - 1, by omega⟩
      rw [settleP] at r2
      obtain ⟨s, hs⟩ : ∃ s, pairsP X.tab pr1 (cs1, []) = s := ⟨_, rfl⟩
      rw [hs] at hI1 hm1 hmk m1 r2 hmkN1 hF1
      obtain ⟨csn, wkn⟩ := s
      dsimp only at hI1 hm1 m1 r2 hmkN1 hF1
      have hlen := hmk.len
      have hcnt := hmk.cnt
      dsimp only at hlen hcnt
      have hcn := mc_le csn
      have hmono := hmk.mono
      dsimp only at hmono
      have hbd : ∀ i, (csn.getD i (none, false)).1 = (cs.getD i (none, false)).1 := fun i => (hmk.body i).trans (r4 i)
      have hp5 : PrOk csn pr1 := PrOk.body r5 hmk.body
      have hwok : WorkOk csn wkn := hmk.ok (fun r hr => (List.not_mem_nil hr).elim)
      have hN5 : ∀ i N, (csn.getD i (none, false)).1 = some N → bs N := fun i N hi => HO.out.1 i N (by rw [← hbd]; exact hi)
      clear hs hmk
      cases wkn with
      | nil =>
        rw [if_pos rfl] at r2
        have HF := Lib.hid (And.intro (And.intro hI1 (And.intro hS2 hO2)) (And.intro hp5 r2))
        simp only [List.length_nil] at m1 hcnt
        have HG := Lib.hid (And.intro hcnt (And.intro hlen (And.intro hmkN (And.intro hmkN1 hmono))))
        clear hI1 hm1 hF1 r2 r5 hp5 hwok hN5 r4 HI hcnt hlen hmkN hmkN1 hS2 hO2 hmono
        go_wp2_with (fail)
        obtain ⟨g1, g2, g3, g4, g5⟩ := HG.out
        refine ⟨?_, ?_⟩
        · apply tmpsO
          intro t' ht'
          exact ⟨t', Ds1, false, csn, pr1, O2, HF.out.1, ⟨by rw [g2]; exact hl1, by omega, hbd, HF.out.2.1⟩, HF.out.2.2, ht'⟩
        · rw [g3, g4]
          show 2 * (nl - mc csn) + 0 < 2 * (nl - mc cs1) + 1
          omega
      | cons x wkt =>
        rw [if_neg (by simp)] at r2
        have hfu : dfu (csn, x :: wkt) = (x :: wkt).length + (csn.length - mc csn) := rfl
        have hwl : (x :: wkt).length ≤ 1000000 := by simp only [List.length_nil] at hcnt; omega
        have hdr := drain_g hX hm1 hS2 ⟨hF1.a, hF1.m, hF1.a, hF1.c, hF1.f, hF1.r, hF1.w, hF1.p⟩ hI1.old hI1.upd hN5 hwok hM (Nat.le_trans hB1 hI1.ko.size) (by omega) hwl (by omega) (dfu (csn, x :: wkt)) (Nat.le_of_eq hfu.symm)
        have hd := drainP_dr X.to_ (dfu (csn, x :: wkt)) csn (x :: wkt) pr1 hwok (Nat.le_of_eq hfu.symm)
        obtain ⟨d, hd2⟩ : ∃ d, drainP X.to_ (dfu (csn, x :: wkt)) csn (x :: wkt) pr1 = d := ⟨_, rfl⟩
        rw [hd2] at hd hdr r2
        obtain ⟨csd, prd⟩ := d
        dsimp only at hdr r2
        obtain ⟨nx, hnx⟩ : ∃ nx, (x :: wkt).length = nx + 1 := ⟨wkt.length, rfl⟩
        rw [hnx] at m1
        have L2 : decide ((0 : Int) < ((nx + 1 : Nat) : Int)) = true := by rw [decide_eq_true_eq]; omega
        have HF := Lib.hid (And.intro (And.intro hI1 (And.intro hS2 hO2)) (And.intro hp5 (And.intro r2 (And.intro hd hbd))))
        have HG := Lib.hid (And.intro hcnt (And.intro hlen (And.intro hmkN (And.intro hmkN1 (And.intro hnx hmono)))))
        clear hI1 hm1 hF1 r2 r5 hp5 hwok hN5 r4 HI hcnt hlen hmkN hmkN1 hnx hd hd2 hbd hfu hwl hS2 hO2 hmono
        go_wp2_with (fail)
        refine hdr.mono ?_
        rintro e W6 ⟨⟨v6, rfl⟩, O3, hE⟩
        have hI6 := HF.out.1.1.next hX (Nat.le_trans hB1 HF.out.1.1.ko.size) hE
        have hOn : ∀ k, O3 k → O k ∨ w.heap.size ≤ k := fun k hk => (hE.new k hk).elim (HF.out.1.2.2 k) (fun e => .inr (Nat.le_trans HF.out.1.1.ko.size e))
        have HI6 := Lib.hid (And.intro hI6 (And.intro hE.s hOn))
        clear hE hOn hI6 hdr
        go_wp2_with (fail)
        obtain ⟨g1, g2, g3, g4, g5, g6⟩ := HG.out
        obtain ⟨_, h5, h6, h7, h8⟩ := HF.out
        have hmk6 := HI6.out.1.mkN
        have e1 := h7.cnt
        have e2 := h7.len
        have e3 := h7.mono
        have e4 := mc_le csd
        dsimp only at e1 e2 e3
        simp only [List.length_nil] at g1
        refine ⟨?_, ?_⟩
        · apply tmpsO
          intro t' ht'
          exact ⟨t', Ds1, true, csd, prd, O3, HI6.out, ⟨by omega, by omega, fun i => (h7.body i).trans (h8 i), h7.ok h5⟩, ⟨f2, by omega, h6⟩, ht'⟩
        · rw [g3, hmk6]
          show 2 * (nl - mc csd) + 1 < 2 * (nl - mc cs1) + 1
          omega
end Go.Proofs.YtmimnaaofpkndaaDoor.Hp
