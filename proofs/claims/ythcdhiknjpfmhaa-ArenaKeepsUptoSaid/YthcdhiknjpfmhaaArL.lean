/- The arena: settle. -/
import Derived.Test.YthcdhiknjpfmhaaArM
set_option linter.unusedVariables false
set_option linter.unusedSimpArgs false
namespace Go.Proofs.Ythcdhiknjpfmhaa
open Go.RowKit Go.Shelf
attribute [local go_sem] Oper.semAt_some

/-! Whatever lies in the temporaries. -/
theorem tmpsO {d : List Deferred} {G : Prop} {u3 u4 u5 u6 u7 u8 u9 u10 u11 u12 u13 u14 u15 u16 u17 u18 u19 u20 u21 u22 u23 u24 u25 u26 u27 u28 u29 u30 u31 u32 u33 u34 u35 u36 u37 u38 u39 u40 f0 f1 f2 : Value} (h : ∀ t : Nat → Value, (⟨#[f0, f1, f2, u3, u4, u5, u6, u7, u8, u9, u10, u11, u12, u13, u14, u15, u16, u17, u18, u19, u20, u21, u22, u23, u24, u25, u26, u27, u28, u29, u30, u31, u32, u33, u34, u35, u36, u37, u38, u39, u40], d⟩ : Act) = ⟨#[f0, f1, f2, t 3, t 4, t 5, t 6, t 7, t 8, t 9, t 10, t 11, t 12, t 13, t 14, t 15, t 16, t 17, t 18, t 19, t 20, t 21, t 22, t 23, t 24, t 25, t 26, t 27, t 28, t 29, t 30, t 31, t 32, t 33, t 34, t 35, t 36, t 37, t 38, t 39, t 40], d⟩ → G) : G := h (fun i => [f0, f1, f2, u3, u4, u5, u6, u7, u8, u9, u10, u11, u12, u13, u14, u15, u16, u17, u18, u19, u20, u21, u22, u23, u24, u25, u26, u27, u28, u29, u30, u31, u32, u33, u34, u35, u36, u37, u38, u39, u40].getD i undef) rfl
theorem tmpsI {d : List Deferred} {G : Prop} {u3 u4 u5 u6 u7 u8 u9 u10 u14 u15 u16 u17 u18 u19 u20 u21 u22 u23 u24 u25 u26 u27 u28 u29 u30 u31 u32 u33 u34 u35 u36 u37 u38 u39 u40 f0 f1 f2 f11 f12 f13 : Value} (h : ∀ t : Nat → Value, (⟨#[f0, f1, f2, u3, u4, u5, u6, u7, u8, u9, u10, f11, f12, f13, u14, u15, u16, u17, u18, u19, u20, u21, u22, u23, u24, u25, u26, u27, u28, u29, u30, u31, u32, u33, u34, u35, u36, u37, u38, u39, u40], d⟩ : Act) = ⟨#[f0, f1, f2, t 3, t 4, t 5, t 6, t 7, t 8, t 9, t 10, f11, f12, f13, t 14, t 15, t 16, t 17, t 18, t 19, t 20, t 21, t 22, t 23, t 24, t 25, t 26, t 27, t 28, t 29, t 30, t 31, t 32, t 33, t 34, t 35, t 36, t 37, t 38, t 39, t 40], d⟩ → G) : G := h (fun i => [f0, f1, f2, u3, u4, u5, u6, u7, u8, u9, u10, f11, f12, f13, u14, u15, u16, u17, u18, u19, u20, u21, u22, u23, u24, u25, u26, u27, u28, u29, u30, u31, u32, u33, u34, u35, u36, u37, u38, u39, u40].getD i undef) rfl
theorem methodPairs (a : Addr) (w : World) : (method 207 27 (.pointer (some a)) "Pairs").run Try.prog w = .ok (53, .pointer (some a)) w := by kernel_rfl
/-- Where settle stands ahead of a round: to be gone on with, or settled. -/
def StQ (toF : Nat → List Int) (tab : Nat → List Pr) (nl : Nat) (X : List Cell × List Nat) (cs : List Cell) (pr : List Nat) : Bool → Prop
  | true => ∃ f, nl - mc cs < f ∧ settleP toF tab f cs pr = X
  | false => (cs, pr) = X
section
variable {w0 w1 W W' : World} {A B M B1 bx : Nat} {cv fv rv : Value} {fr ro : List Int} {live : Int} {Ds : List Nat} {cs : List Cell} {wk : List Int} {pr : List Nat}
theorem DrI.pvAbide {b : Nat} {row : Option Nat} {v : Value} (h : DrI w0 w1 A B M B1 bx cv fv rv fr ro live Ds cs wk pr W) (hv : W.cell? ⟨M, 2, none⟩ = some v) (hg : W.grownBy W' row) (hr : ∀ r, row = some r → ∃ o : Obj, W.heap[r]? = some o ∧ o.isCells = false) : W'.cell? ⟨M, 2, none⟩ = some v := by
  obtain ⟨wv, pv, hm⟩ := h.mks
  have := blk_grown hm.mkb hg hr
  rw [this.cell]
  rw [hm.mkb.cell] at hv
  exact hv
theorem DrI.row {v : Value} (h : DrI w0 w1 A B M B1 bx cv fv rv fr ro live Ds cs wk pr W) (hv : W.cell? ⟨M, 2, none⟩ = some v) : ∃ wv, MkS W A B M B1 cv fv rv wv v cs fr ro live wk pr := by
  obtain ⟨wv, pv, hm⟩ := h.mks
  rw [hm.f2] at hv
  cases hv
  exact ⟨wv, hm⟩
end
set_option maxHeartbeats 2000000 in
set_option maxRecDepth 100000 in
theorem settle_any {w0 w : World} {A B M B1 : Nat} {cv fv rv wv pv : Value} {cs : List Cell} {fr ro : List Int} {live : Int} {pr : List Nat} (D : Nds) (h : MkS w A B M B1 cv fv rv wv pv cs fr ro live [] pr) (hu : Upd w0 w (fun k => cv.ownBlock = some k ∨ B1 ≤ k))
    (hN : ∀ i N, (cs.getD i (none, false)).1 = some N → NdR w0 B1 cv D N) (hok : PrOk cs pr) (hM : B1 ≤ M) (hB1 : B1 ≤ w.heap.size) (hl : cs.length ≤ 400000) (hpr : pr.length ≤ 400000) (f : Nat) (hf : cs.length - mc cs < f) :
    Calls Try.prog 28 #[.pointer (some ⟨M, 0, none⟩)] w fun e w' => (∃ v, e = .returned v) ∧
      ∃ wv' pv', MkS w' A B M B1 cv fv rv wv' pv' (settleP D.to_ D.tab f cs pr).1 fr ro live [] (settleP D.to_ D.tab f cs pr).2 ∧ Upd w0 w' (fun k => cv.ownBlock = some k ∨ B1 ≤ k) ∧ KeepsOthers w w' ∧ (∀ g xs, Blk w g 67 xs → Blk w' g 67 xs) := by
  obtain ⟨X, hX⟩ : ∃ X, settleP D.to_ D.tab f cs pr = X := ⟨_, rfl⟩
  obtain ⟨nl, hnl⟩ : ∃ nl, cs.length = nl := ⟨_, rfl⟩
  obtain ⟨K, hK⟩ : ∃ K, pr.length + nl - mc cs = K := ⟨_, rfl⟩
  have hmc := mc_le cs
  rw [hX]
  have hst := DrI.start h hu hB1 _ rfl
  have q1 := methodPairs
  have HO := Lib.hid (And.intro hN (And.intro hK (And.intro hmc (And.intro hf hu))))
  clear hN hf hu
  refine calls_of_wp_marks Try.func28 rfl ?_
  simp only [Try.ntmps28, List.size_toArray, List.length_cons, List.length_nil, Nat.reduceAdd, Nat.reduceSub, Array.replicate_succ, Array.replicate_zero, List.push_toArray, List.append_toArray, List.nil_append, List.cons_append]
  go_wp2_with (fail)
  refine wp_loop (fun a W => ∃ t : Nat → Value, ∃ Ds again cs1 pr1, DrI w0 w A B M B1 w.heap.size cv fv rv fr ro live Ds cs1 [] pr1 W ∧ (cs1.length = nl ∧ pr1.length + nl = K + mc cs1 ∧ (∀ i, (cs1.getD i (none, false)).1 = (cs.getD i (none, false)).1) ∧ PrOk cs1 pr1) ∧ StQ D.to_ D.tab nl X cs1 pr1 again ∧
    a = ⟨#[.pointer (some ⟨M, 0, none⟩), .pointer (some ⟨w.heap.size, 0, none⟩), .bool again, t 3, t 4, t 5, t 6, t 7, t 8, t 9, t 10, t 11, t 12, t 13, t 14, t 15, t 16, t 17, t 18, t 19, t 20, t 21, t 22, t 23, t 24, t 25, t 26, t 27, t 28, t 29, t 30, t 31, t 32, t 33, t 34, t 35, t 36, t 37, t 38, t 39, t 40], Ds.map markD⟩) (fun a W => 2 * (K - prN W M) + bv (a.tmps.getD 2 undef)) ?_ ?_
  · apply tmpsO
    intro t ht
    exact ⟨t, [], true, cs, pr, hst, ⟨hnl, by omega, fun _ => rfl, hok⟩, ⟨f, by rw [← hnl]; exact HO.out.2.2.2.1, hX⟩, ht⟩
  rintro a W ⟨t, Ds, again, cs1, pr1, hI, ⟨hl1, hk1, hb1, hp1⟩, hQ, rfl⟩
  cases again with
  | false =>
    have hX2 : (cs1, pr1) = X := hQ
    have HF := Lib.hid (And.intro hI hX2)
    clear hI hX hX2 hst h hp1 hok hQ
    go_wp2_with (fail)
    refine leaves_marks (b := w.heap.size) (I := fun (_ : Unit) W2 => DrI w0 w A B M B1 w.heap.size cv fv rv fr ro live [] cs1 [] pr1 W2) ?_ ?_ Ds W HF.out.1.nd HF.out.1.ds HF.out.1.noDs
    · intro u W1 W2 row hI1 hg hr
      exact hI1.abide (Nat.le_refl _) hB1 (fun D hD => (List.not_mem_nil hD).elim) hg hr
    · intro W2 h2
      obtain ⟨wv2, pv2, hm2⟩ := h2.mks
      rw [← HF.out.2]
      exact ⟨_, by first | exact results_none rfl _ _ _ | kernel_rfl | rfl, ⟨_, rfl⟩, wv2, pv2, hm2, h2.upd, h2.ko, h2.kb⟩
  | true =>
    obtain ⟨f1, hf1, hX1⟩ : ∃ f, nl - mc cs1 < f ∧ settleP D.to_ D.tab f cs1 pr1 = X := hQ
    have y0 := hI.fb
    obtain ⟨wv1, pv1, hm1⟩ := hI.mks
    obtain ⟨pa, pcap, rfl, hpa⟩ := own_shape hm1.prs
    obtain ⟨np, hnp⟩ : ∃ np, pr1.length = np := ⟨_, rfl⟩
    have m2 := hm1.f2
    have l1 := hm1.mkb.lt
    rw [hnp] at m2 hpa
    have hnpb : np ≤ 1000000 := by have := mc_le cs1; omega
    have HR := Lib.hid (And.intro hf1 (And.intro hX1 (And.intro hk1 (And.intro hb1 (And.intro hp1 hnp)))))
    have HI := Lib.hid hI
    clear hI hm1 hX hX1 hst h hp1 hok hf1 hk1 hb1 hnp
    go_wp2_with (fail)
    refine wp_loop (fun a W1 => ∃ t : Nat → Value, ∃ Ds1 k, k ≤ np ∧ DrI w0 w A B M B1 w.heap.size cv fv rv fr ro live Ds1 (pairsP D.tab (pr1.take k) (cs1, [])).1 (pairsP D.tab (pr1.take k) (cs1, [])).2 pr1 W1 ∧ W1.cell? ⟨M, 2, none⟩ = some (.slice pa np pcap) ∧
      a = ⟨#[.pointer (some ⟨M, 0, none⟩), .pointer (some ⟨w.heap.size, 0, none⟩), .bool false, t 3, t 4, t 5, t 6, t 7, t 8, t 9, t 10, .slice pa np pcap, .int .i64 (np : Int), .int .i64 (k : Int), t 14, t 15, t 16, t 17, t 18, t 19, t 20, t 21, t 22, t 23, t 24, t 25, t 26, t 27, t 28, t 29, t 30, t 31, t 32, t 33, t 34, t 35, t 36, t 37, t 38, t 39, t 40], Ds1.map markD⟩) (fun a _ => np - (intOf (a.tmps.getD 13 undef)).toNat) ?_ ?_
    · apply tmpsI
      intro t' ht'
      exact ⟨t', Ds, 0, Nat.zero_le _, HI.out, m2, ht'⟩
    clear y0 m2 l1
    rintro a W1 ⟨t1, Ds1, k, hk, hI1, m2, rfl⟩
    by_cases hlt : k < np
    · have L1 : decide ((k : Int) < (np : Int)) = true := by rw [decide_eq_true_eq]; omega
      obtain ⟨pg, rfl⟩ := hpa (by omega)
      have y0 := hI1.fb
      obtain ⟨wv1, hm1⟩ := hI1.row m2
      have hkx : k < pr1.length := by rw [HR.out.2.2.2.2.2]; exact hlt
      have hprs := hm1.prs
      rw [HR.out.2.2.2.2.2] at hprs
      have c0 := (hprs.cellAt k (show k < np * 1 by omega)).trans (show (pvCells pr1)[k]? = some (bodyV (some (pr1.getD k 0))) by simp [pvCells, List.getElem?_eq_getElem hkx])
      simp only [bodyV] at c0
      have htk : pr1.take (k + 1) = pr1.take k ++ [pr1.getD k 0] := by rw [List.take_succ_eq_append_getElem hkx, List.getD_eq_getElem?_getD, List.getElem?_eq_getElem hkx]; rfl
      have hmem : pr1.getD k 0 ∈ pr1 := by rw [List.getD_eq_getElem?_getD, List.getElem?_eq_getElem hkx]; exact List.getElem_mem _
      obtain ⟨N, hNk⟩ : ∃ N, pr1.getD k 0 = N := ⟨_, rfl⟩
      rw [hNk] at c0 htk hmem
      have hNR : NdR w0 B1 cv D N := by
        obtain ⟨j, hj⟩ := HR.out.2.2.2.2.1 N hmem
        exact HO.out.1 j N (by rw [← HR.out.2.2.2.1]; exact hj)
      have hst2 : pairsP D.tab (pr1.take (k + 1)) (cs1, []) = ndF D.tab (pairsP D.tab (pr1.take k) (cs1, [])) N := by rw [htk]; exact List.foldl_append ..
      have hmk := pairsP_mk D.tab (pr1.take k) (cs1, [])
      obtain ⟨s, hs⟩ : ∃ s, pairsP D.tab (pr1.take k) (cs1, []) = s := ⟨_, rfl⟩
      rw [hs] at hI1 hm1 hst2 hmk
      have hB4 : B1 ≤ W1.heap.size := Nat.le_trans hB1 hI1.ko.size
      have z0 : (0 : Int) ≤ k := by omega
      have z1 : (k : Int) < np := by omega
      have z2 : (k : Int).toNat = k := by omega
      have a1 : IntKind.i64.wrap ((k : Int) + 1) = ((k + 1 : Nat) : Int) := by rw [IntWalk.i64_in _ (by omega)]; rfl
      have HI1 := Lib.hid hI1
      have HS := Lib.hid (And.intro hst2 (And.intro hmk (And.intro hNR m2)))
      clear hI1 hm1 hprs htk hmem hNk hst2 hs hmk hNR m2
      go_wp2_with (fail)
      refine wpIn_wide.1 (wpIn_range_all (F := Fence.wide) (n := 9) rfl (by decide) (gf := 53) (argsOf := fun l => #[.pointer (some ⟨N, 0, none⟩), .func (.yield l) #[] #[]]) ?res (encs := fun x => #[.int .i64 x.1, .int .i64 x.2]) (fun _ => rfl) (D.tab N)
        (fun pre W' => DrI w0 w A B M B1 w.heap.size cv fv rv fr ro live Ds1 (pre.foldl prF s).1 (pre.foldl prF s).2 pr1 W' ∧ W'.cell? ⟨M, 2, none⟩ = some (.slice (some ⟨pg, 0, none⟩) np pcap)) ?own ⟨HI1.out, HS.out.2.2.2⟩ ?act ?seq ?assign ?body ?done)
      case res => exact fun l W => ⟨({ target := .fn (.method "Pairs") #[], args := #[.iface 27 (.pointer (some ⟨N, 0, none⟩)), .func (.yield l) #[] #[]] } : Deferred), by kernel_rfl, fun _ _ => trivial, by kernel_rfl⟩
      case assign =>
        intro l x W K hK
        gi_wp2
        exact hK
      case own =>
        intro pre W2 W2' row hI2 hg hr
        exact ⟨hI2.1.abide HI1.out.ko.size hB4 (fun D hD => (Array.getElem?_eq_some_iff.1 (HI1.out.ds D hD).2).1) hg hr, hI2.1.pvAbide (b := 0) hI2.2 hg (fun r e => (hr r e).2)⟩
      case seq =>
        intro l J W2 hJI hJd hJa hY h0
        have hto : ∀ pre V, J pre V → TabR V N (D.pa N) (D.pc N) (D.tab N) := fun pre V hJ => (HS.out.2.2.1.upd (hJI pre V hJ).1.upd).tabR
        exact pairs_in 8 (by decide) l N (D.pa N) (D.pc N) (D.tab N) HS.out.2.2.1.tabL J W2 hto hJd hJa hY h0
      case body =>
        rintro l pre ⟨xa, xb⟩ W2 ⟨hI2, m2⟩ hpre
        dsimp only
        obtain ⟨wv5, hm5⟩ := hI2.row m2
        have y5 := hI2.fb
        have m0 := hm5.f0
        have hfm := foldl_mk prF prF_mk pre s
        have hmk2 := HS.out.2.1.trans hfm
        have hfc := mc_le (pre.foldl prF s).1
        have hsn : (pre ++ [(xa, xb)]).foldl prF s = prF (pre.foldl prF s) (xa, xb) := by rw [List.foldl_append]; rfl
        obtain ⟨s5, hs5⟩ : ∃ s5, pre.foldl prF s = s5 := ⟨_, rfl⟩
        rw [hs5] at hI2 hm5 hmk2 hfc hsn
        have hcs5 : s5.1.length ≤ 100000000 := by rw [hmk2.len]; dsimp only; omega
        have hwk5 : s5.2.length ≤ 100000000 := by
          have h1 := hmk2.cnt
          have h2 := hmk2.len
          simp only [List.length_nil] at h1 h2
          omega
        have hdd := dead_any hm5.ar xa hcs5
        have hrc := reach_any hm5 xb hcs5 hwk5 hM (Nat.le_trans hB1 hI2.ko.size)
        have hIJ : deadP s5.1 xa = true → DrI w0 w A B M B1 w.heap.size cv fv rv fr ro live Ds1 ((pre ++ [(xa, xb)]).foldl prF s).1 ((pre ++ [(xa, xb)]).foldl prF s).2 pr1 W2 := fun hd => by
          rw [hsn, prF, if_pos hd]; exact hI2
        have hsn2 : deadP s5.1 xa = false → (pre ++ [(xa, xb)]).foldl prF s = reachP s5 xb := fun hd => by
          rw [hsn, prF, if_neg (by rw [hd]; decide)]
        obtain ⟨dd, hdd2⟩ : ∃ dd, deadP s5.1 xa = dd := ⟨_, rfl⟩
        rw [hdd2] at hdd hIJ hsn2
        have HI5 := Lib.hid hI2
        have HM5 := Lib.hid hm5
        have HX := Lib.hid (And.intro hIJ hsn2)
        have HM2 := Lib.hid m2
        clear hI2 hm5 hfm hmk2 hfc hsn hs5 hIJ hsn2 hdd2 m2 hpre
        cases dd with
        | true =>
          gi_wp2_with (fail)
          refine ⟨trivial, ?_⟩
          refine (CallsIn.inRound l (callsIn_wide.2 hdd)).mono ?_
          rintro e W6 ⟨rfl, rfl⟩
          gi_wp2
          exact ⟨KeepsOthers.refl _, HX.out.1 (by decide), HM2.out⟩
        | false =>
          gi_wp2_with (fail)
          refine ⟨trivial, ?_⟩
          refine (CallsIn.inRound l (callsIn_wide.2 hdd)).mono ?_
          rintro e W6 ⟨rfl, rfl⟩
          gi_wp2_with (fail)
          refine ⟨trivial, ?_⟩
          refine (CallsIn.inRound l (callsIn_wide.2 hrc)).mono ?_
          rintro e W6 ⟨rfl, wv6, hm6, hU6, hK6⟩
          gi_wp2
          refine ⟨hK6, ?_, hm6.f2⟩
          rw [HX.out.2 (by decide)]
          refine HI5.out.turn ⟨_, _, hm6⟩ hU6 (fun k e => ?_) (fun g' xs' hb' e => ?_) hK6
          · rcases e with e | rfl | e
            · exact .inl e
            · exact .inr hM
            · exact .inr (HM5.out.work.lt k e).1
          · rcases e with e | e | e
            · exact own_blk HM5.out.ar.cells hb' (by decide) e
            · exact HM5.out.mkb.ne_ hb' (by decide) e.symm
            · exact own_blk HM5.out.work hb' (by decide) e
      case done =>
        intro D1 W5 hD1 hI5 hk5
        have HI5 := Lib.hid (And.intro (hI5.1.mark HI1.out.ko.size hD1 (fun D hD => (Array.getElem?_eq_some_iff.1 (HI1.out.ds D hD).2).1) hk5) hI5.2)
        clear hI5 y0 c0
        go_wp2_with (fail)
        refine ⟨?_, ?_⟩
        · apply tmpsI
          intro t' ht'
          refine ⟨t', D1 :: Ds1, k + 1, by omega, ?_, HI5.out.2, ht'⟩
          rw [HS.out.1]
          exact HI5.out.1
        · show np - (intOf (.int .i64 ((k + 1 : Nat) : Int))).toNat < np - (intOf (.int .i64 (k : Int))).toNat
          simp only [intOf]; omega
    · obtain rfl : k = np := by omega
      have L1 : decide ((k : Int) < (k : Int)) = false := by simp
      rw [← HR.out.2.2.2.2.2, List.take_of_length_le (Nat.le_refl _)] at hI1
      have hmk := pairsP_mk D.tab pr1 (cs1, [])
      have y0 := hI1.fb
      obtain ⟨wv1, hm1⟩ := hI1.row m2
      obtain ⟨wa, wcap, rfl, _⟩ := own_shape hm1.work
      have hprN : prN W M = k := by rw [HI.out.prN, HR.out.2.2.2.2.2]
      have hprN1 : prN W1 M = k := by rw [hI1.prN, HR.out.2.2.2.2.2]
      have m1 := hm1.f1
      obtain ⟨r1, r2, r3, r4, r5, r6⟩ := HR.out
      obtain ⟨f2, rfl⟩ : ∃ f2, f1 = f2 + 1 := ⟨f1 - 1, by omega⟩
      rw [settleP] at r2
      obtain ⟨s, hs⟩ : ∃ s, pairsP D.tab pr1 (cs1, []) = s := ⟨_, rfl⟩
      rw [hs] at hI1 hm1 hmk m1 r2
      obtain ⟨csn, wkn⟩ := s
      dsimp only at hI1 hm1 m1 r2
      have hlen := hmk.len
      have hcnt := hmk.cnt
      dsimp only at hlen hcnt
      have hcn := mc_le csn
      have hbd : ∀ i, (csn.getD i (none, false)).1 = (cs.getD i (none, false)).1 := fun i => (hmk.body i).trans (r4 i)
      have hp5 : PrOk csn pr1 := PrOk.body r5 hmk.body
      have hwok : WorkOk csn wkn := hmk.ok (fun r hr => (List.not_mem_nil hr).elim)
      have hN5 : ∀ i N, (csn.getD i (none, false)).1 = some N → NdR w0 B1 cv D N := fun i N hi => HO.out.1 i N (by rw [← hbd]; exact hi)
      clear hs hmk
      cases wkn with
      | nil =>
        rw [if_pos rfl] at r2
        have HF := Lib.hid (And.intro hI1 (And.intro hp5 r2))
        simp only [List.length_nil] at m1 hcnt
        have HG := Lib.hid (And.intro hcnt (And.intro hlen (And.intro hprN hprN1)))
        clear hI1 hm1 r2 r5 hp5 hwok hN5 r4 HI hcnt hlen hprN hprN1
        go_wp2_with (fail)
        refine ⟨?_, ?_⟩
        · apply tmpsO
          intro t' ht'
          exact ⟨t', Ds1, false, csn, pr1, HF.out.1, ⟨by rw [HG.out.2.1]; exact hl1, by have := HG.out.1; omega, hbd, HF.out.2.1⟩, HF.out.2.2, ht'⟩
        · rw [HG.out.2.2.1, HG.out.2.2.2]
          show 2 * (K - k) + 0 < 2 * (K - k) + 1
          omega
      | cons x wkt =>
        rw [if_neg (by simp)] at r2
        have hfu : dfu (csn, x :: wkt) = (x :: wkt).length + (csn.length - mc csn) := rfl
        have hwl : (x :: wkt).length ≤ 1000000 := by simp only [List.length_nil] at hcnt; omega
        have hdr := drain_any D hm1 hI1.upd hN5 hwok hM (Nat.le_trans hB1 hI1.ko.size) (by omega) hwl (by omega) (dfu (csn, x :: wkt)) (Nat.le_of_eq hfu.symm)
        have hd := drainP_dr D.to_ (dfu (csn, x :: wkt)) csn (x :: wkt) pr1 hwok (Nat.le_of_eq hfu.symm)
        obtain ⟨d, hd2⟩ : ∃ d, drainP D.to_ (dfu (csn, x :: wkt)) csn (x :: wkt) pr1 = d := ⟨_, rfl⟩
        rw [hd2] at hd hdr r2
        obtain ⟨csd, prd⟩ := d
        dsimp only at hdr r2
        obtain ⟨nx, hnx⟩ : ∃ nx, (x :: wkt).length = nx + 1 := ⟨wkt.length, rfl⟩
        rw [hnx] at m1
        have L2 : decide ((0 : Int) < ((nx + 1 : Nat) : Int)) = true := by rw [decide_eq_true_eq]; omega
        have HF := Lib.hid (And.intro hI1 (And.intro hp5 (And.intro r2 (And.intro hd hbd))))
        have HG := Lib.hid (And.intro hcnt (And.intro hlen (And.intro hprN (And.intro hprN1 hnx))))
        clear hI1 hm1 r2 r5 hp5 hwok hN5 r4 HI hcnt hlen hprN hprN1 hnx hd hd2 hbd hfu hwl
        go_wp2_with (fail)
        refine hdr.mono ?_
        rintro e W6 ⟨⟨v6, rfl⟩, wv6, pv6, hm6, hu6, hk6, hb6⟩
        have hI6 : DrI w0 w A B M B1 w.heap.size cv fv rv fr ro live Ds1 csd [] prd W6 :=
          ⟨⟨_, _, hm6⟩, hu6, HF.out.1.ko.trans hk6, hb6 _ _ HF.out.1.box, fun D hD => ⟨(HF.out.1.ds D hD).1, hk6.same _ _ (HF.out.1.ds D hD).2 rfl⟩, HF.out.1.nd, fun g xs hb => hb6 _ _ (HF.out.1.kb g xs hb)⟩
        have HI6 := Lib.hid hI6
        clear hm6 hu6 hk6 hb6 hI6 hdr
        go_wp2_with (fail)
        obtain ⟨g1, g2, g3, g4, g5⟩ := HG.out
        obtain ⟨_, h5, h6, h7, h8⟩ := HF.out
        have hprN6 := HI6.out.prN
        have e1 := h7.cnt
        have e2 := h7.len
        have e3 := h7.mono
        have e4 := mc_le csd
        dsimp only at e1 e2 e3
        simp only [List.length_nil] at g1
        refine ⟨?_, ?_⟩
        · apply tmpsO
          intro t' ht'
          exact ⟨t', Ds1, true, csd, prd, HI6.out, ⟨by omega, by omega, fun i => (h7.body i).trans (h8 i), h7.ok h5⟩, ⟨f2, by omega, h6⟩, ht'⟩
        · rw [g3, hprN6]
          show 2 * (K - prd.length) + 1 < 2 * (K - k) + 1
          omega
end Go.Proofs.Ythcdhiknjpfmhaa
