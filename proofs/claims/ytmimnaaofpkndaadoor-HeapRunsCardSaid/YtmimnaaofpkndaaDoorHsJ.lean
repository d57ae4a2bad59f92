/- HeapRuns: the document's Define, of a property that is there. -/
import Derived.Test.YtmimnaaofpkndaaDoorHsI
set_option linter.unusedVariables false
set_option linter.unusedSimpArgs false
namespace Go.Proofs.YtmimnaaofpkndaaDoor.Hp
open Go.RowKit Go.Proofs.YtmimnaaofpkndaaDoor Go.Shelf Go.Sort
attribute [local go_sem] Oper.semAt_some
set_option maxRecDepth 100000 in
set_option maxHeartbeats 16000000 in
/-- Define, a property that is there. -/
theorem rdefine_old {o : PO} {q : Nat} {pv ev : Value} {w : World} {k v : K3} {f : Int} (h : RO o q pv ev w) (hO : o.Ok) (hk : KS k) (hG : LG w) (hA : o.A.length ≤ 4000) (hf0 : 0 ≤ f) (hf1 : f < 16) (i : Nat) (x : Ent) (hxi : o.A[i]? = some x) (hxk : x.key = k) (hfn : fnd o.A k = (i : Int)) (hno : (((!(o.own k).2.2) && o.clo) || ((o.own k).2.2 && refuse (o.own k).2.1 f)) = false) (hc : o.arr = true → plcV k = -1 ∧ k ≠ lenK) :
    Calls Tryd.prog 60 #[.pointer (some ⟨q, 0, none⟩), VK k, VK v, .int .i64 f] w fun e w' => e = .returned (.bool true) ∧ LeftR o q pv ev w { o with A := putA k v f o.A } w' := by
  obtain ⟨i0, hi, hz0, hz1, hz2⟩ : ∃ i, Tryd.prog.info? 127 = some i ∧ i.zero = some (.agg #[.int .i64 0, .int .i64 0, .string ⟨#[]⟩, .int .i64 0, .int .i64 0, .string ⟨#[]⟩, .int .i64 0]) ∧ i.size = 7 ∧ i.bytes = 72 := info_parts infoProp
  have HZ := Lib.hid (And.intro hi (And.intro hz0 (And.intro hz1 hz2)))
  have HNO := Lib.hid hno
  have HC := Lib.hid hc
  have HFN := Lib.hid (And.intro hxi (And.intro hxk hfn))
  clear hfn hxi hxk hno hc hi hz0 hz1 hz2
  have HRO := Lib.hid (And.intro h (And.intro hO (And.intro hk (And.intro hG (And.intro hA (And.intro hf0 hf1))))))
  obtain ⟨gv, gf, gb, hg⟩ : ∃ (gv : K3) (gf : Int) (gb : Bool), o.own k = (gv, gf, gb) := ⟨_, _, _, rfl⟩
  obtain ⟨⟨r1, r2, r3⟩, hrk⟩ : ∃ x, rkey o k = x := ⟨_, rfl⟩
  obtain ⟨g1, g2, g3⟩ := gv
  have hown : ∀ W, Below w.heap.size w W → Calls Tryd.prog 62 #[.pointer (some ⟨q, 0, none⟩), VK k] W fun e w' => e = .returned (.tuple #[PV (r1, r2, r3) (g1, g2, g3) gf, .bool gb]) ∧ Below W.heap.size W w' := fun W bW => by
    have := rown_any (HRO.out.1.below bW) HRO.out.2.1 HRO.out.2.2.1 (HRO.out.2.2.2.1.below bW) HRO.out.2.2.2.2.1
    rw [hg, hrk] at this
    exact this
  have HOW := Lib.hid hown
  have HG := Lib.hid hg
  have hgf := own_flags hO k
  rw [hg] at hgf
  have HGF := Lib.hid (refuse_ref hgf.1 hgf.2 hf0 hf1)
  obtain ⟨k1, k2, k3⟩ := k
  obtain ⟨v1, v2, v3⟩ := v
  have HB := Lib.hid (two_boxes w k1 k2 k3 v1 v2 v3)
  clear h hO hk hG hown hg hA hf0 hf1 hrk hgf
  go_enter Tryd.func60, Tryd.ntmps60
  go_wp2_with (fail)
  refine (HOW.out _ HB.out.1).mono ?_
  rintro e w2 ⟨rfl, b2⟩
  obtain ⟨b1, kb, vb⟩ := HB.out
  have b23 : Below w2.heap.size w2 (w2.alloc (.cells #[.int .i64 r1, .int .i64 r2, .string r3, .int .i64 g1, .int .i64 g2, .string g3, .int .i64 gf] 127)) := (Below.refl _ _).alloc (Nat.le_refl _) _
  have HB3 := Lib.hid (And.intro ((b1.trans (b2.mono b1.size)).trans (b23.mono (Nat.le_trans b1.size b2.size))) (And.intro ((kb.below b2 kb.lt).below b23 (Nat.lt_of_lt_of_le kb.lt b2.size)) (And.intro ((vb.below b2 vb.lt).below b23 (Nat.lt_of_lt_of_le vb.lt b2.size)) (Blk.new w2 127 #[.int .i64 r1, .int .i64 r2, .string r3, .int .i64 g1, .int .i64 g2, .string g3, .int .i64 gf]))))
  clear b1 kb vb b2 b23 HB HOW
  go_upto_region 2 with fail
  generalize (w2.alloc (.cells #[.int .i64 r1, .int .i64 r2, .string r3, .int .i64 g1, .int .i64 g2, .string g3, .int .i64 gf] 127)) = w3 at *
  generalize w2.heap.size = q2 at *
  have c2 : w3.cell? ⟨q, 1, none⟩ = some (.bool o.clo) := by rw [(HRO.out.1.below HB3.out.1).ob.cell]; rfl
  have lo := (HRO.out.1.below HB3.out.1).ob.lt
  have cf : w3.cell? ⟨q2, 6, none⟩ = some (.int .i64 gf) := by rw [HB3.out.2.2.2.cell]; rfl
  have lf := HB3.out.2.2.2.lt
  obtain ⟨cl, hcl⟩ : ∃ c, o.clo = c := ⟨_, rfl⟩
  rw [hcl] at c2
  have HCL := Lib.hid hcl
  clear hcl
  go_cut [28] (fun s28 wx => s28 = .bool (!gb && cl) ∧ w3 = wx)
  case first =>
    cases gb with
    | true =>
      go_wp2_with fail
      go_meet
      exact ⟨rfl, rfl⟩
    | false =>
      go_wp2_with fail
      go_meet
      exact ⟨rfl, rfl⟩
  case rest =>
  obtain ⟨rfl, rfl⟩ := hcut
  have hno := HNO.out
  rw [HG.out, HCL.out] at hno
  dsimp only at hno
  have hx : (!gb && cl) = false := by cases gb <;> cases cl <;> simp at hno ⊢
  have HNN := Lib.hid hno
  clear hno HNO c2
  rw [hx]
  clear hx
  obtain ⟨c1, hc1⟩ : ∃ c, (bits .and .i64 gf 4 == 0) = c := ⟨_, rfl⟩
  obtain ⟨c2', hc2⟩ : ∃ c, (bits .and .i64 gf 1 == 0) = c := ⟨_, rfl⟩
  obtain ⟨c3, hc3⟩ : ∃ c, (bits .or .i64 f 1 != bits .or .i64 gf 1) = c := ⟨_, rfl⟩
  have hrf : refuse gf f = (c1 && (c2' || c3)) := by rw [HGF.out]; unfold refuseR; rw [hc1, hc2, hc3]
  have HRF := Lib.hid hrf
  clear hrf
  go_upto_region 4 with fail
  go_cut [35] (fun s35 wx => s35 = .bool (gb && c1) ∧ w3 = wx)
  case first =>
    clear hc2 hc3
    cases gb with
    | false =>
      clear hc1
      go_wp2_with fail
      go_meet
      exact ⟨rfl, rfl⟩
    | true =>
      go_wp2_with fail
      go_meet
      exact ⟨rfl, rfl⟩
  case rest =>
  obtain ⟨rfl, rfl⟩ := hcut
  clear hc1
  have hy2 : (gb && c1) = false ∨ ((gb && c1) = true ∧ c2' = false ∧ c3 = false) := by
    have := HNN.out
    rw [HRF.out] at this
    cases gb <;> cases c1 <;> simp at this ⊢
    exact this
  clear HNN HRF
  obtain ⟨pl, hpl⟩ : ∃ x, plcV (k1, k2, k3) = x := ⟨_, rfl⟩
  have hP : ∀ W, Calls Tryd.prog 72 #[VK (k1, k2, k3)] W fun e w' => e = .returned (.int .i64 pl) ∧ Below W.heap.size W w' := fun W => by
    have := place_any HRO.out.2.2.1 W
    rwa [hpl] at this
  have HP := Lib.hid hP
  have HPL := Lib.hid hpl
  clear hP hpl
  have p0 : w3.cell? ⟨w.heap.size, 0, none⟩ = some (.int .i64 k1) := by rw [HB3.out.2.1.cell]; rfl
  have p1 : w3.cell? ⟨w.heap.size, 1, none⟩ = some (.int .i64 k2) := by rw [HB3.out.2.1.cell]; rfl
  have p2 : w3.cell? ⟨w.heap.size, 2, none⟩ = some (.string k3) := by rw [HB3.out.2.1.cell]; rfl
  have lk := HB3.out.2.1.lt
  rcases hy2 with hy2 | ⟨hy2, rfl, rfl⟩
  ·
    rw [hy2]
    clear hy2
    go_upto_region 7 with fail
    go_wp2_with fail
    refine (HP.out w3).mono ?_
    rintro e w4 ⟨rfl, b4⟩
    have HB4 := Lib.hid (And.intro (HB3.out.1.trans (b4.mono HB3.out.1.size)) (And.intro (HB3.out.2.1.below b4 HB3.out.2.1.lt) (HB3.out.2.2.1.below b4 HB3.out.2.2.1.lt)))
    clear HB3 b4 HP p0 p1 p2 lk lo cf lf
    try clear hc2 hc3
    go_upto_region 8 with fail
    have hR := HRO.out.1.below HB4.out.1
    obtain ⟨ar, har⟩ : ∃ a, o.arr = a := ⟨_, rfl⟩
    have x0 : w4.cell? ⟨q, 0, none⟩ = some (.bool ar) := by rw [hR.ob.cell, ← har]; rfl
    have lo := hR.ob.lt
    have HR := Lib.hid hR
    have HAR := Lib.hid har
    clear hR har
    have hpl : ar = true → pl = -1 := fun e => by rw [← HPL.out]; exact (HC.out (by rw [HAR.out, e])).1
    go_cut [57] (fun s57 wx => s57 = .bool false ∧ w4 = wx)
    case first =>
      cases ar with
      | false =>
        clear hpl
        go_wp2_with fail
        go_meet
        exact ⟨rfl, rfl⟩
      | true =>
        obtain rfl := hpl rfl
        go_wp2_with fail
        go_meet
        exact ⟨rfl, rfl⟩
    case rest =>
    obtain ⟨rfl, rfl⟩ := hcut
    clear hpl
    go_upto_region 15 with fail
    go_cut [92] (fun s92 wx => s92 = .bool false ∧ Hid (Below w4.heap.size w4 wx))
    case first =>
      have X0 := fun d os => cell_regrown x0 d os
      have p0 : w4.cell? ⟨w.heap.size, 0, none⟩ = some (.int .i64 k1) := by rw [HB4.out.2.1.cell]; rfl
      have p1 : w4.cell? ⟨w.heap.size, 1, none⟩ = some (.int .i64 k2) := by rw [HB4.out.2.1.cell]; rfl
      have p2 : w4.cell? ⟨w.heap.size, 2, none⟩ = some (.string k3) := by rw [HB4.out.2.1.cell]; rfl
      have P0 := fun d os => cell_regrown p0 d os
      have P1 := fun d os => cell_regrown p1 d os
      have P2 := fun d os => cell_regrown p2 d os
      obtain ⟨⟨l1, l2, l3⟩, hl⟩ : ∃ l : K3, lenK = l := ⟨_, rfl⟩
      have D1 := fun d os => Calls.regrown_of (rstr_any [108, 101, 110, 103, 116, 104] (by decide) (by decide) (grow (redrawn w4 d) os) ((HRO.out.2.2.2.1.below HB4.out.1).below (below_regrown w4 d os)))
      rw [keyL_len, hl] at D1
      have HL := Lib.hid hl
      clear x0 p0 p1 p2 lo hl
      cases ar with
      | false =>
        refine wp_region_quiet_below (by as_aux_lemma => kernel_rfl) (by as_aux_lemma => kernel_rfl) ?_
        repeat (quiet_step (with_reducible exact D1 _ _))
        refine wpQuiet_nil ?_
        intro _ hw'
        obtain ⟨⟨dq, osq⟩, hw''⟩ := hw'
        subst hw''
        have bq := below_regrown w4 dq osq
        clear X0 P0 P1 P2 D1
        go_wp2_with fail
        go_meet
        exact ⟨rfl, Lib.hid bq⟩
      | true =>
        rcases ks_other HRO.out.2.2.1 (HC.out HAR.out).2 with h8 | ⟨h7, hz, hne⟩
        · have t0 : (k1 == l1) = false := by
            dsimp only at h8
            rw [h8, ← show lenK.1 = l1 by rw [HL.out]]; rfl
          clear h8
          refine wp_region_quiet_below (by as_aux_lemma => kernel_rfl) (by as_aux_lemma => kernel_rfl) ?_
          repeat (quiet_step (with_reducible exact D1 _ _))
          refine wpQuiet_nil ?_
          intro _ hw'
          obtain ⟨⟨dq, osq⟩, hw''⟩ := hw'
          subst hw''
          have bq := below_regrown w4 dq osq
          clear X0 P0 P1 P2 D1
          go_wp2_with fail
          go_meet
          exact ⟨rfl, Lib.hid bq⟩
        · have t0 : (k1 == l1) = true := by
            dsimp only at h7
            rw [h7, ← show lenK.1 = l1 by rw [HL.out]]; rfl
          have t1 : (k2 == l2) = true := by
            dsimp only at hz
            rw [hz, ← show lenK.2.1 = l2 by rw [HL.out]]; rfl
          have t2 : (k3.toList == l3.toList) = false := by
            dsimp only at hne
            rw [← show lenK.2.2 = l3 by rw [HL.out]]; exact beq_false_of_ne hne
          clear h7 hz hne
          refine wp_region_quiet_below (by as_aux_lemma => kernel_rfl) (by as_aux_lemma => kernel_rfl) ?_
          repeat (quiet_step (with_reducible exact D1 _ _))
          refine wpQuiet_nil ?_
          intro _ hw'
          obtain ⟨⟨dq, osq⟩, hw''⟩ := hw'
          subst hw''
          have bq := below_regrown w4 dq osq
          clear X0 P0 P1 P2 D1
          go_wp2_with fail
          go_meet
          exact ⟨rfl, Lib.hid bq⟩
    case rest =>
    obtain ⟨rfl, hb5⟩ := hcut
    have HB5 := Lib.hid (And.intro (HB4.out.1.trans (hb5.out.mono HB4.out.1.size)) (And.intro (HB4.out.2.1.below hb5.out HB4.out.2.1.lt) (HB4.out.2.2.below hb5.out HB4.out.2.2.lt)))
    have HR5 := Lib.hid (HR.out.below hb5.out)
    clear hb5 HB4 HR x0 lo
    have p0 : wc.cell? ⟨w.heap.size, 0, none⟩ = some (.int .i64 k1) := by rw [HB5.out.2.1.cell]; rfl
    have p1 : wc.cell? ⟨w.heap.size, 1, none⟩ = some (.int .i64 k2) := by rw [HB5.out.2.1.cell]; rfl
    have p2 : wc.cell? ⟨w.heap.size, 2, none⟩ = some (.string k3) := by rw [HB5.out.2.1.cell]; rfl
    have lk := HB5.out.2.1.lt
    go_wp2_with fail
    refine (rfind_any (k := (k1, k2, k3)) HR5.out HRO.out.2.2.2.2.1).mono ?_
    rintro e w6 ⟨rfl, b6⟩
    have HB6 := Lib.hid (And.intro (HB5.out.1.trans (b6.mono HB5.out.1.size)) (And.intro (HB5.out.2.1.below b6 HB5.out.2.1.lt) (HB5.out.2.2.below b6 HB5.out.2.2.lt)))
    have HR6 := Lib.hid (HR5.out.below b6)
    clear b6 HB5 HR5 p0 p1 p2 lk
    have hf := HFN.out.2.2
    have hxi := HFN.out.1
    have hxk := HFN.out.2.1
    · rw [hf]
      have HPA := Lib.hid (putA_some (v := (v1, v2, v3)) (f := f) HRO.out.2.1 HRO.out.2.2.1 hxi hxk)
      obtain ⟨n, hn⟩ : ∃ n, o.A.length = n := ⟨_, rfl⟩
      have hil := (List.getElem?_eq_some_iff.1 hxi).1
      rw [hn] at hil
      have hrow := HR6.out.rp
      rw [hn] at hrow
      obtain ⟨pa, pcap, hpv, hpa⟩ := own_shape hrow
      subst hpv
      obtain ⟨g, rfl⟩ := hpa (by omega)
      have t5 : decide ((i : Int) < 0) = false := by rw [decide_eq_false_iff_not]; omega
      have zz0 : (0 : Int) ≤ (i : Int) := by omega
      have zz1 : (i : Int) < (n : Int) := by omega
      have HX := Lib.hid (And.intro hn hxi)
      clear hf hxi hxk hn hrow hpa
      go_upto_region 31 with fail
      refine still_tail 8 (by as_aux_lemma => kernel_rfl) (by as_aux_lemma => kernel_rfl) (fun W2 hW2 => ?_)
      have bw : Below w6.heap.size w6 W2 := by rw [hW2]; exact below_drw (Below.refl _ _) 1
      have hR7 := HR6.out.below bw
      have vb7 := HB6.out.2.2.below bw HB6.out.2.2.lt
      have hrow := hR7.rp
      rw [HX.out.1] at hrow
      have hlv : (propsC o.A).length = n * 7 := by rw [propsC_length, HX.out.1]
      have x4 : W2.cell? ⟨q, 4, none⟩ = some (.slice (some ⟨g, 0, none⟩) n pcap) := by rw [hR7.ob.cell]; rfl
      have lq := hR7.ob.lt
      have y0 : W2.cell? ⟨w.heap.size + 1, 0, none⟩ = some (.int .i64 v1) := by rw [vb7.cell]; rfl
      have y1 : W2.cell? ⟨w.heap.size + 1, 1, none⟩ = some (.int .i64 v2) := by rw [vb7.cell]; rfl
      have y2 : W2.cell? ⟨w.heap.size + 1, 2, none⟩ = some (.string v3) := by rw [vb7.cell]; rfl
      have ly := vb7.lt
      obtain ⟨u3, e3⟩ : ∃ u, W2.cell? ⟨g, i * 7 + 3, none⟩ = some u := ⟨_, (hrow.cellAt (i * 7 + 3) (by omega)).trans (List.getElem?_eq_getElem (by rw [hlv]; omega))⟩
      obtain ⟨u4, e4⟩ : ∃ u, W2.cell? ⟨g, i * 7 + 4, none⟩ = some u := ⟨_, (hrow.cellAt (i * 7 + 4) (by omega)).trans (List.getElem?_eq_getElem (by rw [hlv]; omega))⟩
      obtain ⟨u5, e5⟩ : ∃ u, W2.cell? ⟨g, i * 7 + 5, none⟩ = some u := ⟨_, (hrow.cellAt (i * 7 + 5) (by omega)).trans (List.getElem?_eq_getElem (by rw [hlv]; omega))⟩
      have fz3 := hrow.frozenAt (i * 7 + 3)
      have fz4 := hrow.frozenAt (i * 7 + 4)
      have fz5 := hrow.frozenAt (i * 7 + 5)
      have lg := World.block_lt_of_cell? W2 _ e3
      have hS := hR7.setVal (v1, v2, v3) HX.out.1 HX.out.2
      have HS := Lib.hid (And.intro hS (HB6.out.1.trans (bw.mono HB6.out.1.size)))
      clear hS hR7 vb7 hrow hlv bw hW2 HR6 HB6
      simp only [List.take_succ_cons, List.take_zero, List.drop_succ_cons, List.drop_zero]
      repeat still_step
      refine wpStill_nil ?_
      go_upto_region 32 with fail
      obtain ⟨W3, hW3⟩ : ∃ W3, ((W2.setCell ⟨g, i * 7 + 3, none⟩ (.int .i64 v1)).setCell ⟨g, i * 7 + 4, none⟩ (.int .i64 v2)).setCell ⟨g, i * 7 + 5, none⟩ (.string v3) = W3 := ⟨_, rfl⟩
      rw [hW3] at HS ⊢
      clear hW3 x4 lq y0 y1 y2 ly e3 e4 e5 fz3 fz4 fz5 lg
      obtain ⟨⟨hR8, u8⟩, hb8⟩ := HS.out
      have hil2 : i < o.A.length := (List.getElem?_eq_some_iff.1 HX.out.2).1
      have hn3 : (o.A.set i { x with val := (v1, v2, v3) }).length = n := by rw [List.length_set]; exact HX.out.1
      have hrow := hR8.rp
      rw [hn3] at hrow
      have hlv : (propsC (o.A.set i { x with val := (v1, v2, v3) })).length = n * 7 := by rw [propsC_length, hn3]
      have x4 : W3.cell? ⟨q, 4, none⟩ = some (.slice (some ⟨g, 0, none⟩) n pcap) := by rw [hR8.ob.cell]; rfl
      have lq := hR8.ob.lt
      obtain ⟨u6, e6⟩ : ∃ u, W3.cell? ⟨g, i * 7 + 6, none⟩ = some u := ⟨_, (hrow.cellAt (i * 7 + 6) (by omega)).trans (List.getElem?_eq_getElem (by rw [hlv]; omega))⟩
      have fz6 := hrow.frozenAt (i * 7 + 6)
      have lg := World.block_lt_of_cell? W3 _ e6
      have hF := hR8.setFlag (i := i) (x := { x with val := (v1, v2, v3) }) f hn3 (List.getElem?_set_self hil2)
      have HF := Lib.hid (And.intro hF (And.intro u8 hb8))
      clear hF hR8 u8 hb8 hrow hlv hn3 hil2 HS
      go_wp2
      go_ret
      rw [HPA.out]
      obtain ⟨⟨hR9, u9⟩, u8, hb8⟩ := HF.out
      refine ⟨rfl, ?_⟩
      rw [List.set_set] at hR9
      exact LeftR.of hb8 ((u8.trans u9).mono (fun k _ e => .inr (.inl (by rw [e]; rfl)))) hR9 (fun k hk => .inl hk)
  ·
    rw [hy2]
    clear hy2
    go_upto_region 7 with fail
    go_wp2_with fail
    refine (HP.out w3).mono ?_
    rintro e w4 ⟨rfl, b4⟩
    have HB4 := Lib.hid (And.intro (HB3.out.1.trans (b4.mono HB3.out.1.size)) (And.intro (HB3.out.2.1.below b4 HB3.out.2.1.lt) (HB3.out.2.2.1.below b4 HB3.out.2.2.1.lt)))
    clear HB3 b4 HP p0 p1 p2 lk lo cf lf
    try clear hc2 hc3
    go_upto_region 8 with fail
    have hR := HRO.out.1.below HB4.out.1
    obtain ⟨ar, har⟩ : ∃ a, o.arr = a := ⟨_, rfl⟩
    have x0 : w4.cell? ⟨q, 0, none⟩ = some (.bool ar) := by rw [hR.ob.cell, ← har]; rfl
    have lo := hR.ob.lt
    have HR := Lib.hid hR
    have HAR := Lib.hid har
    clear hR har
    have hpl : ar = true → pl = -1 := fun e => by rw [← HPL.out]; exact (HC.out (by rw [HAR.out, e])).1
    go_cut [57] (fun s57 wx => s57 = .bool false ∧ w4 = wx)
    case first =>
      cases ar with
      | false =>
        clear hpl
        go_wp2_with fail
        go_meet
        exact ⟨rfl, rfl⟩
      | true =>
        obtain rfl := hpl rfl
        go_wp2_with fail
        go_meet
        exact ⟨rfl, rfl⟩
    case rest =>
    obtain ⟨rfl, rfl⟩ := hcut
    clear hpl
    go_upto_region 15 with fail
    go_cut [92] (fun s92 wx => s92 = .bool false ∧ Hid (Below w4.heap.size w4 wx))
    case first =>
      have X0 := fun d os => cell_regrown x0 d os
      have p0 : w4.cell? ⟨w.heap.size, 0, none⟩ = some (.int .i64 k1) := by rw [HB4.out.2.1.cell]; rfl
      have p1 : w4.cell? ⟨w.heap.size, 1, none⟩ = some (.int .i64 k2) := by rw [HB4.out.2.1.cell]; rfl
      have p2 : w4.cell? ⟨w.heap.size, 2, none⟩ = some (.string k3) := by rw [HB4.out.2.1.cell]; rfl
      have P0 := fun d os => cell_regrown p0 d os
      have P1 := fun d os => cell_regrown p1 d os
      have P2 := fun d os => cell_regrown p2 d os
      obtain ⟨⟨l1, l2, l3⟩, hl⟩ : ∃ l : K3, lenK = l := ⟨_, rfl⟩
      have D1 := fun d os => Calls.regrown_of (rstr_any [108, 101, 110, 103, 116, 104] (by decide) (by decide) (grow (redrawn w4 d) os) ((HRO.out.2.2.2.1.below HB4.out.1).below (below_regrown w4 d os)))
      rw [keyL_len, hl] at D1
      have HL := Lib.hid hl
      clear x0 p0 p1 p2 lo hl
      cases ar with
      | false =>
        refine wp_region_quiet_below (by as_aux_lemma => kernel_rfl) (by as_aux_lemma => kernel_rfl) ?_
        repeat (quiet_step (with_reducible exact D1 _ _))
        refine wpQuiet_nil ?_
        intro _ hw'
        obtain ⟨⟨dq, osq⟩, hw''⟩ := hw'
        subst hw''
        have bq := below_regrown w4 dq osq
        clear X0 P0 P1 P2 D1
        go_wp2_with fail
        go_meet
        exact ⟨rfl, Lib.hid bq⟩
      | true =>
        rcases ks_other HRO.out.2.2.1 (HC.out HAR.out).2 with h8 | ⟨h7, hz, hne⟩
        · have t0 : (k1 == l1) = false := by
            dsimp only at h8
            rw [h8, ← show lenK.1 = l1 by rw [HL.out]]; rfl
          clear h8
          refine wp_region_quiet_below (by as_aux_lemma => kernel_rfl) (by as_aux_lemma => kernel_rfl) ?_
          repeat (quiet_step (with_reducible exact D1 _ _))
          refine wpQuiet_nil ?_
          intro _ hw'
          obtain ⟨⟨dq, osq⟩, hw''⟩ := hw'
          subst hw''
          have bq := below_regrown w4 dq osq
          clear X0 P0 P1 P2 D1
          go_wp2_with fail
          go_meet
          exact ⟨rfl, Lib.hid bq⟩
        · have t0 : (k1 == l1) = true := by
            dsimp only at h7
            rw [h7, ← show lenK.1 = l1 by rw [HL.out]]; rfl
          have t1 : (k2 == l2) = true := by
            dsimp only at hz
            rw [hz, ← show lenK.2.1 = l2 by rw [HL.out]]; rfl
          have t2 : (k3.toList == l3.toList) = false := by
            dsimp only at hne
            rw [← show lenK.2.2 = l3 by rw [HL.out]]; exact beq_false_of_ne hne
          clear h7 hz hne
          refine wp_region_quiet_below (by as_aux_lemma => kernel_rfl) (by as_aux_lemma => kernel_rfl) ?_
          repeat (quiet_step (with_reducible exact D1 _ _))
          refine wpQuiet_nil ?_
          intro _ hw'
          obtain ⟨⟨dq, osq⟩, hw''⟩ := hw'
          subst hw''
          have bq := below_regrown w4 dq osq
          clear X0 P0 P1 P2 D1
          go_wp2_with fail
          go_meet
          exact ⟨rfl, Lib.hid bq⟩
    case rest =>
    obtain ⟨rfl, hb5⟩ := hcut
    have HB5 := Lib.hid (And.intro (HB4.out.1.trans (hb5.out.mono HB4.out.1.size)) (And.intro (HB4.out.2.1.below hb5.out HB4.out.2.1.lt) (HB4.out.2.2.below hb5.out HB4.out.2.2.lt)))
    have HR5 := Lib.hid (HR.out.below hb5.out)
    clear hb5 HB4 HR x0 lo
    have p0 : wc.cell? ⟨w.heap.size, 0, none⟩ = some (.int .i64 k1) := by rw [HB5.out.2.1.cell]; rfl
    have p1 : wc.cell? ⟨w.heap.size, 1, none⟩ = some (.int .i64 k2) := by rw [HB5.out.2.1.cell]; rfl
    have p2 : wc.cell? ⟨w.heap.size, 2, none⟩ = some (.string k3) := by rw [HB5.out.2.1.cell]; rfl
    have lk := HB5.out.2.1.lt
    go_wp2_with fail
    refine (rfind_any (k := (k1, k2, k3)) HR5.out HRO.out.2.2.2.2.1).mono ?_
    rintro e w6 ⟨rfl, b6⟩
    have HB6 := Lib.hid (And.intro (HB5.out.1.trans (b6.mono HB5.out.1.size)) (And.intro (HB5.out.2.1.below b6 HB5.out.2.1.lt) (HB5.out.2.2.below b6 HB5.out.2.2.lt)))
    have HR6 := Lib.hid (HR5.out.below b6)
    clear b6 HB5 HR5 p0 p1 p2 lk
    have hf := HFN.out.2.2
    have hxi := HFN.out.1
    have hxk := HFN.out.2.1
    · rw [hf]
      have HPA := Lib.hid (putA_some (v := (v1, v2, v3)) (f := f) HRO.out.2.1 HRO.out.2.2.1 hxi hxk)
      obtain ⟨n, hn⟩ : ∃ n, o.A.length = n := ⟨_, rfl⟩
      have hil := (List.getElem?_eq_some_iff.1 hxi).1
      rw [hn] at hil
      have hrow := HR6.out.rp
      rw [hn] at hrow
      obtain ⟨pa, pcap, hpv, hpa⟩ := own_shape hrow
      subst hpv
      obtain ⟨g, rfl⟩ := hpa (by omega)
      have t5 : decide ((i : Int) < 0) = false := by rw [decide_eq_false_iff_not]; omega
      have zz0 : (0 : Int) ≤ (i : Int) := by omega
      have zz1 : (i : Int) < (n : Int) := by omega
      have HX := Lib.hid (And.intro hn hxi)
      clear hf hxi hxk hn hrow hpa
      go_upto_region 31 with fail
      refine still_tail 8 (by as_aux_lemma => kernel_rfl) (by as_aux_lemma => kernel_rfl) (fun W2 hW2 => ?_)
      have bw : Below w6.heap.size w6 W2 := by rw [hW2]; exact below_drw (Below.refl _ _) 1
      have hR7 := HR6.out.below bw
      have vb7 := HB6.out.2.2.below bw HB6.out.2.2.lt
      have hrow := hR7.rp
      rw [HX.out.1] at hrow
      have hlv : (propsC o.A).length = n * 7 := by rw [propsC_length, HX.out.1]
      have x4 : W2.cell? ⟨q, 4, none⟩ = some (.slice (some ⟨g, 0, none⟩) n pcap) := by rw [hR7.ob.cell]; rfl
      have lq := hR7.ob.lt
      have y0 : W2.cell? ⟨w.heap.size + 1, 0, none⟩ = some (.int .i64 v1) := by rw [vb7.cell]; rfl
      have y1 : W2.cell? ⟨w.heap.size + 1, 1, none⟩ = some (.int .i64 v2) := by rw [vb7.cell]; rfl
      have y2 : W2.cell? ⟨w.heap.size + 1, 2, none⟩ = some (.string v3) := by rw [vb7.cell]; rfl
      have ly := vb7.lt
      obtain ⟨u3, e3⟩ : ∃ u, W2.cell? ⟨g, i * 7 + 3, none⟩ = some u := ⟨_, (hrow.cellAt (i * 7 + 3) (by omega)).trans (List.getElem?_eq_getElem (by rw [hlv]; omega))⟩
      obtain ⟨u4, e4⟩ : ∃ u, W2.cell? ⟨g, i * 7 + 4, none⟩ = some u := ⟨_, (hrow.cellAt (i * 7 + 4) (by omega)).trans (List.getElem?_eq_getElem (by rw [hlv]; omega))⟩
      obtain ⟨u5, e5⟩ : ∃ u, W2.cell? ⟨g, i * 7 + 5, none⟩ = some u := ⟨_, (hrow.cellAt (i * 7 + 5) (by omega)).trans (List.getElem?_eq_getElem (by rw [hlv]; omega))⟩
      have fz3 := hrow.frozenAt (i * 7 + 3)
      have fz4 := hrow.frozenAt (i * 7 + 4)
      have fz5 := hrow.frozenAt (i * 7 + 5)
      have lg := World.block_lt_of_cell? W2 _ e3
      have hS := hR7.setVal (v1, v2, v3) HX.out.1 HX.out.2
      have HS := Lib.hid (And.intro hS (HB6.out.1.trans (bw.mono HB6.out.1.size)))
      clear hS hR7 vb7 hrow hlv bw hW2 HR6 HB6
      simp only [List.take_succ_cons, List.take_zero, List.drop_succ_cons, List.drop_zero]
      repeat still_step
      refine wpStill_nil ?_
      go_upto_region 32 with fail
      obtain ⟨W3, hW3⟩ : ∃ W3, ((W2.setCell ⟨g, i * 7 + 3, none⟩ (.int .i64 v1)).setCell ⟨g, i * 7 + 4, none⟩ (.int .i64 v2)).setCell ⟨g, i * 7 + 5, none⟩ (.string v3) = W3 := ⟨_, rfl⟩
      rw [hW3] at HS ⊢
      clear hW3 x4 lq y0 y1 y2 ly e3 e4 e5 fz3 fz4 fz5 lg
      obtain ⟨⟨hR8, u8⟩, hb8⟩ := HS.out
      have hil2 : i < o.A.length := (List.getElem?_eq_some_iff.1 HX.out.2).1
      have hn3 : (o.A.set i { x with val := (v1, v2, v3) }).length = n := by rw [List.length_set]; exact HX.out.1
      have hrow := hR8.rp
      rw [hn3] at hrow
      have hlv : (propsC (o.A.set i { x with val := (v1, v2, v3) })).length = n * 7 := by rw [propsC_length, hn3]
      have x4 : W3.cell? ⟨q, 4, none⟩ = some (.slice (some ⟨g, 0, none⟩) n pcap) := by rw [hR8.ob.cell]; rfl
      have lq := hR8.ob.lt
      obtain ⟨u6, e6⟩ : ∃ u, W3.cell? ⟨g, i * 7 + 6, none⟩ = some u := ⟨_, (hrow.cellAt (i * 7 + 6) (by omega)).trans (List.getElem?_eq_getElem (by rw [hlv]; omega))⟩
      have fz6 := hrow.frozenAt (i * 7 + 6)
      have lg := World.block_lt_of_cell? W3 _ e6
      have hF := hR8.setFlag (i := i) (x := { x with val := (v1, v2, v3) }) f hn3 (List.getElem?_set_self hil2)
      have HF := Lib.hid (And.intro hF (And.intro u8 hb8))
      clear hF hR8 u8 hb8 hrow hlv hn3 hil2 HS
      go_wp2
      go_ret
      rw [HPA.out]
      obtain ⟨⟨hR9, u9⟩, u8, hb8⟩ := HF.out
      refine ⟨rfl, ?_⟩
      rw [List.set_set] at hR9
      exact LeftR.of hb8 ((u8.trans u9).mono (fun k _ e => .inr (.inl (by rw [e]; rfl)))) hR9 (fun k hk => .inl hk)
end Go.Proofs.YtmimnaaofpkndaaDoor.Hp
