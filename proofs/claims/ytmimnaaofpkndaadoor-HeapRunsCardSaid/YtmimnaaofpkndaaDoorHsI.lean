/- HeapRuns: the document's Define, by the list. -/
import Derived.Test.YtmimnaaofpkndaaDoorHsH
import Derived.Test.YtmimnaaofpkndaaDoorOrdC
import Derived.StillTailTactics
set_option linter.unusedVariables false
set_option linter.unusedSimpArgs false
namespace Go.Proofs.YtmimnaaofpkndaaDoor.Hp
open Go.RowKit Go.Proofs.YtmimnaaofpkndaaDoor Go.Shelf Go.Sort
attribute [local go_sem] Oper.semAt_some
theorem infoProp : (Tryd.prog.info? 127).map (fun i => (i.zero, i.size, i.bytes)) = some (some (.agg #[.int .i64 0, .int .i64 0, .string ⟨#[]⟩, .int .i64 0, .int .i64 0, .string ⟨#[]⟩, .int .i64 0]), 7, 72) := by as_aux_lemma => kernel_rfl
theorem LeftR.of {o o' : PO} {q : Nat} {pv ev pv' ev' : Value} {w W W' : World} (hb : Below w.heap.size w W) (u : Upd W W' (roB q pv ev)) (h : RO o' q pv' ev' W') (hn : ∀ k, roB q pv' ev' k → roB q pv ev k ∨ W.heap.size ≤ k) : LeftR o q pv ev w o' W' :=
  ⟨(Upd.of_below_all (M := roB q pv ev) hb).trans u, pv', ev', h, fun k hk => (hn k hk).imp id (fun e => Nat.le_trans hb.size e)⟩
set_option maxRecDepth 100000 in
set_option maxHeartbeats 16000000 in
/-- Define, one property more. -/
theorem rdefine_new {o : PO} {q : Nat} {pv ev : Value} {w : World} {k v : K3} {f : Int} (h : RO o q pv ev w) (hO : o.Ok) (hk : KS k) (hG : LG w) (hA : o.A.length ≤ 4000) (hf0 : 0 ≤ f) (hf1 : f < 16) (hfn : fnd o.A k = -1) (hno : (((!(o.own k).2.2) && o.clo) || ((o.own k).2.2 && refuse (o.own k).2.1 f)) = false) (hc : o.arr = true → plcV k = -1 ∧ k ≠ lenK) :
    Calls Tryd.prog 60 #[.pointer (some ⟨q, 0, none⟩), VK k, VK v, .int .i64 f] w fun e w' => e = .returned (.bool true) ∧ LeftR o q pv ev w { o with A := putA k v f o.A } w' := by
  obtain ⟨i0, hi, hz0, hz1, hz2⟩ : ∃ i, Tryd.prog.info? 127 = some i ∧ i.zero = some (.agg #[.int .i64 0, .int .i64 0, .string ⟨#[]⟩, .int .i64 0, .int .i64 0, .string ⟨#[]⟩, .int .i64 0]) ∧ i.size = 7 ∧ i.bytes = 72 := info_parts infoProp
  have HZ := Lib.hid (And.intro hi (And.intro hz0 (And.intro hz1 hz2)))
  have HNO := Lib.hid hno
  have HC := Lib.hid hc
  have HFN := Lib.hid hfn
  clear hfn hno hc hi hz0 hz1 hz2
  have HRO := Lib.hid (And.intro h (And.intro hO (And.intro hk (And.intro hG (And.intro hA (And.intro hf0 hf1))))))
  obtain ⟨gv, gf, gb, hg⟩ : ∃ (gv : K3) (gf : Int) (gb : Bool), o.own k = (gv, gf, gb) := ⟨_, _, _, rfl⟩
  obtain ⟨⟨r1, r2, r3⟩, hrk⟩ : ∃ x, rkey o k = x := ⟨_, rfl⟩
  obtain ⟨g1, g2, g3⟩ := gv
  have hown : ∀ W, Below w.heap.size w W → Calls Tryd.prog 62 #[.pointer (some ⟨q, 0, none⟩), VK k] W fun e w' => e = .returned (.tuple #[PV (r1, r2, r3) (g1, g2, g3) gf, .bool gb]) ∧ Below W.heap.size W w' := fun W bW => by
    have := rown_any (HRO.out.1.below bW) HRO.out.2.1 HRO.out.2.2.1 (HRO.out.2.2.2.1.below bW) HRO.out.2.2.2.2.1
    rw [hg, hrk] at this
    exact this
  have HOW := Lib.hid hown
  have HG := Lib.hid hg
  have hgf := own_flags hO k
  rw [hg] at hgf
  have HGF := Lib.hid (refuse_ref hgf.1 hgf.2 hf0 hf1)
  obtain ⟨k1, k2, k3⟩ := k
  obtain ⟨v1, v2, v3⟩ := v
  have HB := Lib.hid (two_boxes w k1 k2 k3 v1 v2 v3)
  clear h hO hk hG hown hg hA hf0 hf1 hrk hgf
  go_enter Tryd.func60, Tryd.ntmps60
  go_wp2_with (fail)
  refine (HOW.out _ HB.out.1).mono ?_
  rintro e w2 ⟨rfl, b2⟩
  obtain ⟨b1, kb, vb⟩ := HB.out
  have b23 : Below w2.heap.size w2 (w2.alloc (.cells #[.int .i64 r1, .int .i64 r2, .string r3, .int .i64 g1, .int .i64 g2, .string g3, .int .i64 gf] 127)) := (Below.refl _ _).alloc (Nat.le_refl _) _
  have HB3 := Lib.hid (And.intro ((b1.trans (b2.mono b1.size)).trans (b23.mono (Nat.le_trans b1.size b2.size))) (And.intro ((kb.below b2 kb.lt).below b23 (Nat.lt_of_lt_of_le kb.lt b2.size)) (And.intro ((vb.below b2 vb.lt).below b23 (Nat.lt_of_lt_of_le vb.lt b2.size)) (Blk.new w2 127 #[.int .i64 r1, .int .i64 r2, .string r3, .int .i64 g1, .int .i64 g2, .string g3, .int .i64 gf]))))
  clear b1 kb vb b2 b23 HB HOW
  go_upto_region 2 with fail
  generalize (w2.alloc (.cells #[.int .i64 r1, .int .i64 r2, .string r3, .int .i64 g1, .int .i64 g2, .string g3, .int .i64 gf] 127)) = w3 at *
  generalize w2.heap.size = q2 at *
  have c2 : w3.cell? ⟨q, 1, none⟩ = some (.bool o.clo) := by rw [(HRO.out.1.below HB3.out.1).ob.cell]; rfl
  have lo := (HRO.out.1.below HB3.out.1).ob.lt
  have cf : w3.cell? ⟨q2, 6, none⟩ = some (.int .i64 gf) := by rw [HB3.out.2.2.2.cell]; rfl
  have lf := HB3.out.2.2.2.lt
  obtain ⟨cl, hcl⟩ : ∃ c, o.clo = c := ⟨_, rfl⟩
  rw [hcl] at c2
  have HCL := Lib.hid hcl
  clear hcl
  go_cut [28] (fun s28 wx => s28 = .bool (!gb && cl) ∧ w3 = wx)
  case first =>
    cases gb with
    | true =>
      go_wp2_with fail
      go_meet
      exact ⟨rfl, rfl⟩
    | false =>
      go_wp2_with fail
      go_meet
      exact ⟨rfl, rfl⟩
  case rest =>
  obtain ⟨rfl, rfl⟩ := hcut
  have hno := HNO.out
  rw [HG.out, HCL.out] at hno
  dsimp only at hno
  have hx : (!gb && cl) = false := by cases gb <;> cases cl <;> simp at hno ⊢
  have HNN := Lib.hid hno
  clear hno HNO c2
  rw [hx]
  clear hx
  obtain ⟨c1, hc1⟩ : ∃ c, (bits .and .i64 gf 4 == 0) = c := ⟨_, rfl⟩
  obtain ⟨c2', hc2⟩ : ∃ c, (bits .and .i64 gf 1 == 0) = c := ⟨_, rfl⟩
  obtain ⟨c3, hc3⟩ : ∃ c, (bits .or .i64 f 1 != bits .or .i64 gf 1) = c := ⟨_, rfl⟩
  have hrf : refuse gf f = (c1 && (c2' || c3)) := by rw [HGF.out]; unfold refuseR; rw [hc1, hc2, hc3]
  have HRF := Lib.hid hrf
  clear hrf
  go_upto_region 4 with fail
  go_cut [35] (fun s35 wx => s35 = .bool (gb && c1) ∧ w3 = wx)
  case first =>
    clear hc2 hc3
    cases gb with
    | false =>
      clear hc1
      go_wp2_with fail
      go_meet
      exact ⟨rfl, rfl⟩
    | true =>
      go_wp2_with fail
      go_meet
      exact ⟨rfl, rfl⟩
  case rest =>
  obtain ⟨rfl, rfl⟩ := hcut
  clear hc1
  have hy2 : (gb && c1) = false ∨ ((gb && c1) = true ∧ c2' = false ∧ c3 = false) := by
    have := HNN.out
    rw [HRF.out] at this
    cases gb <;> cases c1 <;> simp at this ⊢
    exact this
  clear HNN HRF
  obtain ⟨pl, hpl⟩ : ∃ x, plcV (k1, k2, k3) = x := ⟨_, rfl⟩
  have hP : ∀ W, Calls Tryd.prog 72 #[VK (k1, k2, k3)] W fun e w' => e = .returned (.int .i64 pl) ∧ Below W.heap.size W w' := fun W => by
    have := place_any HRO.out.2.2.1 W
    rwa [hpl] at this
  have HP := Lib.hid hP
  have HPL := Lib.hid hpl
  clear hP hpl
  have p0 : w3.cell? ⟨w.heap.size, 0, none⟩ = some (.int .i64 k1) := by rw [HB3.out.2.1.cell]; rfl
  have p1 : w3.cell? ⟨w.heap.size, 1, none⟩ = some (.int .i64 k2) := by rw [HB3.out.2.1.cell]; rfl
  have p2 : w3.cell? ⟨w.heap.size, 2, none⟩ = some (.string k3) := by rw [HB3.out.2.1.cell]; rfl
  have lk := HB3.out.2.1.lt
  rcases hy2 with hy2 | ⟨hy2, rfl, rfl⟩
  ·
    rw [hy2]
    clear hy2
    go_upto_region 7 with fail
    go_wp2_with fail
    refine (HP.out w3).mono ?_
    rintro e w4 ⟨rfl, b4⟩
    have HB4 := Lib.hid (And.intro (HB3.out.1.trans (b4.mono HB3.out.1.size)) (And.intro (HB3.out.2.1.below b4 HB3.out.2.1.lt) (HB3.out.2.2.1.below b4 HB3.out.2.2.1.lt)))
    clear HB3 b4 HP p0 p1 p2 lk lo cf lf
    try clear hc2 hc3
    go_upto_region 8 with fail
    have hR := HRO.out.1.below HB4.out.1
    obtain ⟨ar, har⟩ : ∃ a, o.arr = a := ⟨_, rfl⟩
    have x0 : w4.cell? ⟨q, 0, none⟩ = some (.bool ar) := by rw [hR.ob.cell, ← har]; rfl
    have lo := hR.ob.lt
    have HR := Lib.hid hR
    have HAR := Lib.hid har
    clear hR har
    have hpl : ar = true → pl = -1 := fun e => by rw [← HPL.out]; exact (HC.out (by rw [HAR.out, e])).1
    go_cut [57] (fun s57 wx => s57 = .bool false ∧ w4 = wx)
    case first =>
      cases ar with
      | false =>
        clear hpl
        go_wp2_with fail
        go_meet
        exact ⟨rfl, rfl⟩
      | true =>
        obtain rfl := hpl rfl
        go_wp2_with fail
        go_meet
        exact ⟨rfl, rfl⟩
    case rest =>
    obtain ⟨rfl, rfl⟩ := hcut
    clear hpl
    go_upto_region 15 with fail
    go_cut [92] (fun s92 wx => s92 = .bool false ∧ Hid (Below w4.heap.size w4 wx))
    case first =>
      have X0 := fun d os => cell_regrown x0 d os
      have p0 : w4.cell? ⟨w.heap.size, 0, none⟩ = some (.int .i64 k1) := by rw [HB4.out.2.1.cell]; rfl
      have p1 : w4.cell? ⟨w.heap.size, 1, none⟩ = some (.int .i64 k2) := by rw [HB4.out.2.1.cell]; rfl
      have p2 : w4.cell? ⟨w.heap.size, 2, none⟩ = some (.string k3) := by rw [HB4.out.2.1.cell]; rfl
      have P0 := fun d os => cell_regrown p0 d os
      have P1 := fun d os => cell_regrown p1 d os
      have P2 := fun d os => cell_regrown p2 d os
      obtain ⟨⟨l1, l2, l3⟩, hl⟩ : ∃ l : K3, lenK = l := ⟨_, rfl⟩
      have D1 := fun d os => Calls.regrown_of (rstr_any [108, 101, 110, 103, 116, 104] (by decide) (by decide) (grow (redrawn w4 d) os) ((HRO.out.2.2.2.1.below HB4.out.1).below (below_regrown w4 d os)))
      rw [keyL_len, hl] at D1
      have HL := Lib.hid hl
      clear x0 p0 p1 p2 lo hl
      cases ar with
      | false =>
        refine wp_region_quiet_below (by as_aux_lemma => kernel_rfl) (by as_aux_lemma => kernel_rfl) ?_
        repeat (quiet_step (with_reducible exact D1 _ _))
        refine wpQuiet_nil ?_
        intro _ hw'
        obtain ⟨⟨dq, osq⟩, hw''⟩ := hw'
        subst hw''
        have bq := below_regrown w4 dq osq
        clear X0 P0 P1 P2 D1
        go_wp2_with fail
        go_meet
        exact ⟨rfl, Lib.hid bq⟩
      | true =>
        rcases ks_other HRO.out.2.2.1 (HC.out HAR.out).2 with h8 | ⟨h7, hz, hne⟩
        · have t0 : (k1 == l1) = false := by
            dsimp only at h8
            rw [h8, ← show lenK.1 = l1 by rw [HL.out]]; rfl
          clear h8
          refine wp_region_quiet_below (by as_aux_lemma => kernel_rfl) (by as_aux_lemma => kernel_rfl) ?_
          repeat (quiet_step (with_reducible exact D1 _ _))
          refine wpQuiet_nil ?_
          intro _ hw'
          obtain ⟨⟨dq, osq⟩, hw''⟩ := hw'
          subst hw''
          have bq := below_regrown w4 dq osq
          clear X0 P0 P1 P2 D1
          go_wp2_with fail
          go_meet
          exact ⟨rfl, Lib.hid bq⟩
        · have t0 : (k1 == l1) = true := by
            dsimp only at h7
            rw [h7, ← show lenK.1 = l1 by rw [HL.out]]; rfl
          have t1 : (k2 == l2) = true := by
            dsimp only at hz
            rw [hz, ← show lenK.2.1 = l2 by rw [HL.out]]; rfl
          have t2 : (k3.toList == l3.toList) = false := by
            dsimp only at hne
            rw [← show lenK.2.2 = l3 by rw [HL.out]]; exact beq_false_of_ne hne
          clear h7 hz hne
          refine wp_region_quiet_below (by as_aux_lemma => kernel_rfl) (by as_aux_lemma => kernel_rfl) ?_
          repeat (quiet_step (with_reducible exact D1 _ _))
          refine wpQuiet_nil ?_
          intro _ hw'
          obtain ⟨⟨dq, osq⟩, hw''⟩ := hw'
          subst hw''
          have bq := below_regrown w4 dq osq
          clear X0 P0 P1 P2 D1
          go_wp2_with fail
          go_meet
          exact ⟨rfl, Lib.hid bq⟩
    case rest =>
    obtain ⟨rfl, hb5⟩ := hcut
    have HB5 := Lib.hid (And.intro (HB4.out.1.trans (hb5.out.mono HB4.out.1.size)) (And.intro (HB4.out.2.1.below hb5.out HB4.out.2.1.lt) (HB4.out.2.2.below hb5.out HB4.out.2.2.lt)))
    have HR5 := Lib.hid (HR.out.below hb5.out)
    clear hb5 HB4 HR x0 lo
    have p0 : wc.cell? ⟨w.heap.size, 0, none⟩ = some (.int .i64 k1) := by rw [HB5.out.2.1.cell]; rfl
    have p1 : wc.cell? ⟨w.heap.size, 1, none⟩ = some (.int .i64 k2) := by rw [HB5.out.2.1.cell]; rfl
    have p2 : wc.cell? ⟨w.heap.size, 2, none⟩ = some (.string k3) := by rw [HB5.out.2.1.cell]; rfl
    have lk := HB5.out.2.1.lt
    go_wp2_with fail
    refine (rfind_any (k := (k1, k2, k3)) HR5.out HRO.out.2.2.2.2.1).mono ?_
    rintro e w6 ⟨rfl, b6⟩
    have HB6 := Lib.hid (And.intro (HB5.out.1.trans (b6.mono HB5.out.1.size)) (And.intro (HB5.out.2.1.below b6 HB5.out.2.1.lt) (HB5.out.2.2.below b6 HB5.out.2.2.lt)))
    have HR6 := Lib.hid (HR5.out.below b6)
    clear b6 HB5 HR5 p0 p1 p2 lk
    have hf := HFN.out
    · rw [hf]
      have HPA := Lib.hid (putA_none (v := (v1, v2, v3)) (f := f) HRO.out.2.1 HRO.out.2.2.1 hf)
      clear hf
      go_upto_region 29 with fail
      obtain ⟨n, hn⟩ : ∃ n, o.A.length = n := ⟨_, rfl⟩
      have hrow := HR6.out.rp
      rw [hn] at hrow
      obtain ⟨pa, pcap, hpv, -⟩ := own_shape hrow
      subst hpv
      have HN := Lib.hid hn
      have hA := HRO.out.2.2.2.2.1
      rw [hn] at hA
      have c4 : w6.cell? ⟨q, 4, none⟩ = some (.slice pa n pcap) := by rw [HR6.out.ob.cell]; rfl
      have d0 : w6.cell? ⟨w.heap.size, 0, none⟩ = some (.int .i64 k1) := by rw [HB6.out.2.1.cell]; rfl
      have d1 : w6.cell? ⟨w.heap.size, 1, none⟩ = some (.int .i64 k2) := by rw [HB6.out.2.1.cell]; rfl
      have d2 : w6.cell? ⟨w.heap.size, 2, none⟩ = some (.string k3) := by rw [HB6.out.2.1.cell]; rfl
      have f0 : w6.cell? ⟨w.heap.size + 1, 0, none⟩ = some (.int .i64 v1) := by rw [HB6.out.2.2.cell]; rfl
      have f1 : w6.cell? ⟨w.heap.size + 1, 1, none⟩ = some (.int .i64 v2) := by rw [HB6.out.2.2.cell]; rfl
      have f2 : w6.cell? ⟨w.heap.size + 1, 2, none⟩ = some (.string v3) := by rw [HB6.out.2.2.cell]; rfl
      clear hn hrow
      refine wp_var0 (fun KV HKV => ?_)
      refine wp_region_till (m := 10) (S := (fun W => W.cell? ⟨q, 4, none⟩ = some (.slice pa n pcap) ∧ (W.cell? ⟨w.heap.size, 0, none⟩ = some (.int .i64 k1) ∧ W.cell? ⟨w.heap.size, 1, none⟩ = some (.int .i64 k2) ∧ W.cell? ⟨w.heap.size, 2, none⟩ = some (.string k3)) ∧ (W.cell? ⟨w.heap.size + 1, 0, none⟩ = some (.int .i64 v1) ∧ W.cell? ⟨w.heap.size + 1, 1, none⟩ = some (.int .i64 v2) ∧ W.cell? ⟨w.heap.size + 1, 2, none⟩ = some (.string v3)))) (by as_aux_lemma => kernel_rfl) ?_
      have e4 : w6.drew = w6.drewN 1 := rfl
      rw [e4]
      have S0 : (w6.drewN 1).cell? ⟨q, 4, none⟩ = some (.slice pa n pcap) ∧ ((w6.drewN 1).cell? ⟨w.heap.size, 0, none⟩ = some (.int .i64 k1) ∧ (w6.drewN 1).cell? ⟨w.heap.size, 1, none⟩ = some (.int .i64 k2) ∧ (w6.drewN 1).cell? ⟨w.heap.size, 2, none⟩ = some (.string k3)) ∧ ((w6.drewN 1).cell? ⟨w.heap.size + 1, 0, none⟩ = some (.int .i64 v1) ∧ (w6.drewN 1).cell? ⟨w.heap.size + 1, 1, none⟩ = some (.int .i64 v2) ∧ (w6.drewN 1).cell? ⟨w.heap.size + 1, 2, none⟩ = some (.string v3)) := ⟨c4, ⟨d0, d1, d2⟩, ⟨f0, f1, f2⟩⟩
      have HBD := Lib.hid (And.intro (below_drw HB6.out.1 1) (HR6.out.below (below_drw (Below.refl _ _) 1)))
      clear c4 d0 d1 d2 f0 f1 f2 HB6 HR6 e4
      generalize w6.drewN 1 = E at *
      change tillH _ _ _ _ _ _ 14 #[false, false, false, false, false, false, false, false, false, false, false, false, false, false] _ _
      refine tillH_takeAny (i := 0) (oi := ?oo1) (v := ?vv1) ?hi1 (by as_aux_lemma => kernel_rfl) (by as_aux_lemma => kernel_rfl) (by as_aux_lemma => kernel_rfl) ?hq1 (by as_aux_lemma => kernel_rfl) ?hy1 (fun _ => S0) ?hh1
      case hi1 => (simp only [List.getElem?_toArray, List.getElem?_cons_succ, List.getElem?_cons_zero]; rfl)
      case hq1 => exact fun _ _ _ h => h
      case hy1 => exact Or.inl ⟨by rfl, by (intro W; go_simp; (try with_reducible rfl))⟩
      (try simp only [Act.put, List.setIfInBounds_toArray, List.set_cons_zero, List.set_cons_succ])
      refine tillH_takeAny (i := 1) (oi := ?oo2) (v := ?vv2) ?hi2 (by as_aux_lemma => kernel_rfl) (by as_aux_lemma => kernel_rfl) (by as_aux_lemma => kernel_rfl) ?hq2 (by as_aux_lemma => kernel_rfl) ?hy2 (fun _ => S0) ?hh2
      case hi2 => (simp only [List.getElem?_toArray, List.getElem?_cons_succ, List.getElem?_cons_zero]; rfl)
      case hq2 => exact fun _ _ _ h => h
      case hy2 => exact Or.inl ⟨by rfl, by (intro W; go_simp; (try with_reducible rfl))⟩
      (try simp only [Act.put, List.setIfInBounds_toArray, List.set_cons_zero, List.set_cons_succ])
      refine tillH_takeAny (i := 2) (oi := ?oo3) (v := ?vv3) ?hi3 (by as_aux_lemma => kernel_rfl) (by as_aux_lemma => kernel_rfl) (by as_aux_lemma => kernel_rfl) ?hq3 (by as_aux_lemma => kernel_rfl) ?hy3 (fun _ => S0) ?hh3
      case hi3 => (simp only [List.getElem?_toArray, List.getElem?_cons_succ, List.getElem?_cons_zero]; rfl)
      case hq3 => exact fun _ _ _ h => h
      case hy3 => exact Or.inl ⟨by rfl, by (intro W; go_simp; (try with_reducible rfl))⟩
      (try simp only [Act.put, List.setIfInBounds_toArray, List.set_cons_zero, List.set_cons_succ])
      refine tillH_takeAny (i := 3) (oi := ?oo4) (v := ?vv4) ?hi4 (by as_aux_lemma => kernel_rfl) (by as_aux_lemma => kernel_rfl) (by as_aux_lemma => kernel_rfl) ?hq4 (by as_aux_lemma => kernel_rfl) ?hy4 (fun _ => S0) ?hh4
      case hi4 => (simp only [List.getElem?_toArray, List.getElem?_cons_succ, List.getElem?_cons_zero]; rfl)
      case hq4 => exact fun _ _ _ h => h
      case hy4 => exact Or.inl ⟨by rfl, by (intro W; go_simp; (try with_reducible rfl))⟩
      (try simp only [Act.put, List.setIfInBounds_toArray, List.set_cons_zero, List.set_cons_succ])
      refine tillH_take (i := 4) (oi := ?oo5) (v := ?vv5) ?hi5 (by as_aux_lemma => kernel_rfl) (by as_aux_lemma => kernel_rfl) (by as_aux_lemma => kernel_rfl) ?hq5 (by as_aux_lemma => kernel_rfl) (by as_aux_lemma => kernel_rfl) (by as_aux_lemma => kernel_rfl) ?hy5 S0 ?hh5
      case hi5 => (simp only [List.getElem?_toArray, List.getElem?_cons_succ, List.getElem?_cons_zero]; rfl)
      case hq5 => exact fun _ _ _ h => h
      case hy5 => exact Or.inl ⟨by rfl, by (intro W hSw; (try obtain ⟨s0, ⟨s1, s2, s3⟩, ⟨s4, s5, s6⟩⟩ := hSw); go_simp; (try with_reducible rfl))⟩
      (try simp only [Act.put, List.setIfInBounds_toArray, List.set_cons_zero, List.set_cons_succ])
      refine tillH_takeC [9, 8] (i := 5) (oi := ?oo6) (v := ?vv6) ?hi6 (by as_aux_lemma => kernel_rfl) (by as_aux_lemma => kernel_rfl) (by as_aux_lemma => kernel_rfl) ?hq6 (by as_aux_lemma => kernel_rfl) (by as_aux_lemma => kernel_rfl) (by as_aux_lemma => kernel_rfl) ?hy6 S0 ?hh6
      case hi6 => (simp only [List.getElem?_toArray, List.getElem?_cons_succ, List.getElem?_cons_zero]; rfl)
      case hq6 => exact fun _ _ _ h => h
      case hy6 => exact Or.inl ⟨by rfl, by (intro W hSw; (try obtain ⟨s0, ⟨s1, s2, s3⟩, ⟨s4, s5, s6⟩⟩ := hSw); go_simp; (try with_reducible rfl))⟩
      (try simp only [Act.put, List.setIfInBounds_toArray, List.set_cons_zero, List.set_cons_succ])
      refine tillH_takeC [9, 8] (i := 6) (oi := ?oo7) (v := ?vv7) ?hi7 (by as_aux_lemma => kernel_rfl) (by as_aux_lemma => kernel_rfl) (by as_aux_lemma => kernel_rfl) ?hq7 (by as_aux_lemma => kernel_rfl) (by as_aux_lemma => kernel_rfl) (by as_aux_lemma => kernel_rfl) ?hy7 S0 ?hh7
      case hi7 => (simp only [List.getElem?_toArray, List.getElem?_cons_succ, List.getElem?_cons_zero]; rfl)
      case hq7 => exact fun _ _ _ h => h
      case hy7 => exact Or.inl ⟨by rfl, by (intro W hSw; (try obtain ⟨s0, ⟨s1, s2, s3⟩, ⟨s4, s5, s6⟩⟩ := hSw); go_simp; (try with_reducible rfl))⟩
      (try simp only [Act.put, List.setIfInBounds_toArray, List.set_cons_zero, List.set_cons_succ])
      refine tillH_takeAny (i := 7) (oi := ?oo8) (v := ?vv8) ?hi8 (by as_aux_lemma => kernel_rfl) (by as_aux_lemma => kernel_rfl) (by as_aux_lemma => kernel_rfl) ?hq8 (by as_aux_lemma => kernel_rfl) ?hy8 (fun _ => S0) ?hh8
      case hi8 => (simp only [List.getElem?_toArray, List.getElem?_cons_succ, List.getElem?_cons_zero]; rfl)
      case hq8 => exact fun _ _ _ h => h
      case hy8 => exact Or.inl ⟨by rfl, by (intro W; go_simp; (try with_reducible rfl))⟩
      (try simp only [Act.put, List.setIfInBounds_toArray, List.set_cons_zero, List.set_cons_succ])
      refine tillH_takeAny (i := 8) (oi := ?oo9) (v := ?vv9) ?hi9 (by as_aux_lemma => kernel_rfl) (by as_aux_lemma => kernel_rfl) (by as_aux_lemma => kernel_rfl) ?hq9 (by as_aux_lemma => kernel_rfl) ?hy9 (fun _ => S0) ?hh9
      case hi9 => (simp only [List.getElem?_toArray, List.getElem?_cons_succ, List.getElem?_cons_zero]; rfl)
      case hq9 => exact fun _ _ _ h => h
      case hy9 => exact Or.inl ⟨by rfl, by (intro W; go_simp; (try with_reducible rfl))⟩
      (try simp only [Act.put, List.setIfInBounds_toArray, List.set_cons_zero, List.set_cons_succ])
      refine tillH_next (rs := [9]) (by as_aux_lemma => kernel_rfl) (by simp) ?_
      refine NextH.cons rfl (fun K hK => ?_) NextH.nil
      go_simp
      have b7 := (Below.refl E.heap.size E).alloc (Nat.le_refl _) (.cells #[.int .i64 k1, .int .i64 k2, .string k3, .int .i64 v1, .int .i64 v2, .string v3, .int .i64 f] 127)
      have S7 : (E.alloc (.cells #[.int .i64 k1, .int .i64 k2, .string k3, .int .i64 v1, .int .i64 v2, .string v3, .int .i64 f] 127)).cell? ⟨q, 4, none⟩ = some (.slice pa n pcap) ∧ ((E.alloc (.cells #[.int .i64 k1, .int .i64 k2, .string k3, .int .i64 v1, .int .i64 v2, .string v3, .int .i64 f] 127)).cell? ⟨w.heap.size, 0, none⟩ = some (.int .i64 k1) ∧ (E.alloc (.cells #[.int .i64 k1, .int .i64 k2, .string k3, .int .i64 v1, .int .i64 v2, .string v3, .int .i64 f] 127)).cell? ⟨w.heap.size, 1, none⟩ = some (.int .i64 k2) ∧ (E.alloc (.cells #[.int .i64 k1, .int .i64 k2, .string k3, .int .i64 v1, .int .i64 v2, .string v3, .int .i64 f] 127)).cell? ⟨w.heap.size, 2, none⟩ = some (.string k3)) ∧ ((E.alloc (.cells #[.int .i64 k1, .int .i64 k2, .string k3, .int .i64 v1, .int .i64 v2, .string v3, .int .i64 f] 127)).cell? ⟨w.heap.size + 1, 0, none⟩ = some (.int .i64 v1) ∧ (E.alloc (.cells #[.int .i64 k1, .int .i64 k2, .string k3, .int .i64 v1, .int .i64 v2, .string v3, .int .i64 f] 127)).cell? ⟨w.heap.size + 1, 1, none⟩ = some (.int .i64 v2) ∧ (E.alloc (.cells #[.int .i64 k1, .int .i64 k2, .string k3, .int .i64 v1, .int .i64 v2, .string v3, .int .i64 f] 127)).cell? ⟨w.heap.size + 1, 2, none⟩ = some (.string v3)) := by
        obtain ⟨a0, ⟨a1, a2, a3⟩, ⟨a4, a5, a6⟩⟩ := S0
        exact ⟨(b7.cell (World.block_lt_of_cell? E _ a0)).trans a0, ⟨(b7.cell (World.block_lt_of_cell? E _ a1)).trans a1, (b7.cell (World.block_lt_of_cell? E _ a2)).trans a2, (b7.cell (World.block_lt_of_cell? E _ a3)).trans a3⟩, ⟨(b7.cell (World.block_lt_of_cell? E _ a4)).trans a4, (b7.cell (World.block_lt_of_cell? E _ a5)).trans a5, (b7.cell (World.block_lt_of_cell? E _ a6)).trans a6⟩⟩
      have HB7 := Lib.hid (And.intro (HBD.out.1.trans (b7.mono HBD.out.1.size)) (HBD.out.2.below b7))
      have HNW := Lib.hid (World.news_of_block (cs := #[.int .i64 k1, .int .i64 k2, .string k3, .int .i64 v1, .int .i64 v2, .string v3, .int .i64 f]) (t := 127) (fr := (0, 0)) (heap_alloc_new E _))
      refine hK.out _ _ (fun _ => S7) ?_
      clear hK K S0 b7
      (try simp only [Act.put, List.setIfInBounds_toArray, List.set_cons_zero, List.set_cons_succ])
      obtain ⟨eb, heb⟩ : ∃ x, E.heap.size = x := ⟨_, rfl⟩
      have HEB := Lib.hid heb
      generalize hE7 : E.alloc (.cells #[.int .i64 k1, .int .i64 k2, .string k3, .int .i64 v1, .int .i64 v2, .string v3, .int .i64 f] 127) = E7 at *
      have hsz7 : E.heap.size < E7.heap.size := by rw [← hE7, World.size_alloc]; omega
      rw [heb] at HNW hsz7 ⊢
      clear heb hE7
      refine tillH_next (rs := [10]) (by as_aux_lemma => kernel_rfl) (by simp) ?_
      refine NextH.cons rfl (fun K hK => ?_) NextH.nil
      have hrow7 := HB7.out.2.rp
      rw [HN.out] at hrow7
      obtain ⟨hi, hz0, hz1, hz2⟩ := HZ.out
      refine step_append_lies _ (by rfl) _ _ _ (by rfl) 1 127 i0 _ 7 72 Tryd.underlying131 hi hz0 hz1 hz2 rfl (by decide) _ _ _ (by rfl) hrow7 ⟨eb, 0, none⟩ 1 1 [.int .i64 k1, .int .i64 k2, .string k3, .int .i64 v1, .int .i64 v2, .string v3, .int .i64 f] (by rfl) (by rfl) HNW.out (by simp [Value.oneCell']) (by decide) (by unfold maxLen; omega) (by omega) (by omega) _ rfl ?_
      intro gg capg w8 hown8 hgrow8 hat8 hlt8
      refine hK.out _ _ (fun h => absurd h (by simp)) ?_
      clear hK K
      (try simp only [Act.put, List.setIfInBounds_toArray, List.set_cons_zero, List.set_cons_succ])
      have hk8 := HB7.out.2.more ⟨(k1, k2, k3), (v1, v2, v3), f, false⟩ HN.out hown8 hgrow8 (hat8.imp id (fun e => by omega))
      have lb8 := HB7.out.2.ob.grown hgrow8 (fun e => HB7.out.2.np e.symm)
      have x8 : w8.cell? ⟨q, 4, none⟩ = some (.slice pa n pcap) := by rw [lb8.cell]; rfl
      have f8 := lb8.frozen 4
      have l8 := lb8.lt
      have HK8 := Lib.hid (And.intro hk8 (hat8.imp id (fun e => (show E7.heap.size ≤ gg by omega))))
      clear hown8 hgrow8 hat8 hlt8 hk8 lb8 hrow7 S7 hi hz0 hz1 hz2
      refine tillH_takeAny (i := 11) (oi := ?oo10) (v := ?vv10) ?hi10 (by as_aux_lemma => kernel_rfl) (by as_aux_lemma => kernel_rfl) (by as_aux_lemma => kernel_rfl) ?hq10 (by as_aux_lemma => kernel_rfl) ?hy10 (fun h => absurd h (by simp)) ?hh10
      case hi10 => (simp only [List.getElem?_toArray, List.getElem?_cons_succ, List.getElem?_cons_zero]; rfl)
      case hq10 => exact fun _ _ _ h => h
      case hy10 => exact Or.inl ⟨by rfl, by (intro W; go_simp; (try with_reducible rfl))⟩
      (try simp only [Act.put, List.setIfInBounds_toArray, List.set_cons_zero, List.set_cons_succ])
      refine tillH_takeAny (i := 12) (oi := ?oo11) (v := ?vv11) ?hi11 (by as_aux_lemma => kernel_rfl) (by as_aux_lemma => kernel_rfl) (by as_aux_lemma => kernel_rfl) ?hq11 (by as_aux_lemma => kernel_rfl) ?hy11 (fun h => absurd h (by simp)) ?hh11
      case hi11 => (simp only [List.getElem?_toArray, List.getElem?_cons_succ, List.getElem?_cons_zero]; rfl)
      case hq11 => exact fun _ _ _ h => h
      case hy11 => exact Or.inl ⟨by rfl, by (intro W; go_simp; (try with_reducible rfl))⟩
      (try simp only [Act.put, List.setIfInBounds_toArray, List.set_cons_zero, List.set_cons_succ])
      refine tillH_next (rs := [13]) (by as_aux_lemma => kernel_rfl) (by simp) ?_
      refine NextH.cons rfl (fun K hK => ?_) NextH.nil
      go_simp
      refine hK.out _ _ (fun h => absurd h (by simp)) ?_
      clear hK K
      (try simp only [Act.put, List.setIfInBounds_toArray, List.set_cons_zero, List.set_cons_succ])
      refine tillH_done (by as_aux_lemma => kernel_rfl) ?_ _
      refine HKV.out _ _ ?_
      go_wp2
      go_ret
      rw [HPA.out]
      refine ⟨rfl, LeftR.of HB7.out.1 HK8.out.1.2 HK8.out.1.1 ?_⟩
      rintro k (e | e | e)
      · exact .inl (.inl e)
      · obtain rfl : gg = k := by simpa [Value.ownBlock] using e
        exact HK8.out.2.imp (fun e => .inr (.inl e)) id
      · exact .inl (.inr (.inr e))
  ·
    rw [hy2]
    clear hy2
    go_upto_region 7 with fail
    go_wp2_with fail
    refine (HP.out w3).mono ?_
    rintro e w4 ⟨rfl, b4⟩
    have HB4 := Lib.hid (And.intro (HB3.out.1.trans (b4.mono HB3.out.1.size)) (And.intro (HB3.out.2.1.below b4 HB3.out.2.1.lt) (HB3.out.2.2.1.below b4 HB3.out.2.2.1.lt)))
    clear HB3 b4 HP p0 p1 p2 lk lo cf lf
    try clear hc2 hc3
    go_upto_region 8 with fail
    have hR := HRO.out.1.below HB4.out.1
    obtain ⟨ar, har⟩ : ∃ a, o.arr = a := ⟨_, rfl⟩
    have x0 : w4.cell? ⟨q, 0, none⟩ = some (.bool ar) := by rw [hR.ob.cell, ← har]; rfl
    have lo := hR.ob.lt
    have HR := Lib.hid hR
    have HAR := Lib.hid har
    clear hR har
    have hpl : ar = true → pl = -1 := fun e => by rw [← HPL.out]; exact (HC.out (by rw [HAR.out, e])).1
    go_cut [57] (fun s57 wx => s57 = .bool false ∧ w4 = wx)
    case first =>
      cases ar with
      | false =>
        clear hpl
        go_wp2_with fail
        go_meet
        exact ⟨rfl, rfl⟩
      | true =>
        obtain rfl := hpl rfl
        go_wp2_with fail
        go_meet
        exact ⟨rfl, rfl⟩
    case rest =>
    obtain ⟨rfl, rfl⟩ := hcut
    clear hpl
    go_upto_region 15 with fail
    go_cut [92] (fun s92 wx => s92 = .bool false ∧ Hid (Below w4.heap.size w4 wx))
    case first =>
      have X0 := fun d os => cell_regrown x0 d os
      have p0 : w4.cell? ⟨w.heap.size, 0, none⟩ = some (.int .i64 k1) := by rw [HB4.out.2.1.cell]; rfl
      have p1 : w4.cell? ⟨w.heap.size, 1, none⟩ = some (.int .i64 k2) := by rw [HB4.out.2.1.cell]; rfl
      have p2 : w4.cell? ⟨w.heap.size, 2, none⟩ = some (.string k3) := by rw [HB4.out.2.1.cell]; rfl
      have P0 := fun d os => cell_regrown p0 d os
      have P1 := fun d os => cell_regrown p1 d os
      have P2 := fun d os => cell_regrown p2 d os
      obtain ⟨⟨l1, l2, l3⟩, hl⟩ : ∃ l : K3, lenK = l := ⟨_, rfl⟩
      have D1 := fun d os => Calls.regrown_of (rstr_any [108, 101, 110, 103, 116, 104] (by decide) (by decide) (grow (redrawn w4 d) os) ((HRO.out.2.2.2.1.below HB4.out.1).below (below_regrown w4 d os)))
      rw [keyL_len, hl] at D1
      have HL := Lib.hid hl
      clear x0 p0 p1 p2 lo hl
      cases ar with
      | false =>
        refine wp_region_quiet_below (by as_aux_lemma => kernel_rfl) (by as_aux_lemma => kernel_rfl) ?_
        repeat (quiet_step (with_reducible exact D1 _ _))
        refine wpQuiet_nil ?_
        intro _ hw'
        obtain ⟨⟨dq, osq⟩, hw''⟩ := hw'
        subst hw''
        have bq := below_regrown w4 dq osq
        clear X0 P0 P1 P2 D1
        go_wp2_with fail
        go_meet
        exact ⟨rfl, Lib.hid bq⟩
      | true =>
        rcases ks_other HRO.out.2.2.1 (HC.out HAR.out).2 with h8 | ⟨h7, hz, hne⟩
        · have t0 : (k1 == l1) = false := by
            dsimp only at h8
            rw [h8, ← show lenK.1 = l1 by rw [HL.out]]; rfl
          clear h8
          refine wp_region_quiet_below (by as_aux_lemma => kernel_rfl) (by as_aux_lemma => kernel_rfl) ?_
          repeat (quiet_step (with_reducible exact D1 _ _))
          refine wpQuiet_nil ?_
          intro _ hw'
          obtain ⟨⟨dq, osq⟩, hw''⟩ := hw'
          subst hw''
          have bq := below_regrown w4 dq osq
          clear X0 P0 P1 P2 D1
          go_wp2_with fail
          go_meet
          exact ⟨rfl, Lib.hid bq⟩
        · have t0 : (k1 == l1) = true := by
            dsimp only at h7
            rw [h7, ← show lenK.1 = l1 by rw [HL.out]]; rfl
          have t1 : (k2 == l2) = true := by
            dsimp only at hz
            rw [hz, ← show lenK.2.1 = l2 by rw [HL.out]]; rfl
          have t2 : (k3.toList == l3.toList) = false := by
            dsimp only at hne
            rw [← show lenK.2.2 = l3 by rw [HL.out]]; exact beq_false_of_ne hne
          clear h7 hz hne
          refine wp_region_quiet_below (by as_aux_lemma => kernel_rfl) (by as_aux_lemma => kernel_rfl) ?_
          repeat (quiet_step (with_reducible exact D1 _ _))
          refine wpQuiet_nil ?_
          intro _ hw'
          obtain ⟨⟨dq, osq⟩, hw''⟩ := hw'
          subst hw''
          have bq := below_regrown w4 dq osq
          clear X0 P0 P1 P2 D1
          go_wp2_with fail
          go_meet
          exact ⟨rfl, Lib.hid bq⟩
    case rest =>
    obtain ⟨rfl, hb5⟩ := hcut
    have HB5 := Lib.hid (And.intro (HB4.out.1.trans (hb5.out.mono HB4.out.1.size)) (And.intro (HB4.out.2.1.below hb5.out HB4.out.2.1.lt) (HB4.out.2.2.below hb5.out HB4.out.2.2.lt)))
    have HR5 := Lib.hid (HR.out.below hb5.out)
    clear hb5 HB4 HR x0 lo
    have p0 : wc.cell? ⟨w.heap.size, 0, none⟩ = some (.int .i64 k1) := by rw [HB5.out.2.1.cell]; rfl
    have p1 : wc.cell? ⟨w.heap.size, 1, none⟩ = some (.int .i64 k2) := by rw [HB5.out.2.1.cell]; rfl
    have p2 : wc.cell? ⟨w.heap.size, 2, none⟩ = some (.string k3) := by rw [HB5.out.2.1.cell]; rfl
    have lk := HB5.out.2.1.lt
    go_wp2_with fail
    refine (rfind_any (k := (k1, k2, k3)) HR5.out HRO.out.2.2.2.2.1).mono ?_
    rintro e w6 ⟨rfl, b6⟩
    have HB6 := Lib.hid (And.intro (HB5.out.1.trans (b6.mono HB5.out.1.size)) (And.intro (HB5.out.2.1.below b6 HB5.out.2.1.lt) (HB5.out.2.2.below b6 HB5.out.2.2.lt)))
    have HR6 := Lib.hid (HR5.out.below b6)
    clear b6 HB5 HR5 p0 p1 p2 lk
    have hf := HFN.out
    · rw [hf]
      have HPA := Lib.hid (putA_none (v := (v1, v2, v3)) (f := f) HRO.out.2.1 HRO.out.2.2.1 hf)
      clear hf
      go_upto_region 29 with fail
      obtain ⟨n, hn⟩ : ∃ n, o.A.length = n := ⟨_, rfl⟩
      have hrow := HR6.out.rp
      rw [hn] at hrow
      obtain ⟨pa, pcap, hpv, -⟩ := own_shape hrow
      subst hpv
      have HN := Lib.hid hn
      have hA := HRO.out.2.2.2.2.1
      rw [hn] at hA
      have c4 : w6.cell? ⟨q, 4, none⟩ = some (.slice pa n pcap) := by rw [HR6.out.ob.cell]; rfl
      have d0 : w6.cell? ⟨w.heap.size, 0, none⟩ = some (.int .i64 k1) := by rw [HB6.out.2.1.cell]; rfl
      have d1 : w6.cell? ⟨w.heap.size, 1, none⟩ = some (.int .i64 k2) := by rw [HB6.out.2.1.cell]; rfl
      have d2 : w6.cell? ⟨w.heap.size, 2, none⟩ = some (.string k3) := by rw [HB6.out.2.1.cell]; rfl
      have f0 : w6.cell? ⟨w.heap.size + 1, 0, none⟩ = some (.int .i64 v1) := by rw [HB6.out.2.2.cell]; rfl
      have f1 : w6.cell? ⟨w.heap.size + 1, 1, none⟩ = some (.int .i64 v2) := by rw [HB6.out.2.2.cell]; rfl
      have f2 : w6.cell? ⟨w.heap.size + 1, 2, none⟩ = some (.string v3) := by rw [HB6.out.2.2.cell]; rfl
      clear hn hrow
      refine wp_var0 (fun KV HKV => ?_)
      refine wp_region_till (m := 10) (S := (fun W => W.cell? ⟨q, 4, none⟩ = some (.slice pa n pcap) ∧ (W.cell? ⟨w.heap.size, 0, none⟩ = some (.int .i64 k1) ∧ W.cell? ⟨w.heap.size, 1, none⟩ = some (.int .i64 k2) ∧ W.cell? ⟨w.heap.size, 2, none⟩ = some (.string k3)) ∧ (W.cell? ⟨w.heap.size + 1, 0, none⟩ = some (.int .i64 v1) ∧ W.cell? ⟨w.heap.size + 1, 1, none⟩ = some (.int .i64 v2) ∧ W.cell? ⟨w.heap.size + 1, 2, none⟩ = some (.string v3)))) (by as_aux_lemma => kernel_rfl) ?_
      have e4 : w6.drew = w6.drewN 1 := rfl
      rw [e4]
      have S0 : (w6.drewN 1).cell? ⟨q, 4, none⟩ = some (.slice pa n pcap) ∧ ((w6.drewN 1).cell? ⟨w.heap.size, 0, none⟩ = some (.int .i64 k1) ∧ (w6.drewN 1).cell? ⟨w.heap.size, 1, none⟩ = some (.int .i64 k2) ∧ (w6.drewN 1).cell? ⟨w.heap.size, 2, none⟩ = some (.string k3)) ∧ ((w6.drewN 1).cell? ⟨w.heap.size + 1, 0, none⟩ = some (.int .i64 v1) ∧ (w6.drewN 1).cell? ⟨w.heap.size + 1, 1, none⟩ = some (.int .i64 v2) ∧ (w6.drewN 1).cell? ⟨w.heap.size + 1, 2, none⟩ = some (.string v3)) := ⟨c4, ⟨d0, d1, d2⟩, ⟨f0, f1, f2⟩⟩
      have HBD := Lib.hid (And.intro (below_drw HB6.out.1 1) (HR6.out.below (below_drw (Below.refl _ _) 1)))
      clear c4 d0 d1 d2 f0 f1 f2 HB6 HR6 e4
      generalize w6.drewN 1 = E at *
      change tillH _ _ _ _ _ _ 14 #[false, false, false, false, false, false, false, false, false, false, false, false, false, false] _ _
      refine tillH_takeAny (i := 0) (oi := ?oo12) (v := ?vv12) ?hi12 (by as_aux_lemma => kernel_rfl) (by as_aux_lemma => kernel_rfl) (by as_aux_lemma => kernel_rfl) ?hq12 (by as_aux_lemma => kernel_rfl) ?hy12 (fun _ => S0) ?hh12
      case hi12 => (simp only [List.getElem?_toArray, List.getElem?_cons_succ, List.getElem?_cons_zero]; rfl)
      case hq12 => exact fun _ _ _ h => h
      case hy12 => exact Or.inl ⟨by rfl, by (intro W; go_simp; (try with_reducible rfl))⟩
      (try simp only [Act.put, List.setIfInBounds_toArray, List.set_cons_zero, List.set_cons_succ])
      refine tillH_takeAny (i := 1) (oi := ?oo13) (v := ?vv13) ?hi13 (by as_aux_lemma => kernel_rfl) (by as_aux_lemma => kernel_rfl) (by as_aux_lemma => kernel_rfl) ?hq13 (by as_aux_lemma => kernel_rfl) ?hy13 (fun _ => S0) ?hh13
      case hi13 => (simp only [List.getElem?_toArray, List.getElem?_cons_succ, List.getElem?_cons_zero]; rfl)
      case hq13 => exact fun _ _ _ h => h
      case hy13 => exact Or.inl ⟨by rfl, by (intro W; go_simp; (try with_reducible rfl))⟩
      (try simp only [Act.put, List.setIfInBounds_toArray, List.set_cons_zero, List.set_cons_succ])
      refine tillH_takeAny (i := 2) (oi := ?oo14) (v := ?vv14) ?hi14 (by as_aux_lemma => kernel_rfl) (by as_aux_lemma => kernel_rfl) (by as_aux_lemma => kernel_rfl) ?hq14 (by as_aux_lemma => kernel_rfl) ?hy14 (fun _ => S0) ?hh14
      case hi14 => (simp only [List.getElem?_toArray, List.getElem?_cons_succ, List.getElem?_cons_zero]; rfl)
      case hq14 => exact fun _ _ _ h => h
      case hy14 => exact Or.inl ⟨by rfl, by (intro W; go_simp; (try with_reducible rfl))⟩
      (try simp only [Act.put, List.setIfInBounds_toArray, List.set_cons_zero, List.set_cons_succ])
      refine tillH_takeAny (i := 3) (oi := ?oo15) (v := ?vv15) ?hi15 (by as_aux_lemma => kernel_rfl) (by as_aux_lemma => kernel_rfl) (by as_aux_lemma => kernel_rfl) ?hq15 (by as_aux_lemma => kernel_rfl) ?hy15 (fun _ => S0) ?hh15
      case hi15 => (simp only [List.getElem?_toArray, List.getElem?_cons_succ, List.getElem?_cons_zero]; rfl)
      case hq15 => exact fun _ _ _ h => h
      case hy15 => exact Or.inl ⟨by rfl, by (intro W; go_simp; (try with_reducible rfl))⟩
      (try simp only [Act.put, List.setIfInBounds_toArray, List.set_cons_zero, List.set_cons_succ])
      refine tillH_take (i := 4) (oi := ?oo16) (v := ?vv16) ?hi16 (by as_aux_lemma => kernel_rfl) (by as_aux_lemma => kernel_rfl) (by as_aux_lemma => kernel_rfl) ?hq16 (by as_aux_lemma => kernel_rfl) (by as_aux_lemma => kernel_rfl) (by as_aux_lemma => kernel_rfl) ?hy16 S0 ?hh16
      case hi16 => (simp only [List.getElem?_toArray, List.getElem?_cons_succ, List.getElem?_cons_zero]; rfl)
      case hq16 => exact fun _ _ _ h => h
      case hy16 => exact Or.inl ⟨by rfl, by (intro W hSw; (try obtain ⟨s0, ⟨s1, s2, s3⟩, ⟨s4, s5, s6⟩⟩ := hSw); go_simp; (try with_reducible rfl))⟩
      (try simp only [Act.put, List.setIfInBounds_toArray, List.set_cons_zero, List.set_cons_succ])
      refine tillH_takeC [9, 8] (i := 5) (oi := ?oo17) (v := ?vv17) ?hi17 (by as_aux_lemma => kernel_rfl) (by as_aux_lemma => kernel_rfl) (by as_aux_lemma => kernel_rfl) ?hq17 (by as_aux_lemma => kernel_rfl) (by as_aux_lemma => kernel_rfl) (by as_aux_lemma => kernel_rfl) ?hy17 S0 ?hh17
      case hi17 => (simp only [List.getElem?_toArray, List.getElem?_cons_succ, List.getElem?_cons_zero]; rfl)
      case hq17 => exact fun _ _ _ h => h
      case hy17 => exact Or.inl ⟨by rfl, by (intro W hSw; (try obtain ⟨s0, ⟨s1, s2, s3⟩, ⟨s4, s5, s6⟩⟩ := hSw); go_simp; (try with_reducible rfl))⟩
      (try simp only [Act.put, List.setIfInBounds_toArray, List.set_cons_zero, List.set_cons_succ])
      refine tillH_takeC [9, 8] (i := 6) (oi := ?oo18) (v := ?vv18) ?hi18 (by as_aux_lemma => kernel_rfl) (by as_aux_lemma => kernel_rfl) (by as_aux_lemma => kernel_rfl) ?hq18 (by as_aux_lemma => kernel_rfl) (by as_aux_lemma => kernel_rfl) (by as_aux_lemma => kernel_rfl) ?hy18 S0 ?hh18
      case hi18 => (simp only [List.getElem?_toArray, List.getElem?_cons_succ, List.getElem?_cons_zero]; rfl)
      case hq18 => exact fun _ _ _ h => h
      case hy18 => exact Or.inl ⟨by rfl, by (intro W hSw; (try obtain ⟨s0, ⟨s1, s2, s3⟩, ⟨s4, s5, s6⟩⟩ := hSw); go_simp; (try with_reducible rfl))⟩
      (try simp only [Act.put, List.setIfInBounds_toArray, List.set_cons_zero, List.set_cons_succ])
      refine tillH_takeAny (i := 7) (oi := ?oo19) (v := ?vv19) ?hi19 (by as_aux_lemma => kernel_rfl) (by as_aux_lemma => kernel_rfl) (by as_aux_lemma => kernel_rfl) ?hq19 (by as_aux_lemma => kernel_rfl) ?hy19 (fun _ => S0) ?hh19
      case hi19 => (simp only [List.getElem?_toArray, List.getElem?_cons_succ, List.getElem?_cons_zero]; rfl)
      case hq19 => exact fun _ _ _ h => h
      case hy19 => exact Or.inl ⟨by rfl, by (intro W; go_simp; (try with_reducible rfl))⟩
      (try simp only [Act.put, List.setIfInBounds_toArray, List.set_cons_zero, List.set_cons_succ])
      refine tillH_takeAny (i := 8) (oi := ?oo20) (v := ?vv20) ?hi20 (by as_aux_lemma => kernel_rfl) (by as_aux_lemma => kernel_rfl) (by as_aux_lemma => kernel_rfl) ?hq20 (by as_aux_lemma => kernel_rfl) ?hy20 (fun _ => S0) ?hh20
      case hi20 => (simp only [List.getElem?_toArray, List.getElem?_cons_succ, List.getElem?_cons_zero]; rfl)
      case hq20 => exact fun _ _ _ h => h
      case hy20 => exact Or.inl ⟨by rfl, by (intro W; go_simp; (try with_reducible rfl))⟩
      (try simp only [Act.put, List.setIfInBounds_toArray, List.set_cons_zero, List.set_cons_succ])
      refine tillH_next (rs := [9]) (by as_aux_lemma => kernel_rfl) (by simp) ?_
      refine NextH.cons rfl (fun K hK => ?_) NextH.nil
      go_simp
      have b7 := (Below.refl E.heap.size E).alloc (Nat.le_refl _) (.cells #[.int .i64 k1, .int .i64 k2, .string k3, .int .i64 v1, .int .i64 v2, .string v3, .int .i64 f] 127)
      have S7 : (E.alloc (.cells #[.int .i64 k1, .int .i64 k2, .string k3, .int .i64 v1, .int .i64 v2, .string v3, .int .i64 f] 127)).cell? ⟨q, 4, none⟩ = some (.slice pa n pcap) ∧ ((E.alloc (.cells #[.int .i64 k1, .int .i64 k2, .string k3, .int .i64 v1, .int .i64 v2, .string v3, .int .i64 f] 127)).cell? ⟨w.heap.size, 0, none⟩ = some (.int .i64 k1) ∧ (E.alloc (.cells #[.int .i64 k1, .int .i64 k2, .string k3, .int .i64 v1, .int .i64 v2, .string v3, .int .i64 f] 127)).cell? ⟨w.heap.size, 1, none⟩ = some (.int .i64 k2) ∧ (E.alloc (.cells #[.int .i64 k1, .int .i64 k2, .string k3, .int .i64 v1, .int .i64 v2, .string v3, .int .i64 f] 127)).cell? ⟨w.heap.size, 2, none⟩ = some (.string k3)) ∧ ((E.alloc (.cells #[.int .i64 k1, .int .i64 k2, .string k3, .int .i64 v1, .int .i64 v2, .string v3, .int .i64 f] 127)).cell? ⟨w.heap.size + 1, 0, none⟩ = some (.int .i64 v1) ∧ (E.alloc (.cells #[.int .i64 k1, .int .i64 k2, .string k3, .int .i64 v1, .int .i64 v2, .string v3, .int .i64 f] 127)).cell? ⟨w.heap.size + 1, 1, none⟩ = some (.int .i64 v2) ∧ (E.alloc (.cells #[.int .i64 k1, .int .i64 k2, .string k3, .int .i64 v1, .int .i64 v2, .string v3, .int .i64 f] 127)).cell? ⟨w.heap.size + 1, 2, none⟩ = some (.string v3)) := by
        obtain ⟨a0, ⟨a1, a2, a3⟩, ⟨a4, a5, a6⟩⟩ := S0
        exact ⟨(b7.cell (World.block_lt_of_cell? E _ a0)).trans a0, ⟨(b7.cell (World.block_lt_of_cell? E _ a1)).trans a1, (b7.cell (World.block_lt_of_cell? E _ a2)).trans a2, (b7.cell (World.block_lt_of_cell? E _ a3)).trans a3⟩, ⟨(b7.cell (World.block_lt_of_cell? E _ a4)).trans a4, (b7.cell (World.block_lt_of_cell? E _ a5)).trans a5, (b7.cell (World.block_lt_of_cell? E _ a6)).trans a6⟩⟩
      have HB7 := Lib.hid (And.intro (HBD.out.1.trans (b7.mono HBD.out.1.size)) (HBD.out.2.below b7))
      have HNW := Lib.hid (World.news_of_block (cs := #[.int .i64 k1, .int .i64 k2, .string k3, .int .i64 v1, .int .i64 v2, .string v3, .int .i64 f]) (t := 127) (fr := (0, 0)) (heap_alloc_new E _))
      refine hK.out _ _ (fun _ => S7) ?_
      clear hK K S0 b7
      (try simp only [Act.put, List.setIfInBounds_toArray, List.set_cons_zero, List.set_cons_succ])
      obtain ⟨eb, heb⟩ : ∃ x, E.heap.size = x := ⟨_, rfl⟩
      have HEB := Lib.hid heb
      generalize hE7 : E.alloc (.cells #[.int .i64 k1, .int .i64 k2, .string k3, .int .i64 v1, .int .i64 v2, .string v3, .int .i64 f] 127) = E7 at *
      have hsz7 : E.heap.size < E7.heap.size := by rw [← hE7, World.size_alloc]; omega
      rw [heb] at HNW hsz7 ⊢
      clear heb hE7
      refine tillH_next (rs := [10]) (by as_aux_lemma => kernel_rfl) (by simp) ?_
      refine NextH.cons rfl (fun K hK => ?_) NextH.nil
      have hrow7 := HB7.out.2.rp
      rw [HN.out] at hrow7
      obtain ⟨hi, hz0, hz1, hz2⟩ := HZ.out
      refine step_append_lies _ (by rfl) _ _ _ (by rfl) 1 127 i0 _ 7 72 Tryd.underlying131 hi hz0 hz1 hz2 rfl (by decide) _ _ _ (by rfl) hrow7 ⟨eb, 0, none⟩ 1 1 [.int .i64 k1, .int .i64 k2, .string k3, .int .i64 v1, .int .i64 v2, .string v3, .int .i64 f] (by rfl) (by rfl) HNW.out (by simp [Value.oneCell']) (by decide) (by unfold maxLen; omega) (by omega) (by omega) _ rfl ?_
      intro gg capg w8 hown8 hgrow8 hat8 hlt8
      refine hK.out _ _ (fun h => absurd h (by simp)) ?_
      clear hK K
      (try simp only [Act.put, List.setIfInBounds_toArray, List.set_cons_zero, List.set_cons_succ])
      have hk8 := HB7.out.2.more ⟨(k1, k2, k3), (v1, v2, v3), f, false⟩ HN.out hown8 hgrow8 (hat8.imp id (fun e => by omega))
      have lb8 := HB7.out.2.ob.grown hgrow8 (fun e => HB7.out.2.np e.symm)
      have x8 : w8.cell? ⟨q, 4, none⟩ = some (.slice pa n pcap) := by rw [lb8.cell]; rfl
      have f8 := lb8.frozen 4
      have l8 := lb8.lt
      have HK8 := Lib.hid (And.intro hk8 (hat8.imp id (fun e => (show E7.heap.size ≤ gg by omega))))
      clear hown8 hgrow8 hat8 hlt8 hk8 lb8 hrow7 S7 hi hz0 hz1 hz2
      refine tillH_takeAny (i := 11) (oi := ?oo21) (v := ?vv21) ?hi21 (by as_aux_lemma => kernel_rfl) (by as_aux_lemma => kernel_rfl) (by as_aux_lemma => kernel_rfl) ?hq21 (by as_aux_lemma => kernel_rfl) ?hy21 (fun h => absurd h (by simp)) ?hh21
      case hi21 => (simp only [List.getElem?_toArray, List.getElem?_cons_succ, List.getElem?_cons_zero]; rfl)
      case hq21 => exact fun _ _ _ h => h
      case hy21 => exact Or.inl ⟨by rfl, by (intro W; go_simp; (try with_reducible rfl))⟩
      (try simp only [Act.put, List.setIfInBounds_toArray, List.set_cons_zero, List.set_cons_succ])
      refine tillH_takeAny (i := 12) (oi := ?oo22) (v := ?vv22) ?hi22 (by as_aux_lemma => kernel_rfl) (by as_aux_lemma => kernel_rfl) (by as_aux_lemma => kernel_rfl) ?hq22 (by as_aux_lemma => kernel_rfl) ?hy22 (fun h => absurd h (by simp)) ?hh22
      case hi22 => (simp only [List.getElem?_toArray, List.getElem?_cons_succ, List.getElem?_cons_zero]; rfl)
      case hq22 => exact fun _ _ _ h => h
      case hy22 => exact Or.inl ⟨by rfl, by (intro W; go_simp; (try with_reducible rfl))⟩
      (try simp only [Act.put, List.setIfInBounds_toArray, List.set_cons_zero, List.set_cons_succ])
      refine tillH_next (rs := [13]) (by as_aux_lemma => kernel_rfl) (by simp) ?_
      refine NextH.cons rfl (fun K hK => ?_) NextH.nil
      go_simp
      refine hK.out _ _ (fun h => absurd h (by simp)) ?_
      clear hK K
      (try simp only [Act.put, List.setIfInBounds_toArray, List.set_cons_zero, List.set_cons_succ])
      refine tillH_done (by as_aux_lemma => kernel_rfl) ?_ _
      refine HKV.out _ _ ?_
      go_wp2
      go_ret
      rw [HPA.out]
      refine ⟨rfl, LeftR.of HB7.out.1 HK8.out.1.2 HK8.out.1.1 ?_⟩
      rintro k (e | e | e)
      · exact .inl (.inl e)
      · obtain rfl : gg = k := by simpa [Value.ownBlock] using e
        exact HK8.out.2.imp (fun e => .inr (.inl e)) id
      · exact .inl (.inr (.inr e))
end Go.Proofs.YtmimnaaofpkndaaDoor.Hp
