/- HsO: several texts in one. -/
import Derived.Test.YtmimnaaofpkndaaDoorHsM
import Derived.Test.YtmimnaaofpkndaaDoorHsJ
import Derived.Test.YtmimnaaofpkndaaDoorOrdC
/- HeapRuns: the document's Define. -/
set_option linter.unusedVariables false
set_option linter.unusedSimpArgs false
namespace Go.Proofs.YtmimnaaofpkndaaDoor.Hp
open Go.RowKit Go.Proofs.YtmimnaaofpkndaaDoor Go.Shelf Go.Sort
attribute [local go_sem] Oper.semAt_some
theorem rdefine_any {o : PO} {q : Nat} {pv ev : Value} {w : World} {k v : K3} {f : Int} (h : RO o q pv ev w) (hO : o.Ok) (hk : KS k) (hG : LG w) (hA : o.A.length ≤ 4000) (hf0 : 0 ≤ f) (hf1 : f < 16) :
    Calls Tryd.prog 60 #[.pointer (some ⟨q, 0, none⟩), VK k, VK v, .int .i64 f] w fun e w' => e = .returned (.bool (o.def1 k v f).1) ∧ LeftR o q pv ev w (o.def1 k v f).2 w' := by
  have hsame : ∀ w', Below w.heap.size w w' → LeftR o q pv ev w o w' := fun w' bw => LeftR.same h bw
  cases hno : (((!(o.own k).2.2) && o.clo) || ((o.own k).2.2 && refuse (o.own k).2.1 f)) with
  | true =>
    have e1 : o.def1 k v f = (false, o) := by unfold PO.def1; rw [if_pos hno]
    rw [e1]
    exact (rdefine_no h hO hk hG hA hf0 hf1 hno).mono fun e w' hh => ⟨hh.1, hsame _ hh.2⟩
  | false =>
    have hno' : ¬ ((((!(o.own k).2.2) && o.clo) || ((o.own k).2.2 && refuse (o.own k).2.1 f)) = true) := by rw [hno]; decide
    have htab : (o.arr = true → plcV k = -1 ∧ k ≠ lenK) → Calls Tryd.prog 60 #[.pointer (some ⟨q, 0, none⟩), VK k, VK v, .int .i64 f] w fun e w' => e = .returned (.bool true) ∧ LeftR o q pv ev w { o with A := putA k v f o.A } w' := fun hc => by
      rcases getA_fnd hO hk with ⟨hf, -⟩ | ⟨i, x, hxi, hxk, hf, -⟩
      · exact rdefine_new h hO hk hG hA hf0 hf1 hf hno hc
      · exact rdefine_old h hO hk hG hA hf0 hf1 i x hxi hxk hf hno hc
    cases ha : o.arr with
    | false =>
      have e1 : o.def1 k v f = (true, { o with A := putA k v f o.A }) := by unfold PO.def1; rw [if_neg hno', if_neg (by rw [ha]; decide)]
      rw [e1]
      exact htab (fun e => by rw [ha] at e; cases e)
    | true =>
      rcases ks_plc hk with hv | ⟨i, hi, hki, hv⟩
      · by_cases hl : k = lenK
        · refine (rdefine_len h hO hk hG hA hf0 hf1 hno ha hl).mono ?_
          rintro e w' (⟨hy, rfl, hs⟩ | ⟨hy, rfl, bw⟩)
          · have e1 : o.def1 k v f = (true, { o with L := (o.L ++ List.replicate (v.2.1.toNat - o.L.length) E0).take v.2.1.toNat }) := by unfold PO.def1; rw [if_neg hno', if_pos ha, if_neg (by omega), if_pos hl, if_pos hy]
            rw [e1]
            exact ⟨rfl, hs⟩
          · have e1 : o.def1 k v f = (false, o) := by unfold PO.def1; rw [if_neg hno', if_pos ha, if_neg (by omega), if_pos hl, if_neg hy]
            rw [e1]
            exact ⟨rfl, hsame _ bw⟩
        · have e1 : o.def1 k v f = (true, { o with A := putA k v f o.A }) := by unfold PO.def1; rw [if_neg hno', if_pos ha, if_neg (by omega), if_neg hl]
          rw [e1]
          exact htab (fun _ => ⟨hv, hl⟩)
      · have ht : (plcV k).toNat = i := by omega
        refine (rdefine_plc h hO hk hG hA hf0 hf1 i hno ha hv hi).mono ?_
        rintro e w' (⟨rfl, rfl, hs⟩ | ⟨hf, rfl, bw⟩)
        · have e1 : o.def1 k v 7 = (true, { o with L := (o.L ++ List.replicate (i + 1 - o.L.length) E0).set i v }) := by unfold PO.def1; rw [if_neg hno', if_pos ha, if_pos (by omega), if_pos rfl, ht]
          rw [e1]
          exact ⟨rfl, hs⟩
        · have e1 : o.def1 k v f = (false, o) := by unfold PO.def1; rw [if_neg hno', if_pos ha, if_pos (by omega), if_neg hf]
          rw [e1]
          exact ⟨rfl, hsame _ bw⟩
end Go.Proofs.YtmimnaaofpkndaaDoor.Hp

/- HeapRuns: the document's Delete. -/
set_option linter.unusedVariables false
set_option linter.unusedSimpArgs false
namespace Go.Proofs.YtmimnaaofpkndaaDoor.Hp
open Go.RowKit Go.Proofs.YtmimnaaofpkndaaDoor Go.Shelf Go.Sort
attribute [local go_sem] Oper.semAt_some
theorem add_at (g x j : Nat) : (⟨g, x, none⟩ : Addr).add j = ⟨g, x + j, none⟩ := by
  unfold Addr.add
  split
  · rename_i h; subst h; rfl
  · rfl
theorem propsC_take (A : List Ent) (i : Nat) : propsC (A.take i) = (propsC A).take (i * 7) := by
  induction A generalizing i with
  | nil => simp [propsC]
  | cons a A ih =>
    have e : ∀ a A, propsC (a :: A) = propC a ++ propsC A := fun _ _ => rfl
    cases i with
    | zero => simp [propsC]
    | succ i =>
      have hl : (propC a).length = 7 := rfl
      rw [List.take_succ_cons, e, e, ih i, List.take_append, hl, show (i + 1) * 7 - 7 = i * 7 by omega, List.take_of_length_le (l := propC a) (by rw [hl]; omega)]
theorem propsC_drop (A : List Ent) (i : Nat) : propsC (A.drop i) = (propsC A).drop (i * 7) := by
  have h := congrArg propsC (List.take_append_drop i A)
  rw [propsC_append, propsC_take] at h
  have h2 := (List.take_append_drop (i * 7) (propsC A)).trans h.symm
  exact (List.append_cancel_left h2).symm
theorem propC_one (A : List Ent) : ∀ u ∈ propsC A, u.oneCell' = true := by
  intro u hu
  obtain ⟨x, _, hx⟩ := List.mem_flatMap.1 hu
  simp only [propC, List.mem_cons, List.not_mem_nil, or_false] at hx
  rcases hx with rfl | rfl | rfl | rfl | rfl | rfl | rfl <;> rfl
theorem delA_at {o : PO} (hO : o.Ok) {k : K3} {i : Nat} {x : Ent} (hk : KS k) (hx : o.A[i]? = some x) (hxk : x.key = k) : delA k o.A = o.A.take i ++ o.A.drop (i + 1) := by
  have hil := (List.getElem?_eq_some_iff.1 hx).1
  have hxe := (List.getElem?_eq_some_iff.1 hx).2
  have hs : o.A = o.A.take i ++ x :: o.A.drop (i + 1) := by
    conv => lhs; rw [← List.take_append_drop i o.A]
    rw [List.drop_eq_getElem_cons hil, hxe]
  have hall : ∀ j (hj : j < o.A.length), j ≠ i → isKey k o.A[j] = false := by
    intro j hj hne
    have hm := List.getElem_mem hj
    rw [ks_isKey hk (hO.ks _ hm).1 (hO.ks _ hm).2.1, decide_eq_false_iff_not]
    intro e2
    have hn := hO.nd
    rw [List.pairwise_iff_getElem] at hn
    rcases Nat.lt_or_gt_of_ne hne with e3 | e3
    · exact hn j i hj hil e3 (by rw [hxe, hxk, e2])
    · exact hn i j hil hj e3 (by rw [hxe, hxk, e2])
  have hm : x ∈ o.A := hxe ▸ List.getElem_mem hil
  have hkx : isKey k x = true := by rw [ks_isKey hk (hO.ks x hm).1 (hO.ks x hm).2.1, hxk]; simp
  unfold delA
  conv => lhs; rw [hs]
  rw [List.filter_append, List.filter_cons, if_neg (by rw [hkx]; decide)]
  congr 1
  · refine List.filter_eq_self.2 (fun y hy => ?_)
    obtain ⟨j, hj, rfl⟩ := List.mem_iff_getElem.1 hy
    rw [List.length_take] at hj
    rw [List.getElem_take, hall j (by omega) (by omega)]
    rfl
  · refine List.filter_eq_self.2 (fun y hy => ?_)
    obtain ⟨j, hj, rfl⟩ := List.mem_iff_getElem.1 hy
    rw [List.length_drop] at hj
    rw [List.getElem_drop, hall (i + 1 + j) (by omega) (by omega)]
    rfl
set_option maxRecDepth 100000 in
set_option maxHeartbeats 16000000 in
theorem rdelete_any {o : PO} {q : Nat} {pv ev : Value} {w : World} {k : K3} (h : RO o q pv ev w) (hO : o.Ok) (hk : KS k) (hG : LG w) (hA : o.A.length ≤ 4000) :
    Calls Tryd.prog 61 #[.pointer (some ⟨q, 0, none⟩), VK k] w fun e w' => e = .returned (.bool (o.del1 k).1) ∧ LeftR o q pv ev w (o.del1 k).2 w' := by
  have HRO := Lib.hid (And.intro h (And.intro hO (And.intro hk (And.intro hG hA))))
  obtain ⟨i0, hi, hz0, hz1, hz2⟩ := info_parts infoProp
  have HZ := Lib.hid (And.intro hi (And.intro hz0 (And.intro hz1 hz2)))
  obtain ⟨gv, gf, gb, hg⟩ : ∃ (gv : K3) (gf : Int) (gb : Bool), o.own k = (gv, gf, gb) := ⟨_, _, _, rfl⟩
  obtain ⟨⟨r1, r2, r3⟩, hrk⟩ : ∃ x, rkey o k = x := ⟨_, rfl⟩
  obtain ⟨g1, g2, g3⟩ := gv
  have hown : ∀ W, Below w.heap.size w W → Calls Tryd.prog 62 #[.pointer (some ⟨q, 0, none⟩), VK k] W fun e w' => e = .returned (.tuple #[PV (r1, r2, r3) (g1, g2, g3) gf, .bool gb]) ∧ Below W.heap.size W w' := fun W bW => by
    have := rown_any (HRO.out.1.below bW) HRO.out.2.1 HRO.out.2.2.1 (HRO.out.2.2.2.1.below bW) HRO.out.2.2.2.2
    rw [hg, hrk] at this
    exact this
  have hP : ∀ W, Calls Tryd.prog 72 #[VK k] W fun e w' => e = .returned (.int .i64 (plcV k)) ∧ Below W.heap.size W w' := fun W => place_any hk W
  obtain ⟨pl, hpl⟩ : ∃ x, plcV k = x := ⟨_, rfl⟩
  rw [hpl] at hP
  have HP := Lib.hid hP
  have HPL := Lib.hid hpl
  have HOW := Lib.hid hown
  have HG := Lib.hid hg
  obtain ⟨k1, k2, k3⟩ := k
  have b1 : Below w.heap.size w (w.alloc (.cells #[.int .i64 k1, .int .i64 k2, .string k3] 34)) := (Below.refl _ _).alloc (Nat.le_refl _) _
  have HB := Lib.hid (And.intro b1 (Blk.new w 34 #[.int .i64 k1, .int .i64 k2, .string k3]))
  clear h hO hk hG hown hg hA hrk hP hpl b1 hi hz0 hz1 hz2
  go_enter Tryd.func61, Tryd.ntmps61
  go_wp2_with (fail)
  refine (HOW.out _ HB.out.1).mono ?_
  rintro e w2 ⟨rfl, b2⟩
  obtain ⟨b1, kb⟩ := HB.out
  have b23 : Below w2.heap.size w2 (w2.alloc (.cells #[.int .i64 r1, .int .i64 r2, .string r3, .int .i64 g1, .int .i64 g2, .string g3, .int .i64 gf] 127)) := (Below.refl _ _).alloc (Nat.le_refl _) _
  have HB3 := Lib.hid (And.intro ((b1.trans (b2.mono b1.size)).trans (b23.mono (Nat.le_trans b1.size b2.size))) (And.intro ((kb.below b2 kb.lt).below b23 (Nat.lt_of_lt_of_le kb.lt b2.size)) (Blk.new w2 127 #[.int .i64 r1, .int .i64 r2, .string r3, .int .i64 g1, .int .i64 g2, .string g3, .int .i64 gf])))
  clear b1 kb b2 b23 HB HOW
  go_upto_region 2 with fail
  generalize (w2.alloc (.cells #[.int .i64 r1, .int .i64 r2, .string r3, .int .i64 g1, .int .i64 g2, .string g3, .int .i64 gf] 127)) = w3 at *
  generalize w2.heap.size = q2 at *
  have cf : w3.cell? ⟨q2, 6, none⟩ = some (.int .i64 gf) := by rw [HB3.out.2.2.cell]; rfl
  have lf := HB3.out.2.2.lt
  cases gb with
  | false =>
    go_wp2
    go_ret
    have e1 : o.del1 (k1, k2, k3) = (true, o) := by unfold PO.del1; rw [HG.out, if_pos rfl]
    rw [e1]
    exact ⟨rfl, LeftR.same HRO.out.1 HB3.out.1⟩
  | true =>
  obtain ⟨c1, hc1⟩ : ∃ c, (bits .and .i64 gf 4 == 0) = c := ⟨_, rfl⟩
  cases c1 with
  | true =>
    have HC := Lib.hid hc1
    go_wp2
    go_ret
    have e1 : o.del1 (k1, k2, k3) = (false, o) := by unfold PO.del1; rw [HG.out, if_neg (by simp), if_pos HC.out]
    rw [e1]
    exact ⟨rfl, LeftR.same HRO.out.1 HB3.out.1⟩
  | false =>
  have HC := Lib.hid hc1
  go_upto_region 6 with fail
  have hR := HRO.out.1.below HB3.out.1
  obtain ⟨ar, har⟩ : ∃ a, o.arr = a := ⟨_, rfl⟩
  have x0 : w3.cell? ⟨q, 0, none⟩ = some (.bool ar) := by rw [hR.ob.cell, ← har]; rfl
  have p0 : w3.cell? ⟨w.heap.size, 0, none⟩ = some (.int .i64 k1) := by rw [HB3.out.2.1.cell]; rfl
  have p1 : w3.cell? ⟨w.heap.size, 1, none⟩ = some (.int .i64 k2) := by rw [HB3.out.2.1.cell]; rfl
  have p2 : w3.cell? ⟨w.heap.size, 2, none⟩ = some (.string k3) := by rw [HB3.out.2.1.cell]; rfl
  have lk := HB3.out.2.1.lt
  have lo := hR.ob.lt
  have HR := Lib.hid hR
  have HAR := Lib.hid har
  obtain ⟨B, hB⟩ : ∃ B, (ar && decide (0 ≤ pl)) = B := ⟨_, rfl⟩
  have HBB := Lib.hid hB
  clear hR har hc1 cf lf
  go_cut [29] (fun s29 wx => s29 = .bool B ∧ Hid (Below w3.heap.size w3 wx))
  case first =>
    cases ar with
    | false =>
      obtain rfl : false = B := hB
      go_wp2_with fail
      go_meet
      exact ⟨rfl, Lib.hid (Below.refl _ _)⟩
    | true =>
      go_wp2_with fail
      refine (HP.out w3).mono ?_
      rintro e w4 ⟨rfl, b4⟩
      obtain rfl : decide (0 ≤ pl) = B := by rw [← hB]; rfl
      clear hB HBB
      go_wp2_with fail
      go_meet
      exact ⟨rfl, Lib.hid b4⟩
  case rest =>
  obtain ⟨rfl, hb4⟩ := hcut
  have HB4 := Lib.hid (And.intro (HB3.out.1.trans (hb4.out.mono HB3.out.1.size)) (HB3.out.2.1.below hb4.out HB3.out.2.1.lt))
  have HR4 := Lib.hid (HR.out.below hb4.out)
  clear hb4 HB3 HR x0 p0 p1 p2 lk lo hB
  have hT : (o.own (k1, k2, k3)).2.2 = true := by rw [HG.out]
  have hF : (bits .and .i64 (o.own (k1, k2, k3)).2.1 4 == 0) = false := by rw [HG.out]; exact HC.out
  cases B with
  | true =>
    obtain ⟨ha, hp0⟩ : o.arr = true ∧ 0 ≤ pl := by have := HBB.out; rw [HAR.out]; simpa using this
    obtain ⟨i, hi⟩ : ∃ i : Nat, pl = (i : Int) := ⟨pl.toNat, by omega⟩
    subst hi
    have hlt := own_plc_lt ha HPL.out hT
    have ed : o.del1 (k1, k2, k3) = (true, { o with L := o.L.set i E0 }) := by unfold PO.del1; rw [HG.out, if_neg (by simp), if_neg (by rw [HC.out]; decide), if_pos ⟨ha, by rw [HPL.out]; exact hp0⟩, show (plcV (k1, k2, k3)).toNat = i by rw [HPL.out]; omega]
    have HE := Lib.hid ed
    clear ed ha hp0 hT hF
    go_upto_region 7 with fail
    obtain ⟨n, hn⟩ : ∃ n, o.L.length = n := ⟨_, rfl⟩
    have hrow := HR4.out.re
    rw [hn] at hrow hlt
    obtain ⟨ea, ecap, hev, hea⟩ := own_shape hrow
    subst hev
    obtain ⟨g, rfl⟩ := hea (by omega)
    have HN := Lib.hid hn
    have z0 : (0 : Int) ≤ (i : Int) := by omega
    have z1 : (i : Int) < (n : Int) := by omega
    have c5 : wc.cell? ⟨q, 5, none⟩ = some (.slice (some ⟨g, 0, none⟩) n ecap) := by rw [HR4.out.ob.cell]; rfl
    have p0 : wc.cell? ⟨w.heap.size, 0, none⟩ = some (.int .i64 k1) := by rw [HB4.out.2.cell]; rfl
    have p1 : wc.cell? ⟨w.heap.size, 1, none⟩ = some (.int .i64 k2) := by rw [HB4.out.2.cell]; rfl
    have p2 : wc.cell? ⟨w.heap.size, 2, none⟩ = some (.string k3) := by rw [HB4.out.2.cell]; rfl
    clear hrow hea hn
    refine wp_var0 (fun KV HKV => ?_)
    refine wp_region_till (m := 8) (S := (fun W => W.cell? ⟨q, 5, none⟩ = some (.slice (some ⟨g, 0, none⟩) n ecap) ∧ W.cell? ⟨w.heap.size, 0, none⟩ = some (.int .i64 k1) ∧ W.cell? ⟨w.heap.size, 1, none⟩ = some (.int .i64 k2) ∧ W.cell? ⟨w.heap.size, 2, none⟩ = some (.string k3))) (by kernel_rfl) ?_
    have e4 : wc.drew = wc.drewN 1 := rfl
    rw [e4]
    have S0 : (wc.drewN 1).cell? ⟨q, 5, none⟩ = some (.slice (some ⟨g, 0, none⟩) n ecap) ∧ (wc.drewN 1).cell? ⟨w.heap.size, 0, none⟩ = some (.int .i64 k1) ∧ (wc.drewN 1).cell? ⟨w.heap.size, 1, none⟩ = some (.int .i64 k2) ∧ (wc.drewN 1).cell? ⟨w.heap.size, 2, none⟩ = some (.string k3) := ⟨c5, p0, p1, p2⟩
    have HBD := Lib.hid (And.intro (below_drw HB4.out.1 1) (HR4.out.below (below_drw (Below.refl _ _) 1)))
    clear c5 p0 p1 p2 HB4 HR4 e4
    generalize wc.drewN 1 = E at *
    change tillH _ _ _ _ _ _ 9 #[false, false, false, false, false, false, false, false, false] _ _
    refine tillH_takeAny (i := 0) (oi := ?oo1) (v := ?vv1) ?hi1 (by kernel_rfl) (by kernel_rfl) (by kernel_rfl) ?hq1 (by kernel_rfl) ?hy1 (fun _ => S0) ?hh1
    case hi1 => (simp only [List.getElem?_toArray, List.getElem?_cons_succ, List.getElem?_cons_zero]; rfl)
    case hq1 => exact fun _ _ _ h => h
    case hy1 => exact Or.inl ⟨by rfl, by (intro W; go_simp; (try with_reducible rfl))⟩
    (try simp only [Act.put, List.setIfInBounds_toArray, List.set_cons_zero, List.set_cons_succ])
    refine tillH_takeAny (i := 1) (oi := ?oo2) (v := ?vv2) ?hi2 (by kernel_rfl) (by kernel_rfl) (by kernel_rfl) ?hq2 (by kernel_rfl) ?hy2 (fun _ => S0) ?hh2
    case hi2 => (simp only [List.getElem?_toArray, List.getElem?_cons_succ, List.getElem?_cons_zero]; rfl)
    case hq2 => exact fun _ _ _ h => h
    case hy2 => exact Or.inl ⟨by rfl, by (intro W; go_simp; (try with_reducible rfl))⟩
    (try simp only [Act.put, List.setIfInBounds_toArray, List.set_cons_zero, List.set_cons_succ])
    refine tillH_takeAny (i := 2) (oi := ?oo3) (v := ?vv3) ?hi3 (by kernel_rfl) (by kernel_rfl) (by kernel_rfl) ?hq3 (by kernel_rfl) ?hy3 (fun _ => S0) ?hh3
    case hi3 => (simp only [List.getElem?_toArray, List.getElem?_cons_succ, List.getElem?_cons_zero]; rfl)
    case hq3 => exact fun _ _ _ h => h
    case hy3 => exact Or.inl ⟨by rfl, by (intro W; go_simp; (try with_reducible rfl))⟩
    (try simp only [Act.put, List.setIfInBounds_toArray, List.set_cons_zero, List.set_cons_succ])
    refine tillH_take (i := 3) (oi := ?oo4) (v := ?vv4) ?hi4 (by kernel_rfl) (by kernel_rfl) (by kernel_rfl) ?hq4 (by kernel_rfl) (by kernel_rfl) (by kernel_rfl) ?hy4 S0 ?hh4
    case hi4 => (simp only [List.getElem?_toArray, List.getElem?_cons_succ, List.getElem?_cons_zero]; rfl)
    case hq4 => exact fun _ _ _ h => h
    case hy4 => exact Or.inl ⟨by rfl, by (intro W hSw; (try obtain ⟨s0, s1, s2, s3⟩ := hSw); go_simp; (try with_reducible rfl))⟩
    (try simp only [Act.put, List.setIfInBounds_toArray, List.set_cons_zero, List.set_cons_succ])
    refine tillH_take (i := 4) (oi := ?oo5) (v := ?vv5) ?hi5 (by kernel_rfl) (by kernel_rfl) (by kernel_rfl) ?hq5 (by kernel_rfl) (by kernel_rfl) (by kernel_rfl) ?hy5 S0 ?hh5
    case hi5 => (simp only [List.getElem?_toArray, List.getElem?_cons_succ, List.getElem?_cons_zero]; rfl)
    case hq5 => exact fun _ _ _ h => h
    case hy5 => exact Or.inl ⟨by rfl, by (intro W hSw; (try obtain ⟨s0, s1, s2, s3⟩ := hSw); go_simp; (try with_reducible rfl))⟩
    (try simp only [Act.put, List.setIfInBounds_toArray, List.set_cons_zero, List.set_cons_succ])
    refine tillH_takeAny (i := 6) (oi := ?oo6) (v := ?vv6) ?hi6 (by kernel_rfl) (by kernel_rfl) (by kernel_rfl) ?hq6 (by kernel_rfl) ?hy6 (fun _ => S0) ?hh6
    case hi6 => (simp only [List.getElem?_toArray, List.getElem?_cons_succ, List.getElem?_cons_zero]; rfl)
    case hq6 => exact fun _ _ _ h => h
    case hy6 => exact Or.inl ⟨by rfl, by (intro W; go_simp; (try with_reducible rfl))⟩
    (try simp only [Act.put, List.setIfInBounds_toArray, List.set_cons_zero, List.set_cons_succ])
    refine tillH_next (rs := [5]) (by kernel_rfl) (by simp) ?_
    refine NextH.cons rfl (fun K hK => ?_) NextH.nil
    go_simp
    refine (HP.out E).mono ?_
    rintro e E5 ⟨rfl, b5⟩
    have S5 : E5.cell? ⟨q, 5, none⟩ = some (.slice (some ⟨g, 0, none⟩) n ecap) ∧ E5.cell? ⟨w.heap.size, 0, none⟩ = some (.int .i64 k1) ∧ E5.cell? ⟨w.heap.size, 1, none⟩ = some (.int .i64 k2) ∧ E5.cell? ⟨w.heap.size, 2, none⟩ = some (.string k3) := by
      obtain ⟨a0, a1, a2, a3⟩ := S0
      exact ⟨(b5.cell (World.block_lt_of_cell? E _ a0)).trans a0, (b5.cell (World.block_lt_of_cell? E _ a1)).trans a1, (b5.cell (World.block_lt_of_cell? E _ a2)).trans a2, (b5.cell (World.block_lt_of_cell? E _ a3)).trans a3⟩
    have HB5 := Lib.hid (And.intro (HBD.out.1.trans (b5.mono HBD.out.1.size)) (HBD.out.2.below b5))
    clear S0 b5 HBD
    refine hK.out _ _ (fun _ => S5) ?_
    clear hK K
    (try simp only [Act.put, List.setIfInBounds_toArray, List.set_cons_zero, List.set_cons_succ])
    refine tillH_takeAny (i := 7) (oi := ?oo7) (v := ?vv7) ?hi7 (by kernel_rfl) (by kernel_rfl) (by kernel_rfl) ?hq7 (by kernel_rfl) ?hy7 (fun _ => S5) ?hh7
    case hi7 => (simp only [List.getElem?_toArray, List.getElem?_cons_succ, List.getElem?_cons_zero]; rfl)
    case hq7 => exact fun _ _ _ h => h
    case hy7 => exact Or.inl ⟨by rfl, by (intro W; go_simp; (try with_reducible rfl))⟩
    (try simp only [Act.put, List.setIfInBounds_toArray, List.set_cons_zero, List.set_cons_succ])
    have hS := ROS.refl HB5.out.2
    have hrow := HB5.out.2.re
    rw [HN.out] at hrow
    have hlv : (valsC o.L).length = n * 3 := by rw [valsC_length, HN.out]
    obtain ⟨u0, e0⟩ : ∃ u, E5.cell? ⟨g, i * 3, none⟩ = some u := ⟨_, (hrow.cellAt (i * 3) (by omega)).trans (List.getElem?_eq_getElem (by rw [hlv]; omega))⟩
    obtain ⟨u1, e1⟩ : ∃ u, E5.cell? ⟨g, i * 3 + 1, none⟩ = some u := ⟨_, (hrow.cellAt (i * 3 + 1) (by omega)).trans (List.getElem?_eq_getElem (by rw [hlv]; omega))⟩
    obtain ⟨u2, e2⟩ : ∃ u, E5.cell? ⟨g, i * 3 + 2, none⟩ = some u := ⟨_, (hrow.cellAt (i * 3 + 2) (by omega)).trans (List.getElem?_eq_getElem (by rw [hlv]; omega))⟩
    have f0 := hrow.frozenAt (i * 3)
    have f1 := hrow.frozenAt (i * 3 + 1)
    have f2 := hrow.frozenAt (i * 3 + 2)
    have lg := World.block_lt_of_cell? E5 _ e0
    have hfin := (hS.setE E0 HN.out (show i < n by omega)).left HB5.out.1
    have HF := Lib.hid hfin
    clear hS hrow hlv hfin S5 HB5
    refine tillH_next (rs := [8]) (by kernel_rfl) (by simp) ?_
    refine NextH.cons rfl (fun K hK => ?_) NextH.nil
    go_simp
    refine hK.out _ _ (fun h => absurd h (by simp)) ?_
    clear hK K
    (try simp only [Act.put, List.setIfInBounds_toArray, List.set_cons_zero, List.set_cons_succ])
    refine tillH_done (by kernel_rfl) ?_ _
    refine HKV.out _ _ ?_
    go_wp2
    go_ret
    rw [HE.out]
    exact ⟨rfl, HF.out⟩
  | false =>
    have hix : o.ix (k1, k2, k3) = -1 := by
      unfold PO.ix
      by_cases ha : o.arr = true
      · rw [if_pos ha]
        rcases ks_plc HRO.out.2.2.1 with e | ⟨i, _, _, e⟩
        · exact e
        · have := HBB.out
          rw [← HAR.out, ha, ← HPL.out, e] at this
          simp at this
      · rw [if_neg ha]
    have hnp : ¬ (o.arr = true ∧ 0 ≤ plcV (k1, k2, k3)) := by
      rintro ⟨ha, hp⟩
      unfold PO.ix at hix
      rw [if_pos ha] at hix
      omega
    have ed : o.del1 (k1, k2, k3) = (true, { o with A := delA (k1, k2, k3) o.A }) := by unfold PO.del1; rw [HG.out, if_neg (by simp), if_neg (by rw [HC.out]; decide), if_neg hnp]
    have hnn := own_tab HRO.out.2.2.1 hix hT hF
    obtain ⟨i, x, hxi, hxk, hf⟩ : ∃ (i : Nat) (x : Ent), o.A[i]? = some x ∧ x.key = (k1, k2, k3) ∧ fnd o.A (k1, k2, k3) = (i : Int) := by
      rcases getA_fnd HRO.out.2.1 HRO.out.2.2.1 with ⟨hf, _⟩ | ⟨i, x, h1, h2, h3, _⟩
      · refine absurd (fun x hx => ?_) hnn
        rw [ks_isKey HRO.out.2.2.1 (HRO.out.2.1.ks x hx).1 (HRO.out.2.1.ks x hx).2.1, decide_eq_false_iff_not]
        intro e
        unfold fnd fndI at hf
        cases hx2 : o.A.findIdx? (fun x => decide (x.key = (k1, k2, k3))) with
        | none =>
          rw [List.findIdx?_eq_none_iff] at hx2
          have := hx2 x hx
          rw [e] at this
          simp at this
        | some i => rw [hx2] at hf; dsimp only at hf; omega
      · exact ⟨i, x, h1, h2, h3⟩
    have HE := Lib.hid (And.intro ed (delA_at HRO.out.2.1 HRO.out.2.2.1 hxi hxk))
    clear ed hix hnp hnn hT hF
    have p0 : wc.cell? ⟨w.heap.size, 0, none⟩ = some (.int .i64 k1) := by rw [HB4.out.2.cell]; rfl
    have p1 : wc.cell? ⟨w.heap.size, 1, none⟩ = some (.int .i64 k2) := by rw [HB4.out.2.cell]; rfl
    have p2 : wc.cell? ⟨w.heap.size, 2, none⟩ = some (.string k3) := by rw [HB4.out.2.cell]; rfl
    have lk := HB4.out.2.lt
    go_wp2_with fail
    refine (rfind_any (k := (k1, k2, k3)) HR4.out HRO.out.2.2.2.2).mono ?_
    rintro e w6 ⟨rfl, b6⟩
    have HB6 := Lib.hid (And.intro (HB4.out.1.trans (b6.mono HB4.out.1.size)) (HR4.out.below b6))
    rw [hf]
    clear b6 HB4 HR4 p0 p1 p2 lk hf
    obtain ⟨n, hn⟩ : ∃ n, o.A.length = n := ⟨_, rfl⟩
    have hil := (List.getElem?_eq_some_iff.1 hxi).1
    rw [hn] at hil
    have hrow := HB6.out.2.rp
    rw [hn] at hrow
    obtain ⟨pa, pcap, hpv, hpa⟩ := own_shape hrow
    subst hpv
    obtain ⟨g, rfl⟩ := hpa (by omega)
    have hcp := own_cap hrow
    have hA := HRO.out.2.2.2.2
    rw [hn] at hA
    have x4 : w6.cell? ⟨q, 4, none⟩ = some (.slice (some ⟨g, 0, none⟩) n pcap) := by rw [HB6.out.2.ob.cell]; rfl
    have lq := HB6.out.2.ob.lt
    have zz0 : (0 : Int) ≤ (i : Int) := by omega
    have zz1 : (i : Int) ≤ (pcap : Int) := by omega
    have zz2 : IntKind.i64.wrap ((i : Int) + 1) = ((i + 1 : Nat) : Int) := by rw [IntWalk.i64_in _ (by omega)]; rfl
    have zz3 : (0 : Int) ≤ ((i + 1 : Nat) : Int) := by omega
    have zz4 : ((i + 1 : Nat) : Int) ≤ (n : Int) := by omega
    have hcell : ∀ (W : World), Below w6.heap.size w6 W → ∀ j, W.cell? ⟨g, j, none⟩ = w6.cell? ⟨g, j, none⟩ := fun W bW j => bW.cell (p := ⟨g, j, none⟩) (hrow.lt g rfl).2
    have hc0 : ∀ j u, (propsC (o.A.take i))[j]? = some u → w6.cell? ((⟨g, 0, none⟩ : Addr).add j) = some u := fun j u hu => by
      rw [propsC_take, List.getElem?_take] at hu
      split at hu
      · have := hrow.cellAt j (by omega)
        rw [add_at, Nat.zero_add, this, hu]
      · cases hu
    have hl0 : (propsC (o.A.take i)).length = i * 7 := by rw [propsC_length, List.length_take, hn]; congr 1; omega
    have HX := Lib.hid (And.intro hn (And.intro hrow hcell))
    have HC0 := Lib.hid (And.intro hc0 hl0)
    obtain ⟨hi, hz0, hz1, hz2⟩ := HZ.out
    clear hxi hxk hn hrow hpa hcell hc0 hl0
    go_wp2_with (at_builtin; refine wpList_onto rfl _ _ 131 rfl w6.heap.size 127 i0 _ 7 72 Tryd.underlying131 hi hz0 hz1 hz2 rfl (by decide) _ 0 [] rfl (World.ownsRow_nil _ _ _ _) _ i pcap (propsC (o.A.take i)) rfl HC0.out.2 (fun _ => ⟨_, rfl, HC0.out.1⟩) (propC_one _) (by unfold maxLen; omega) (by omega) (Nat.le_refl _) ?_)
    intro v7 w7 hown7 hgr7 hat7
    have b7 : Below w6.heap.size w6 w7 := (Below.refl _ _).grown hgr7 (Nat.le_refl _) (fun k hk => by cases hk)
    obtain ⟨la, lcap, rfl, -⟩ := own_shape hown7
    have hR7 := HB6.out.2.below b7
    have x4' : w7.cell? ⟨q, 4, none⟩ = some (.slice (some ⟨g, 0, none⟩) n pcap) := by rw [hR7.ob.cell]; rfl
    have lq' := hR7.ob.lt
    have hc1 : ∀ j u, (propsC (o.A.drop (i + 1)))[j]? = some u → w7.cell? ((⟨g, (i + 1) * 7, none⟩ : Addr).add j) = some u := fun j u hu => by
      rw [propsC_drop, List.getElem?_drop] at hu
      have hjl := (List.getElem?_eq_some_iff.1 hu).1
      rw [propsC_length, HX.out.1] at hjl
      rw [add_at, HX.out.2.2 w7 b7, HX.out.2.1.cellAt _ hjl, hu]
    have hl1 : (propsC (o.A.drop (i + 1))).length = (n - (i + 1)) * 7 := by rw [propsC_length, List.length_drop, HX.out.1]
    have HC1 := Lib.hid (And.intro hc1 (And.intro hl1 (And.intro hown7 (And.intro hat7 (And.intro b7 hR7)))))
    have hsz7 := b7.size
    clear hown7 hat7 hgr7 b7 hR7 hc1 hl1 x4 lq
    have hcut : ∀ (v8 : Value) (w8 : World), w8.ownsRow w6.heap.size 127 7 v8 (i + (n - (i + 1))) (propsC (o.A.take i) ++ propsC (o.A.drop (i + 1))) → w7.grownBy w8 (Value.slice la i lcap).ownBlock → (∀ g', v8.ownBlock = some g' → (Value.slice la i lcap).ownBlock = some g' ∨ g' = w7.heap.size) → w8.cell? ⟨q, 4, none⟩ = some (.slice (some ⟨g, 0, none⟩) n pcap) ∧ w8.frozen? ⟨q, 4, none⟩ = false ∧ q < w8.heap.size ∧ LeftR o q (.slice (some ⟨g, 0, none⟩) n pcap) ev w { o with A := o.A.take i ++ o.A.drop (i + 1) } (w8.setCell ⟨q, 4, none⟩ v8) := fun v8 w8 hown8 hgr8 hat8 => by
      obtain ⟨-, -, hown7, hat7, b7, hR7⟩ := HC1.out
      have hlo : ∀ k, roB q (.slice (some ⟨g, 0, none⟩) n pcap) ev k → k < w6.heap.size := HB6.out.2.all_lt
      have hla : ∀ k, (Value.slice la i lcap).ownBlock = some k → w6.heap.size ≤ k := fun k hk => (hown7.lt k hk).1
      have hq := hlo q (.inl rfl)
      have hq8 := hR7.ob.grown hgr8 (fun e => by have := hla q e.symm; omega)
      have u : Upd w6 (w8.setCell ⟨q, 4, none⟩ v8) (fun k => k = q ∨ w6.heap.size ≤ k) := ((Upd.of_below b7 (fun k hk => .inr hk)).grown hgr8 (fun k e => .inr (hla k e))).set q 4 _ (.inl rfl)
      have hv8 : ∀ k, v8.ownBlock = some k → w6.heap.size ≤ k := fun k hk => (hown8.lt k hk).1
      refine ⟨by rw [hq8.cell]; rfl, hq8.frozen 4, hq8.lt, ?_⟩
      have hro : RO { o with A := o.A.take i ++ o.A.drop (i + 1) } q v8 ev (w8.setCell ⟨q, 4, none⟩ v8) := by
        refine ⟨hq8.set_ 4 _, ?_, u.own HB6.out.2.re (fun k hk e => ?_), fun g' hg' e => ?_⟩
        · show World.ownsRow _ 1 _ 7 _ (o.A.take i ++ o.A.drop (i + 1)).length (propsC (o.A.take i ++ o.A.drop (i + 1)))
          rw [propsC_append, List.length_append, List.length_take, List.length_drop, HX.out.1, Nat.min_eq_left (by omega)]
          exact World.ownsRow.mono (own_set hown8 hq8 (by decide) 4 _) (by omega)
        · rcases e with e | e
          · subst e; exact HB6.out.2.ne hk
          · have := hlo k (.inr (.inr hk)); omega
        · have h1 := hv8 g' hg'
          have h2 := hlo g' (.inr (.inr e))
          omega
      refine ⟨(Upd.of_below_all (M := roB q (.slice (some ⟨g, 0, none⟩) n pcap) ev) HB6.out.1).trans (Upd.join (Upd.refl w6 _) (u.mono (fun k _ e => e.imp .inl id))), v8, ev, hro, fun k hk => ?_⟩
      rcases hk with e | e | e
      · exact .inl (.inl e)
      · exact .inr (Nat.le_trans HB6.out.1.size (hv8 k e))
      · exact .inl (.inr (.inr e))
    have HCUT := Lib.hid hcut
    clear hcut
    by_cases hcap : i + 1 = pcap
    · have hni : n = i + 1 := by omega
      obtain ⟨d, hd⟩ : ∃ d, n - (i + 1) = d := ⟨_, rfl⟩
      have hd0 : d = 0 := by omega
      have hdr : propsC (o.A.drop (i + 1)) = [] := by rw [List.drop_of_length_le (by rw [HX.out.1]; omega)]; rfl
      go_wp2_with (at_builtin; refine wpList_onto rfl _ _ 131 rfl w6.heap.size 127 i0 _ 7 72 Tryd.underlying131 hi hz0 hz1 hz2 rfl (by decide) _ i (propsC (o.A.take i)) rfl HC1.out.2.2.1 _ 0 _ [] rfl rfl (fun hm => absurd hm (Nat.lt_irrefl 0)) (fun u hu => absurd hu (List.not_mem_nil)) (by unfold maxLen; omega) (by omega) hsz7 ?_)
      intro v8 w8 hown8 hgr8 hat8
      obtain ⟨x8, f8, l8, hleft⟩ := HCUT.out v8 w8 (by rw [hdr, show n - (i + 1) = 0 by omega, Nat.add_zero, List.append_nil]; exact hown8) hgr8 hat8
      obtain ⟨va, vcap, rfl, -⟩ := own_shape hown8
      have HLF := Lib.hid hleft
      clear hleft hown8 hgr8 hat8
      go_wp2
      go_ret
      rw [HE.out.1, HE.out.2]
      exact ⟨rfl, HLF.out⟩
    · go_wp2_with (at_builtin; refine wpList_onto rfl _ _ 131 rfl w6.heap.size 127 i0 _ 7 72 Tryd.underlying131 hi hz0 hz1 hz2 rfl (by decide) _ i (propsC (o.A.take i)) rfl HC1.out.2.2.1 _ (n - (i + 1)) _ (propsC (o.A.drop (i + 1))) rfl HC1.out.2.1 (fun _ => ⟨_, rfl, HC1.out.1⟩) (propC_one _) (by unfold maxLen; omega) (by omega) hsz7 ?_)
      intro v8 w8 hown8 hgr8 hat8
      obtain ⟨x8, f8, l8, hleft⟩ := HCUT.out v8 w8 hown8 hgr8 hat8
      obtain ⟨va, vcap, rfl, -⟩ := own_shape hown8
      have HLF := Lib.hid hleft
      clear hleft hown8 hgr8 hat8
      go_wp2
      go_ret
      rw [HE.out.1, HE.out.2]
      exact ⟨rfl, HLF.out⟩
end Go.Proofs.YtmimnaaofpkndaaDoor.Hp
