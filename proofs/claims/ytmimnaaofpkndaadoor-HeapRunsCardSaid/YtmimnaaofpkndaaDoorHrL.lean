/- HrL: several texts in one. -/
import Derived.Test.YtmimnaaofpkndaaDoorHrI
/- HeapRuns: Define, of the length of an array. -/
set_option linter.unusedVariables false
set_option linter.unusedSimpArgs false
namespace Go.Proofs.YtmimnaaofpkndaaDoor.Hp
open Go.RowKit Go.Proofs.YtmimnaaofpkndaaDoor Go.Shelf
attribute [local go_sem] Oper.semAt_some
set_option maxRecDepth 100000 in
set_option maxHeartbeats 8000000 in
/-- Define, of the length of an array. -/
theorem define_lenG {o : PO} {b T : Nat} {lv : Value} {Ot : Nat → Prop} {w : World} {k v : K3} {f : Int} (h : LieO o b T lv Ot w) (hO : o.Ok) (hk : KS k) (hLg : Lg w) (hno : (((!(o.own k).2.2) && o.clo) || ((o.own k).2.2 && refuse (o.own k).2.1 f)) = false) (ha : o.arr = true) (hl : k = lenK) (R : Bool) (Post : World → Prop)
    (hres : ∀ W, Below w.heap.size w W → Calls Tryd.prog 43 #[.pointer (some ⟨b, 0, none⟩), VK v] W fun e w' => e = .returned (.bool R) ∧ Post w') :
    Calls Tryd.prog 12 #[.pointer (some ⟨b, 0, none⟩), VK k, VK v, .int .i64 f] w fun e w' => (f = 1 ∧ e = .returned (.bool R) ∧ Post w') ∨ (f ≠ 1 ∧ e = .returned (.bool false) ∧ Below w.heap.size w w') := by
  have hidx : ∀ W, Below w.heap.size w W → Calls Tryd.prog 42 #[.pointer (some ⟨b, 0, none⟩), VK k] W fun e w' => e = .returned (.int .i64 (-1)) ∧ Below W.heap.size W w' := fun W bW => by
    have := ix_io (h.below bW) hk
    rw [show o.ix k = -1 by unfold PO.ix; rw [if_pos ha, hl, lenK_plc]] at this
    exact this
  have HNO := Lib.hid hno
  have HRS := Lib.hid hres
  have HC := Lib.hid (And.intro ha hl)
  clear hno ha hl hres
  have HIO := Lib.hid (And.intro h (And.intro hO (And.intro hk hLg)))
  have HI := Lib.hid hidx
  obtain ⟨⟨g1, g2, g3⟩, gf, gb, hg⟩ : ∃ (gv : K3) (gf : Int) (gb : Bool), o.own k = (gv, gf, gb) := ⟨_, _, _, rfl⟩
  have hown : ∀ W, Below w.heap.size w W → Calls Tryd.prog 18 #[.pointer (some ⟨b, 0, none⟩), VK k] W fun e w' => e = .returned (.tuple #[VS g1 g2 g3, .int .i64 gf, .bool gb]) ∧ Below W.heap.size W w' := fun W bW => by
    have := own_io (HIO.out.1.below bW) HIO.out.2.1 HIO.out.2.2.1 (HIO.out.2.2.2.below bW)
    rw [hg] at this
    exact this
  have HOW := Lib.hid hown
  have HG := Lib.hid hg
  obtain ⟨k1, k2, k3⟩ := k
  obtain ⟨v1, v2, v3⟩ := v
  have HB := Lib.hid (two_boxes w k1 k2 k3 v1 v2 v3)
  clear h hO hk hLg hidx hown hg
  go_enter Tryd.func12, Tryd.ntmps12
  go_wp2_with (fail)
  refine (HOW.out _ HB.out.1).mono ?_
  rintro e w2 ⟨rfl, b2⟩
  obtain ⟨b1, kb, vb⟩ := HB.out
  have b23 : Below w2.heap.size w2 (w2.alloc (.cells #[.int .i64 g1, .int .i64 g2, .string g3] 34)) := (Below.refl _ _).alloc (Nat.le_refl _) _
  have HB3 := Lib.hid (And.intro ((b1.trans (b2.mono b1.size)).trans (b23.mono (Nat.le_trans b1.size b2.size))) (And.intro ((kb.below b2 kb.lt).below b23 (Nat.lt_of_lt_of_le kb.lt b2.size)) ((vb.below b2 vb.lt).below b23 (Nat.lt_of_lt_of_le vb.lt b2.size))))
  clear b1 kb vb b2 b23 HB HOW
  go_upto_region 2 with fail
  generalize (w2.alloc (.cells #[.int .i64 g1, .int .i64 g2, .string g3] 34)) = w3 at *
  generalize w2.heap.size = q2 at *
  have c2 : w3.cell? ⟨b, 2, none⟩ = some (.bool o.clo) := by rw [(HIO.out.1.below HB3.out.1).ob.cell]; rfl
  have lo := (HIO.out.1.below HB3.out.1).ob.lt
  obtain ⟨cl, hcl⟩ : ∃ c, o.clo = c := ⟨_, rfl⟩
  rw [hcl] at c2
  have HCL := Lib.hid hcl
  clear hcl
  go_cut [27] (fun s27 wx => s27 = .bool (!gb && cl) ∧ w3 = wx)
  case first =>
    cases gb with
    | true =>
      go_wp2_with fail
      go_meet
      exact ⟨rfl, rfl⟩
    | false =>
      go_wp2_with fail
      go_meet
      exact ⟨rfl, rfl⟩
  case rest =>
  obtain ⟨rfl, rfl⟩ := hcut
  have hno := HNO.out
  rw [HG.out, HCL.out] at hno
  dsimp only at hno
  have hx : (!gb && cl) = false := by cases gb <;> cases cl <;> simp at hno ⊢
  have HNN := Lib.hid hno
  clear hno HNO c2
  rw [hx]
  clear hx
  go_upto_region 4 with fail
  obtain ⟨c1, hc1⟩ : ∃ c, (bits .and .i64 gf 4 == 0) = c := ⟨_, rfl⟩
  obtain ⟨c2', hc2⟩ : ∃ c, (bits .and .i64 gf 1 == 0) = c := ⟨_, rfl⟩
  obtain ⟨c3, hc3⟩ : ∃ c, (bits .andNot .i64 f 1 != bits .andNot .i64 gf 1) = c := ⟨_, rfl⟩
  have hrf : refuse gf f = (c1 && (c2' || c3)) := by rw [refuse_eq, hc1, hc2, hc3]
  have HRF := Lib.hid hrf
  clear hrf
  go_cut [45] (fun s45 wx => s45 = .bool (gb && (c1 && (c2' || c3))) ∧ w3 = wx)
  case first =>
    cases gb with
    | false =>
      clear hc1 hc2 hc3
      go_wp2_with fail
      go_meet
      exact ⟨rfl, rfl⟩
    | true =>
      cases c1 with
      | false =>
        clear hc2 hc3
        go_wp2_with fail
        go_meet
        exact ⟨rfl, rfl⟩
      | true =>
        cases c2' with
        | true =>
          clear hc3
          go_wp2_with fail
          go_meet
          exact ⟨rfl, rfl⟩
        | false =>
          go_wp2_with fail
          go_meet
          exact ⟨rfl, rfl⟩
  case rest =>
  obtain ⟨rfl, rfl⟩ := hcut
  clear hc1 hc2 hc3
  have hy : (gb && (c1 && (c2' || c3))) = false := by
    have := HNN.out
    rw [HRF.out] at this
    cases gb <;> simp at this ⊢
    exact this
  clear HNN HRF
  rw [hy]
  clear hy lo
  have p0 : w3.cell? ⟨w.heap.size, 0, none⟩ = some (.int .i64 k1) := by rw [HB3.out.2.1.cell]; rfl
  have p1 : w3.cell? ⟨w.heap.size, 1, none⟩ = some (.int .i64 k2) := by rw [HB3.out.2.1.cell]; rfl
  have p2 : w3.cell? ⟨w.heap.size, 2, none⟩ = some (.string k3) := by rw [HB3.out.2.1.cell]; rfl
  have pl := HB3.out.2.1.lt
  go_wp2_with fail
  refine (HI.out w3 HB3.out.1).mono ?_
  rintro e w4 ⟨rfl, b4⟩
  have HB4 := Lib.hid (And.intro (HB3.out.1.trans (b4.mono HB3.out.1.size)) (And.intro (HB3.out.2.1.below b4 HB3.out.2.1.lt) (HB3.out.2.2.below b4 HB3.out.2.2.lt)))
  clear HB3 b4 HI p0 p1 p2 pl
  have x0 : w4.cell? ⟨b, 0, none⟩ = some (.int .i64 1) := by
    have := (HIO.out.1.below HB4.out.1).ob
    rw [show clV o = 1 from if_pos HC.out.1] at this
    rw [this.cell]; rfl
  have lo := (HIO.out.1.below HB4.out.1).ob.lt
  have hlg := HIO.out.2.2.2.below HB4.out.1
  have g0 : w4.cell? ⟨0, 0, none⟩ = some (.int .i64 k1) := by rw [show k1 = lenK.1 from congrArg (·.1) HC.out.2]; exact hlg.1
  have g1 : w4.cell? ⟨0, 1, none⟩ = some (.int .i64 k2) := by rw [show k2 = lenK.2.1 from congrArg (·.2.1) HC.out.2]; exact hlg.2.1
  have g2 : w4.cell? ⟨0, 2, none⟩ = some (.string k3) := by rw [show k3 = lenK.2.2 from congrArg (·.2.2) HC.out.2]; exact hlg.2.2
  have p0 : w4.cell? ⟨w.heap.size, 0, none⟩ = some (.int .i64 k1) := by rw [HB4.out.2.1.cell]; rfl
  have p1 : w4.cell? ⟨w.heap.size, 1, none⟩ = some (.int .i64 k2) := by rw [HB4.out.2.1.cell]; rfl
  have p2 : w4.cell? ⟨w.heap.size, 2, none⟩ = some (.string k3) := by rw [HB4.out.2.1.cell]; rfl
  have q0 : w4.cell? ⟨w.heap.size + 1, 0, none⟩ = some (.int .i64 v1) := by rw [HB4.out.2.2.cell]; rfl
  have q1 : w4.cell? ⟨w.heap.size + 1, 1, none⟩ = some (.int .i64 v2) := by rw [HB4.out.2.2.cell]; rfl
  have q2 : w4.cell? ⟨w.heap.size + 1, 2, none⟩ = some (.string v3) := by rw [HB4.out.2.2.cell]; rfl
  have pl := HB4.out.2.1.lt
  have ql := HB4.out.2.2.lt
  have s0 : (k1 == k1) = true := by simp
  have s1 : (k2 == k2) = true := by simp
  have s2 : (k3.toList == k3.toList) = true := by simp
  clear hlg
  by_cases h1 : f = 1
  · obtain rfl := h1
    go_wp2_with (fail)
    refine (HRS.out _ HB4.out.1).mono ?_
    rintro e w5 ⟨rfl, hp⟩
    have HP := Lib.hid hp
    clear hp HRS
    cases R
    · go_wp2
      go_ret
      exact ⟨rfl, HP.out⟩
    · go_wp2
      go_ret
      exact ⟨rfl, HP.out⟩
  · have t7 : (f == 1) = false := by simpa using h1
    have HF := Lib.hid h1
    clear h1
    go_wp2
    go_ret
    exact .inr ⟨HF.out, rfl, HB4.out.1⟩
end Go.Proofs.YtmimnaaofpkndaaDoor.Hp

/- HeapRuns: Define of any object of the law. -/
set_option linter.unusedVariables false
set_option linter.unusedSimpArgs false
namespace Go.Proofs.YtmimnaaofpkndaaDoor.Hp
open Go.RowKit Go.Proofs.YtmimnaaofpkndaaDoor Go.Shelf
attribute [local go_sem] Oper.semAt_some
/-- Define. -/
theorem define_io {o : PO} {b T : Nat} {lv : Value} {Ot : Nat → Prop} {w : World} {k v : K3} {f : Int} (h : LieO o b T lv Ot w) (hO : o.Ok) (hk : KS k) (hLg : Lg w) (hA : o.A.length ≤ 4000) :
    Calls Tryd.prog 12 #[.pointer (some ⟨b, 0, none⟩), VK k, VK v, .int .i64 f] w fun e w' => e = .returned (.bool (o.def1 k v f).1) ∧ Left o b T lv Ot w (o.def1 k v f).2 w' := by
  have hsame : ∀ w', Below w.heap.size w w' → Left o b T lv Ot w o w' := fun w' bw => Left.same h bw
  cases hno : (((!(o.own k).2.2) && o.clo) || ((o.own k).2.2 && refuse (o.own k).2.1 f)) with
  | true =>
    have e1 : o.def1 k v f = (false, o) := by unfold PO.def1; rw [if_pos hno]
    rw [e1]
    exact (define_no h hO hk hLg hno).mono fun e w' hh => ⟨hh.1, hsame _ hh.2⟩
  | false =>
    have hno' : ¬ ((((!(o.own k).2.2) && o.clo) || ((o.own k).2.2 && refuse (o.own k).2.1 f)) = true) := by rw [hno]; decide
    cases ha : o.arr with
    | false =>
      have e1 : o.def1 k v f = (true, { o with A := putA k v f o.A }) := by unfold PO.def1; rw [if_neg hno', if_neg (by rw [ha]; decide)]
      rw [e1]
      exact define_tab h hO hk hLg hno hA (.inl ha)
    | true =>
      rcases ks_plc hk with hv | ⟨i, hi, hki, hv⟩
      · by_cases hl : k = lenK
        · obtain ⟨v1, v2, v3⟩ := v
          by_cases hy : v1 = 3 ∧ 0 ≤ v2 ∧ v2 ≤ 1000
          · obtain ⟨rfl, h0, h1⟩ := hy
            have hN : ((v2.toNat : Nat) : Int) = v2 := by omega
            refine (define_lenG h hO hk hLg hno ha hl true (fun w' => ∃ lv', G.ArrS (o.pr : Int) o.clo w w' b T 1 lv lv' ((o.L ++ List.replicate (v2.toNat - o.L.length) E0).take v2.toNat)) (fun W bW => ?_)).mono ?_
            · have hr := G.resize_any b T 1 v2.toNat lv o.L v3 W ((h.below bW).arrE ha) (by have := hO.le; omega) (by omega) (by have := h.ob.lt; have := bW.size; omega)
              rw [hN] at hr
              exact hr.mono fun e w' hh => ⟨hh.1, hh.2.elim fun lv' hs => ⟨lv', hs.from bW⟩⟩
            · rintro e w' (⟨rfl, rfl, lv', hs⟩ | ⟨hf, rfl, bw⟩)
              · have e1 : o.def1 k (3, v2, v3) 1 = (true, { o with L := (o.L ++ List.replicate (v2.toNat - o.L.length) E0).take v2.toNat }) := by unfold PO.def1; rw [if_neg hno', if_pos ha, if_neg (by omega), if_pos hl, if_pos ⟨rfl, rfl, h0, h1⟩]
                rw [e1]
                exact ⟨rfl, h.arrS ha hs⟩
              · have e1 : o.def1 k (3, v2, v3) f = (false, o) := by unfold PO.def1; rw [if_neg hno', if_pos ha, if_neg (by omega), if_pos hl, if_neg (fun e => hf e.1)]
                rw [e1]
                exact ⟨rfl, hsame _ bw⟩
          · have e1 : o.def1 k (v1, v2, v3) f = (false, o) := by unfold PO.def1; rw [if_neg hno', if_pos ha, if_neg (by omega), if_pos hl, if_neg (fun e => hy e.2)]
            rw [e1]
            refine (define_lenG h hO hk hLg hno ha hl false (fun w' => Below w.heap.size w w') (fun W bW => ?_)).mono ?_
            · exact (G.resize_no b T 1 v1 v2 lv o.L v3 W ((h.below bW).arrE ha) (by omega)).mono fun e w' hh => ⟨hh.1, bW.trans (hh.2.mono bW.size)⟩
            · rintro e w' (⟨rfl, rfl, bw⟩ | ⟨hf, rfl, bw⟩)
              · exact ⟨rfl, hsame _ bw⟩
              · exact ⟨rfl, hsame _ bw⟩
        · have e1 : o.def1 k v f = (true, { o with A := putA k v f o.A }) := by unfold PO.def1; rw [if_neg hno', if_pos ha, if_neg (by omega), if_neg hl]
          rw [e1]
          exact define_tab h hO hk hLg hno hA (.inr ⟨ha, hv, ks_other hk hl⟩)
      · have ht : (plcV k).toNat = i := by omega
        refine (define_plc h hO hk hLg i hno ha hv hi).mono ?_
        rintro e w' (⟨rfl, rfl, lv', hs⟩ | ⟨hf, rfl, bw⟩)
        · have e1 : o.def1 k v 7 = (true, { o with L := (o.L ++ List.replicate (i + 1 - o.L.length) E0).set i v }) := by unfold PO.def1; rw [if_neg hno', if_pos ha, if_pos (by omega), if_pos rfl, ht]
          rw [e1]
          exact ⟨rfl, h.arrS ha hs⟩
        · have e1 : o.def1 k v f = (false, o) := by unfold PO.def1; rw [if_neg hno', if_pos ha, if_pos (by omega), if_neg hf]
          rw [e1]
          exact ⟨rfl, hsame _ bw⟩
end Go.Proofs.YtmimnaaofpkndaaDoor.Hp

/- HeapRuns: Delete. -/
set_option linter.unusedVariables false
set_option linter.unusedSimpArgs false
namespace Go.Proofs.YtmimnaaofpkndaaDoor.Hp
open Go.RowKit Go.Proofs.YtmimnaaofpkndaaDoor Go.Shelf
attribute [local go_sem] Oper.semAt_some
theorem own_plc_lt {o : PO} {k : K3} {i : Nat} (ha : o.arr = true) (hp : plcV k = (i : Int)) (h : (o.own k).2.2 = true) : i < o.L.length := by
  unfold PO.own at h
  rw [if_pos ha, if_pos (by omega), show (plcV k).toNat = i by omega] at h
  cases hx : o.L[i]? with
  | none => rw [hx] at h; cases h
  | some x => exact (List.getElem?_eq_some_iff.1 hx).1
theorem own_tab {o : PO} {k : K3} (hk : KS k) (hix : o.ix k = -1) (h : (o.own k).2.2 = true) (hf : (bits .and .i64 (o.own k).2.1 4 == 0) = false) : ¬ ∀ x ∈ o.A, isKey k x = false := by
  intro hn
  have hg := getA_none hn
  unfold PO.own at h hf
  unfold PO.ix at hix
  by_cases ha : o.arr = true
  · rw [if_pos ha] at hix
    rw [if_pos ha, if_neg (by omega)] at h hf
    by_cases hl : k = lenK
    · rw [if_pos hl] at hf
      dsimp only at hf
      cases hc : o.clo <;> rw [hc] at hf <;> revert hf <;> decide
    · rw [if_neg hl, hg] at h
      cases h
  · rw [if_neg ha, hg] at h
    cases h
set_option maxRecDepth 100000 in
set_option maxHeartbeats 8000000 in
theorem delete_io {o : PO} {b T : Nat} {lv : Value} {Ot : Nat → Prop} {w : World} {k : K3} (h : LieO o b T lv Ot w) (hO : o.Ok) (hk : KS k) (hLg : Lg w) (hA : o.A.length ≤ 4000) :
    Calls Tryd.prog 19 #[.pointer (some ⟨b, 0, none⟩), VK k] w fun e w' => e = .returned (.bool (o.del1 k).1) ∧ Left o b T lv Ot w (o.del1 k).2 w' := by
  have hidx : ∀ W, Below w.heap.size w W → Calls Tryd.prog 42 #[.pointer (some ⟨b, 0, none⟩), VK k] W fun e w' => e = .returned (.int .i64 (o.ix k)) ∧ Below W.heap.size W w' := fun W bW => ix_io (h.below bW) hk
  have HIO := Lib.hid (And.intro h (And.intro hO (And.intro hk (And.intro hLg hA))))
  obtain ⟨⟨g1, g2, g3⟩, gf, gb, hg⟩ : ∃ (gv : K3) (gf : Int) (gb : Bool), o.own k = (gv, gf, gb) := ⟨_, _, _, rfl⟩
  have hown : ∀ W, Below w.heap.size w W → Calls Tryd.prog 18 #[.pointer (some ⟨b, 0, none⟩), VK k] W fun e w' => e = .returned (.tuple #[VS g1 g2 g3, .int .i64 gf, .bool gb]) ∧ Below W.heap.size W w' := fun W bW => by
    have := own_io (HIO.out.1.below bW) HIO.out.2.1 HIO.out.2.2.1 (HIO.out.2.2.2.1.below bW)
    rw [hg] at this
    exact this
  obtain ⟨ix, hix⟩ : ∃ x, o.ix k = x := ⟨_, rfl⟩
  rw [hix] at hidx
  have HOW := Lib.hid (And.intro hown hidx)
  have HG := Lib.hid (And.intro hg hix)
  obtain ⟨k1, k2, k3⟩ := k
  have b1 : Below w.heap.size w (w.alloc (.cells #[.int .i64 k1, .int .i64 k2, .string k3] 34)) := (Below.refl _ _).alloc (Nat.le_refl _) _
  have HB := Lib.hid (And.intro b1 (Blk.new w 34 #[.int .i64 k1, .int .i64 k2, .string k3]))
  clear h hO hk hLg hidx hown hg b1 hA hix
  go_enter Tryd.func19, Tryd.ntmps19
  go_wp2_with (fail)
  refine (HOW.out.1 _ HB.out.1).mono ?_
  rintro e w2 ⟨rfl, b2⟩
  obtain ⟨b1, kb⟩ := HB.out
  have b23 : Below w2.heap.size w2 (w2.alloc (.cells #[.int .i64 g1, .int .i64 g2, .string g3] 34)) := (Below.refl _ _).alloc (Nat.le_refl _) _
  have HB3 := Lib.hid (And.intro ((b1.trans (b2.mono b1.size)).trans (b23.mono (Nat.le_trans b1.size b2.size))) ((kb.below b2 kb.lt).below b23 (Nat.lt_of_lt_of_le kb.lt b2.size)))
  clear b1 kb b2 b23 HB
  go_upto_region 2 with fail
  generalize (w2.alloc (.cells #[.int .i64 g1, .int .i64 g2, .string g3] 34)) = w3 at *
  generalize w2.heap.size = q2 at *
  cases gb with
  | false =>
    clear HOW
    go_wp2
    go_ret
    have e1 : o.del1 (k1, k2, k3) = (true, o) := by unfold PO.del1; rw [HG.out.1, if_pos rfl]
    rw [e1]
    exact ⟨rfl, Left.same HIO.out.1 HB3.out.1⟩
  | true =>
  obtain ⟨c1, hc1⟩ : ∃ c, (bits .and .i64 gf 4 == 0) = c := ⟨_, rfl⟩
  cases c1 with
  | true =>
    clear HOW
    have HC := Lib.hid hc1
    go_wp2
    go_ret
    have e1 : o.del1 (k1, k2, k3) = (false, o) := by unfold PO.del1; rw [HG.out.1, if_neg (by simp), if_pos HC.out]
    rw [e1]
    exact ⟨rfl, Left.same HIO.out.1 HB3.out.1⟩
  | false =>
  have HC := Lib.hid hc1
  have p0 : w3.cell? ⟨w.heap.size, 0, none⟩ = some (.int .i64 k1) := by rw [HB3.out.2.cell]; rfl
  have p1 : w3.cell? ⟨w.heap.size, 1, none⟩ = some (.int .i64 k2) := by rw [HB3.out.2.cell]; rfl
  have p2 : w3.cell? ⟨w.heap.size, 2, none⟩ = some (.string k3) := by rw [HB3.out.2.cell]; rfl
  have pl := HB3.out.2.lt
  go_wp2_with fail
  refine (HOW.out.2 w3 HB3.out.1).mono ?_
  rintro e w4 ⟨rfl, b4⟩
  have HB4 := Lib.hid (And.intro (HB3.out.1.trans (b4.mono HB3.out.1.size)) (HB3.out.2.below b4 HB3.out.2.lt))
  clear HB3 b4 HOW p0 p1 p2 pl hc1
  have hT : (o.own (k1, k2, k3)).2.2 = true := by rw [HG.out.1]
  have hF : (bits .and .i64 (o.own (k1, k2, k3)).2.1 4 == 0) = false := by rw [HG.out.1]; exact HC.out
  by_cases hpl : o.arr = true ∧ 0 ≤ plcV (k1, k2, k3)
  · obtain ⟨ha, hp⟩ := hpl
    obtain ⟨i, hi⟩ : ∃ i : Nat, plcV (k1, k2, k3) = (i : Int) := ⟨(plcV (k1, k2, k3)).toNat, by omega⟩
    have hlt := own_plc_lt ha hi hT
    have hix : ix = (i : Int) := by rw [← HG.out.2]; unfold PO.ix; rw [if_pos ha, hi]
    subst hix
    have ed : o.del1 (k1, k2, k3) = (true, { o with L := o.L.set i E0 }) := by unfold PO.del1; rw [HG.out.1, if_neg (by simp), if_neg (by rw [HC.out]; decide), if_pos ⟨ha, hp⟩, show (plcV (k1, k2, k3)).toNat = i by omega]
    have HE := Lib.hid (And.intro ha ed)
    clear ed
    have hS := G.ArrS.refl ((HIO.out.1.below HB4.out.1).arrE ha)
    obtain ⟨n, hn⟩ : ∃ n, o.L.length = n := ⟨_, rfl⟩
    have hrow := hS.ar.row
    obtain ⟨la, lcap, rfl, hla⟩ := own_shape hrow
    obtain ⟨g, rfl⟩ := hla (by omega)
    rw [hn] at hrow
    have hlv : (valsC o.L).length = n * 3 := by rw [valsC_length, hn]
    have x2 : w4.cell? ⟨b, 4, none⟩ = some (.slice (some ⟨g, 0, none⟩) n lcap) := by rw [hS.ar.ob.cell, ← hn]; rfl
    have l2 := hS.ar.ob.lt
    obtain ⟨u0, e0⟩ : ∃ u, w4.cell? ⟨g, i * 3, none⟩ = some u := ⟨_, (hrow.cellAt (i * 3) (by omega)).trans (List.getElem?_eq_getElem (by rw [hlv]; omega))⟩
    obtain ⟨u1, e1⟩ : ∃ u, w4.cell? ⟨g, i * 3 + 1, none⟩ = some u := ⟨_, (hrow.cellAt (i * 3 + 1) (by omega)).trans (List.getElem?_eq_getElem (by rw [hlv]; omega))⟩
    obtain ⟨u2, e2⟩ : ∃ u, w4.cell? ⟨g, i * 3 + 2, none⟩ = some u := ⟨_, (hrow.cellAt (i * 3 + 2) (by omega)).trans (List.getElem?_eq_getElem (by rw [hlv]; omega))⟩
    have f0 := hrow.frozenAt (i * 3)
    have f1 := hrow.frozenAt (i * 3 + 1)
    have f2 := hrow.frozenAt (i * 3 + 2)
    have lg := World.block_lt_of_cell? w4 _ e0
    have t1 : decide ((0 : Int) ≤ (i : Int)) = true := by simp
    have z0 : (0 : Int) ≤ (i : Int) := by omega
    have z1 : (i : Int) < (n : Int) := by omega
    rw [hn] at hS
    have HS := Lib.hid (And.intro hS hn)
    clear hS hrow hla hlv hlt hT hF hp hi ha hn
    go_wp2
    go_ret
    rw [HE.out.2]
    refine ⟨rfl, ?_⟩
    obtain rfl := HS.out.2
    have hs := HS.out.1.setE E0 rfl (show i < o.L.length by omega)
    have h3 := hs.from HB4.out.1
    exact HIO.out.1.arrS HE.out.1 h3
  · have hix : ix = -1 := by
      rw [← HG.out.2]; unfold PO.ix
      by_cases ha : o.arr = true
      · rw [if_pos ha]
        rcases ks_plc HIO.out.2.2.1 with e | ⟨i, _, _, e⟩
        · exact e
        · exact absurd ⟨ha, by omega⟩ hpl
      · rw [if_neg ha]
    subst hix
    have e1 : o.del1 (k1, k2, k3) = (true, { o with A := delA (k1, k2, k3) o.A }) := by unfold PO.del1; rw [HG.out.1, if_neg (by simp), if_neg (by rw [HC.out]; decide), if_neg hpl]
    have HE := Lib.hid (And.intro e1 (own_tab HIO.out.2.2.1 HG.out.2 hT hF))
    clear e1 hT hF hpl
    go_upto_region 10 with fail
    have c3 : w4.cell? ⟨b, 3, none⟩ = some (.pointer (some ⟨T, 0, none⟩)) := by rw [(HIO.out.1.below HB4.out.1).ob.cell]; rfl
    have d0 : w4.cell? ⟨w.heap.size, 0, none⟩ = some (.int .i64 k1) := by rw [HB4.out.2.cell]; rfl
    have d1 : w4.cell? ⟨w.heap.size, 1, none⟩ = some (.int .i64 k2) := by rw [HB4.out.2.cell]; rfl
    have d2 : w4.cell? ⟨w.heap.size, 2, none⟩ = some (.string k3) := by rw [HB4.out.2.cell]; rfl
    refine wp_var0 (fun KV HKV => ?_)
    refine wp_region_till (m := 5) (S := (fun W => W.cell? ⟨b, 3, none⟩ = some (.pointer (some ⟨T, 0, none⟩)) ∧ W.cell? ⟨w.heap.size, 0, none⟩ = some (.int .i64 k1) ∧ W.cell? ⟨w.heap.size, 1, none⟩ = some (.int .i64 k2) ∧ W.cell? ⟨w.heap.size, 2, none⟩ = some (.string k3))) (by kernel_rfl) ?_
    have e4 : w4.drew = w4.drewN 1 := rfl
    rw [e4]
    have S0 : (w4.drewN 1).cell? ⟨b, 3, none⟩ = some (.pointer (some ⟨T, 0, none⟩)) ∧ (w4.drewN 1).cell? ⟨w.heap.size, 0, none⟩ = some (.int .i64 k1) ∧ (w4.drewN 1).cell? ⟨w.heap.size, 1, none⟩ = some (.int .i64 k2) ∧ (w4.drewN 1).cell? ⟨w.heap.size, 2, none⟩ = some (.string k3) := ⟨c3, d0, d1, d2⟩
    have HBD := Lib.hid (below_drw HB4.out.1 1)
    clear c3 d0 d1 d2 HB4 e4
    generalize w4.drewN 1 = E at *
    change tillH _ _ _ _ _ _ 7 #[false, false, false, false, false, false, false] _ _
    refine tillH_takeAny (i := 0) (oi := ?oo1) (v := ?vv1) ?hi1 (by kernel_rfl) (by kernel_rfl) (by kernel_rfl) ?hq1 (by kernel_rfl) ?hy1 (fun _ => S0) ?hh1
    case hi1 => (simp only [List.getElem?_toArray, List.getElem?_cons_succ, List.getElem?_cons_zero]; rfl)
    case hq1 => exact fun _ _ _ h => h
    case hy1 => exact Or.inl ⟨by rfl, by (intro W; go_simp; (try with_reducible rfl))⟩
    (try simp only [Act.put, List.setIfInBounds_toArray, List.set_cons_zero, List.set_cons_succ])
    refine tillH_takeAny (i := 1) (oi := ?oo2) (v := ?vv2) ?hi2 (by kernel_rfl) (by kernel_rfl) (by kernel_rfl) ?hq2 (by kernel_rfl) ?hy2 (fun _ => S0) ?hh2
    case hi2 => (simp only [List.getElem?_toArray, List.getElem?_cons_succ, List.getElem?_cons_zero]; rfl)
    case hq2 => exact fun _ _ _ h => h
    case hy2 => exact Or.inl ⟨by rfl, by (intro W; go_simp; (try with_reducible rfl))⟩
    (try simp only [Act.put, List.setIfInBounds_toArray, List.set_cons_zero, List.set_cons_succ])
    refine tillH_takeAny (i := 2) (oi := ?oo3) (v := ?vv3) ?hi3 (by kernel_rfl) (by kernel_rfl) (by kernel_rfl) ?hq3 (by kernel_rfl) ?hy3 (fun _ => S0) ?hh3
    case hi3 => (simp only [List.getElem?_toArray, List.getElem?_cons_succ, List.getElem?_cons_zero]; rfl)
    case hq3 => exact fun _ _ _ h => h
    case hy3 => exact Or.inl ⟨by rfl, by (intro W; go_simp; (try with_reducible rfl))⟩
    (try simp only [Act.put, List.setIfInBounds_toArray, List.set_cons_zero, List.set_cons_succ])
    refine tillH_take (i := 3) (oi := ?oo4) (v := ?vv4) ?hi4 (by kernel_rfl) (by kernel_rfl) (by kernel_rfl) ?hq4 (by kernel_rfl) (by kernel_rfl) (by kernel_rfl) ?hy4 S0 ?hh4
    case hi4 => (simp only [List.getElem?_toArray, List.getElem?_cons_succ, List.getElem?_cons_zero]; rfl)
    case hq4 => exact fun _ _ _ h => h
    case hy4 => exact Or.inl ⟨by rfl, by (intro W hSw; (try obtain ⟨s0, s1, s2, s3⟩ := hSw); go_simp; (try with_reducible rfl))⟩
    (try simp only [Act.put, List.setIfInBounds_toArray, List.set_cons_zero, List.set_cons_succ])
    refine tillH_take (i := 4) (oi := ?oo5) (v := ?vv5) ?hi5 (by kernel_rfl) (by kernel_rfl) (by kernel_rfl) ?hq5 (by kernel_rfl) (by kernel_rfl) (by kernel_rfl) ?hy5 S0 ?hh5
    case hi5 => (simp only [List.getElem?_toArray, List.getElem?_cons_succ, List.getElem?_cons_zero]; rfl)
    case hq5 => exact fun _ _ _ h => h
    case hy5 => exact Or.inl ⟨by rfl, by (intro W hSw; (try obtain ⟨s0, s1, s2, s3⟩ := hSw); go_simp; (try with_reducible rfl))⟩
    (try simp only [Act.put, List.setIfInBounds_toArray, List.set_cons_zero, List.set_cons_succ])
    refine tillH_next (rs := [5]) (by kernel_rfl) (by simp) ?_
    refine NextH.cons rfl (fun K hK => ?_) NextH.nil
    go_simp
    refine (Go.Proofs.YtmimnaaofpkndaaDoor.delete_any T o.A [] Ot (k1, k2, k3) E (HIO.out.1.below HBD.out).tab (ks_size HIO.out.2.2.1) (by have := HIO.out.2.2.2.2; omega) (by simp)).mono ?_
    rintro e w6 (⟨rfl, hn, _⟩ | ⟨rfl, hx, hT6, u6⟩)
    · exact absurd hn HE.out.2
    have HF6 := Lib.hid (LieO.tabbed (HIO.out.1.below HBD.out) hT6 u6 HBD.out)
    clear S0 hx hT6 u6
    refine hK.out _ _ (fun h => absurd h (by simp)) ?_
    clear hK K
    (try simp only [Act.put, List.setIfInBounds_toArray, List.set_cons_zero, List.set_cons_succ])
    refine tillH_takeAny (i := 6) (oi := ?oo6) (v := ?vv6) ?hi6 (by kernel_rfl) (by kernel_rfl) (by kernel_rfl) ?hq6 (by kernel_rfl) ?hy6 (fun h => absurd h (by simp)) ?hh6
    case hi6 => (simp only [List.getElem?_toArray, List.getElem?_cons_succ, List.getElem?_cons_zero]; rfl)
    case hq6 => exact fun _ _ _ h => h
    case hy6 => exact Or.inl ⟨by rfl, by (intro W; go_simp; (try with_reducible rfl))⟩
    (try simp only [Act.put, List.setIfInBounds_toArray, List.set_cons_zero, List.set_cons_succ])
    refine tillH_done (by kernel_rfl) ?_ _
    refine HKV.out _ _ ?_
    go_wp2
    go_ret
    rw [HE.out.1]
    exact ⟨rfl, HF6.out⟩
end Go.Proofs.YtmimnaaofpkndaaDoor.Hp
