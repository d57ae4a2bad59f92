/- HrI: several texts in one. -/
import Derived.Test.YtmimnaaofpkndaaDoorHrF
/- HeapRuns: Define. -/
set_option linter.unusedVariables false
set_option linter.unusedSimpArgs false
namespace Go.Proofs.YtmimnaaofpkndaaDoor.Hp
open Go.RowKit Go.Proofs.YtmimnaaofpkndaaDoor Go.Shelf
attribute [local go_sem] Oper.semAt_some
/-- What the two boxes of a call of Define leave. -/
theorem two_boxes (w : World) (k1 k2 : Int) (k3 : ByteArray) (v1 v2 : Int) (v3 : ByteArray) : Below w.heap.size w ((w.alloc (.cells #[.int .i64 k1, .int .i64 k2, .string k3] 34)).alloc (.cells #[.int .i64 v1, .int .i64 v2, .string v3] 34)) ∧
    Blk ((w.alloc (.cells #[.int .i64 k1, .int .i64 k2, .string k3] 34)).alloc (.cells #[.int .i64 v1, .int .i64 v2, .string v3] 34)) w.heap.size 34 #[.int .i64 k1, .int .i64 k2, .string k3] ∧
    Blk ((w.alloc (.cells #[.int .i64 k1, .int .i64 k2, .string k3] 34)).alloc (.cells #[.int .i64 v1, .int .i64 v2, .string v3] 34)) (w.heap.size + 1) 34 #[.int .i64 v1, .int .i64 v2, .string v3] := by
  refine ⟨((Below.refl _ _).alloc (Nat.le_refl _) _).alloc (by simp) _, (Blk.new w _ _).alloc _, ?_⟩
  have := Blk.new (w.alloc (.cells #[.int .i64 k1, .int .i64 k2, .string k3] 34)) 34 #[.int .i64 v1, .int .i64 v2, .string v3]
  rwa [World.size_alloc] at this
/-- The place that a key tells of an object. -/
def PO.ix (o : PO) (k : K3) : Int := if o.arr = true then plcV k else -1
theorem ix_io {o : PO} {b T : Nat} {lv : Value} {Ot : Nat → Prop} {w : World} {k : K3} (h : LieO o b T lv Ot w) (hk : KS k) :
    Calls Tryd.prog 42 #[.pointer (some ⟨b, 0, none⟩), VK k] w fun e w' => e = .returned (.int .i64 (o.ix k)) ∧ Below w.heap.size w w' := by
  have hi := hindex_any b T (clV o) (o.pr : Int) o.clo lv nilP nilP nilS (atV o) k w h.ob (ks_size hk)
  have e : idxV (clV o) k = o.ix k := by
    unfold PO.ix
    cases ha : o.arr with
    | true => rw [if_pos rfl, show clV o = 1 from if_pos ha, idx_arr]
    | false => rw [if_neg (by decide), show clV o = 0 from if_neg (by rw [ha]; decide), idx_pl]
  rw [e] at hi
  exact hi
theorem refuse_eq (gf f : Int) : refuse gf f = ((bits .and .i64 gf 4 == 0) && ((bits .and .i64 gf 1 == 0) || (bits .andNot .i64 f 1 != bits .andNot .i64 gf 1))) := rfl
set_option maxRecDepth 100000 in
set_option maxHeartbeats 4000000 in
/-- Define, refused for what is there, or for the object being closed. -/
theorem define_no {o : PO} {b T : Nat} {lv : Value} {Ot : Nat → Prop} {w : World} {k v : K3} {f : Int} (h : LieO o b T lv Ot w) (hO : o.Ok) (hk : KS k) (hLg : Lg w) (hno : (((!(o.own k).2.2) && o.clo) || ((o.own k).2.2 && refuse (o.own k).2.1 f)) = true) :
    Calls Tryd.prog 12 #[.pointer (some ⟨b, 0, none⟩), VK k, VK v, .int .i64 f] w fun e w' => e = .returned (.bool false) ∧ Below w.heap.size w w' := by
  have hidx : True := trivial
  have HNO := Lib.hid hno
  clear hno
  have HIO := Lib.hid (And.intro h (And.intro hO (And.intro hk hLg)))
  have HI := Lib.hid hidx
  obtain ⟨⟨g1, g2, g3⟩, gf, gb, hg⟩ : ∃ (gv : K3) (gf : Int) (gb : Bool), o.own k = (gv, gf, gb) := ⟨_, _, _, rfl⟩
  have hown : ∀ W, Below w.heap.size w W → Calls Tryd.prog 18 #[.pointer (some ⟨b, 0, none⟩), VK k] W fun e w' => e = .returned (.tuple #[VS g1 g2 g3, .int .i64 gf, .bool gb]) ∧ Below W.heap.size W w' := fun W bW => by
    have := own_io (HIO.out.1.below bW) HIO.out.2.1 HIO.out.2.2.1 (HIO.out.2.2.2.below bW)
    rw [hg] at this
    exact this
  have HOW := Lib.hid hown
  have HG := Lib.hid hg
  obtain ⟨k1, k2, k3⟩ := k
  obtain ⟨v1, v2, v3⟩ := v
  have HB := Lib.hid (two_boxes w k1 k2 k3 v1 v2 v3)
  clear h hO hk hLg hidx hown hg
  go_enter Tryd.func12, Tryd.ntmps12
  go_wp2_with (fail)
  refine (HOW.out _ HB.out.1).mono ?_
  rintro e w2 ⟨rfl, b2⟩
  obtain ⟨b1, kb, vb⟩ := HB.out
  have b23 : Below w2.heap.size w2 (w2.alloc (.cells #[.int .i64 g1, .int .i64 g2, .string g3] 34)) := (Below.refl _ _).alloc (Nat.le_refl _) _
  have HB3 := Lib.hid (And.intro ((b1.trans (b2.mono b1.size)).trans (b23.mono (Nat.le_trans b1.size b2.size))) (And.intro ((kb.below b2 kb.lt).below b23 (Nat.lt_of_lt_of_le kb.lt b2.size)) ((vb.below b2 vb.lt).below b23 (Nat.lt_of_lt_of_le vb.lt b2.size))))
  clear b1 kb vb b2 b23 HB HOW
  go_upto_region 2 with fail
  generalize (w2.alloc (.cells #[.int .i64 g1, .int .i64 g2, .string g3] 34)) = w3 at *
  generalize w2.heap.size = q2 at *
  have c2 : w3.cell? ⟨b, 2, none⟩ = some (.bool o.clo) := by rw [(HIO.out.1.below HB3.out.1).ob.cell]; rfl
  have lo := (HIO.out.1.below HB3.out.1).ob.lt
  obtain ⟨cl, hcl⟩ : ∃ c, o.clo = c := ⟨_, rfl⟩
  rw [hcl] at c2
  have HCL := Lib.hid hcl
  clear hcl
  go_cut [27] (fun s27 wx => s27 = .bool (!gb && cl) ∧ w3 = wx)
  case first =>
    cases gb with
    | true =>
      go_wp2_with fail
      go_meet
      exact ⟨rfl, rfl⟩
    | false =>
      go_wp2_with fail
      go_meet
      exact ⟨rfl, rfl⟩
  case rest =>
  obtain ⟨rfl, rfl⟩ := hcut
  have hno := HNO.out
  rw [HG.out, HCL.out] at hno
  dsimp only at hno
  have HNN := Lib.hid hno
  clear hno HNO c2
  cases hx : (!gb && cl) with
  | true =>
    clear hx
    go_wp2
    go_ret
    exact ⟨rfl, HB3.out.1⟩
  | false =>
    have HX := Lib.hid hx
    clear hx
    go_upto_region 4 with fail
    obtain ⟨c1, hc1⟩ : ∃ c, (bits .and .i64 gf 4 == 0) = c := ⟨_, rfl⟩
    obtain ⟨c2', hc2⟩ : ∃ c, (bits .and .i64 gf 1 == 0) = c := ⟨_, rfl⟩
    obtain ⟨c3, hc3⟩ : ∃ c, (bits .andNot .i64 f 1 != bits .andNot .i64 gf 1) = c := ⟨_, rfl⟩
    have hrf : refuse gf f = (c1 && (c2' || c3)) := by rw [refuse_eq, hc1, hc2, hc3]
    have HRF := Lib.hid hrf
    clear hrf
    go_cut [45] (fun s45 wx => s45 = .bool (gb && (c1 && (c2' || c3))) ∧ w3 = wx)
    case first =>
      cases gb with
      | false =>
        clear hc1 hc2 hc3
        go_wp2_with fail
        go_meet
        exact ⟨rfl, rfl⟩
      | true =>
        cases c1 with
        | false =>
          clear hc2 hc3
          go_wp2_with fail
          go_meet
          exact ⟨rfl, rfl⟩
        | true =>
          cases c2' with
          | true =>
            clear hc3
            go_wp2_with fail
            go_meet
            exact ⟨rfl, rfl⟩
          | false =>
            go_wp2_with fail
            go_meet
            exact ⟨rfl, rfl⟩
    case rest =>
    obtain ⟨rfl, rfl⟩ := hcut
    clear hc1 hc2 hc3
    have hy : (gb && (c1 && (c2' || c3))) = true := by
      have := HNN.out
      rw [HX.out, HRF.out] at this
      simpa using this
    clear HNN HRF HX
    rw [hy]
    go_wp2
    go_ret
    exact ⟨rfl, HB3.out.1⟩
end Go.Proofs.YtmimnaaofpkndaaDoor.Hp

/- HeapRuns: Define, by the table. -/
set_option linter.unusedVariables false
set_option linter.unusedSimpArgs false
namespace Go.Proofs.YtmimnaaofpkndaaDoor.Hp
open Go.RowKit Go.Proofs.YtmimnaaofpkndaaDoor Go.Shelf
attribute [local go_sem] Oper.semAt_some
set_option maxRecDepth 100000 in
set_option maxHeartbeats 8000000 in
/-- Define, by the table. -/
theorem define_tab {o : PO} {b T : Nat} {lv : Value} {Ot : Nat → Prop} {w : World} {k v : K3} {f : Int} (h : LieO o b T lv Ot w) (hO : o.Ok) (hk : KS k) (hLg : Lg w) (hno : (((!(o.own k).2.2) && o.clo) || ((o.own k).2.2 && refuse (o.own k).2.1 f)) = false) (hA : o.A.length ≤ 4000)
    (hc : o.arr = false ∨ (o.arr = true ∧ plcV k = -1 ∧ (k.1 = 8 ∨ (k.1 = 7 ∧ k.2.1 = 0 ∧ k.2.2.toList ≠ lenK.2.2.toList)))) :
    Calls Tryd.prog 12 #[.pointer (some ⟨b, 0, none⟩), VK k, VK v, .int .i64 f] w fun e w' => e = .returned (.bool true) ∧ Left o b T lv Ot w { o with A := putA k v f o.A } w' := by
  have hidx : ∀ W, Below w.heap.size w W → Calls Tryd.prog 42 #[.pointer (some ⟨b, 0, none⟩), VK k] W fun e w' => e = .returned (.int .i64 (-1)) ∧ Below W.heap.size W w' := fun W bW => by
    have := ix_io (h.below bW) hk
    rw [show o.ix k = -1 by unfold PO.ix; rcases hc with e | ⟨_, e, _⟩ <;> simp [e]] at this
    exact this
  have HNO := Lib.hid hno
  have HC := Lib.hid (And.intro hc hA)
  clear hno hc hA
  have HIO := Lib.hid (And.intro h (And.intro hO (And.intro hk hLg)))
  have HI := Lib.hid hidx
  obtain ⟨⟨g1, g2, g3⟩, gf, gb, hg⟩ : ∃ (gv : K3) (gf : Int) (gb : Bool), o.own k = (gv, gf, gb) := ⟨_, _, _, rfl⟩
  have hown : ∀ W, Below w.heap.size w W → Calls Tryd.prog 18 #[.pointer (some ⟨b, 0, none⟩), VK k] W fun e w' => e = .returned (.tuple #[VS g1 g2 g3, .int .i64 gf, .bool gb]) ∧ Below W.heap.size W w' := fun W bW => by
    have := own_io (HIO.out.1.below bW) HIO.out.2.1 HIO.out.2.2.1 (HIO.out.2.2.2.below bW)
    rw [hg] at this
    exact this
  have HOW := Lib.hid hown
  have HG := Lib.hid hg
  obtain ⟨k1, k2, k3⟩ := k
  obtain ⟨v1, v2, v3⟩ := v
  have HB := Lib.hid (two_boxes w k1 k2 k3 v1 v2 v3)
  clear h hO hk hLg hidx hown hg
  go_enter Tryd.func12, Tryd.ntmps12
  go_wp2_with (fail)
  refine (HOW.out _ HB.out.1).mono ?_
  rintro e w2 ⟨rfl, b2⟩
  obtain ⟨b1, kb, vb⟩ := HB.out
  have b23 : Below w2.heap.size w2 (w2.alloc (.cells #[.int .i64 g1, .int .i64 g2, .string g3] 34)) := (Below.refl _ _).alloc (Nat.le_refl _) _
  have HB3 := Lib.hid (And.intro ((b1.trans (b2.mono b1.size)).trans (b23.mono (Nat.le_trans b1.size b2.size))) (And.intro ((kb.below b2 kb.lt).below b23 (Nat.lt_of_lt_of_le kb.lt b2.size)) ((vb.below b2 vb.lt).below b23 (Nat.lt_of_lt_of_le vb.lt b2.size))))
  clear b1 kb vb b2 b23 HB HOW
  go_upto_region 2 with fail
  generalize (w2.alloc (.cells #[.int .i64 g1, .int .i64 g2, .string g3] 34)) = w3 at *
  generalize w2.heap.size = q2 at *
  have c2 : w3.cell? ⟨b, 2, none⟩ = some (.bool o.clo) := by rw [(HIO.out.1.below HB3.out.1).ob.cell]; rfl
  have lo := (HIO.out.1.below HB3.out.1).ob.lt
  obtain ⟨cl, hcl⟩ : ∃ c, o.clo = c := ⟨_, rfl⟩
  rw [hcl] at c2
  have HCL := Lib.hid hcl
  clear hcl
  go_cut [27] (fun s27 wx => s27 = .bool (!gb && cl) ∧ w3 = wx)
  case first =>
    cases gb with
    | true =>
      go_wp2_with fail
      go_meet
      exact ⟨rfl, rfl⟩
    | false =>
      go_wp2_with fail
      go_meet
      exact ⟨rfl, rfl⟩
  case rest =>
  obtain ⟨rfl, rfl⟩ := hcut
  have hno := HNO.out
  rw [HG.out, HCL.out] at hno
  dsimp only at hno
  have hx : (!gb && cl) = false := by cases gb <;> cases cl <;> simp at hno ⊢
  have HNN := Lib.hid hno
  clear hno HNO c2
  rw [hx]
  clear hx
  go_upto_region 4 with fail
  obtain ⟨c1, hc1⟩ : ∃ c, (bits .and .i64 gf 4 == 0) = c := ⟨_, rfl⟩
  obtain ⟨c2', hc2⟩ : ∃ c, (bits .and .i64 gf 1 == 0) = c := ⟨_, rfl⟩
  obtain ⟨c3, hc3⟩ : ∃ c, (bits .andNot .i64 f 1 != bits .andNot .i64 gf 1) = c := ⟨_, rfl⟩
  have hrf : refuse gf f = (c1 && (c2' || c3)) := by rw [refuse_eq, hc1, hc2, hc3]
  have HRF := Lib.hid hrf
  clear hrf
  go_cut [45] (fun s45 wx => s45 = .bool (gb && (c1 && (c2' || c3))) ∧ w3 = wx)
  case first =>
    cases gb with
    | false =>
      clear hc1 hc2 hc3
      go_wp2_with fail
      go_meet
      exact ⟨rfl, rfl⟩
    | true =>
      cases c1 with
      | false =>
        clear hc2 hc3
        go_wp2_with fail
        go_meet
        exact ⟨rfl, rfl⟩
      | true =>
        cases c2' with
        | true =>
          clear hc3
          go_wp2_with fail
          go_meet
          exact ⟨rfl, rfl⟩
        | false =>
          go_wp2_with fail
          go_meet
          exact ⟨rfl, rfl⟩
  case rest =>
  obtain ⟨rfl, rfl⟩ := hcut
  clear hc1 hc2 hc3
  have hy : (gb && (c1 && (c2' || c3))) = false := by
    have := HNN.out
    rw [HRF.out] at this
    cases gb <;> simp at this ⊢
    exact this
  clear HNN HRF
  rw [hy]
  clear hy lo
  have p0 : w3.cell? ⟨w.heap.size, 0, none⟩ = some (.int .i64 k1) := by rw [HB3.out.2.1.cell]; rfl
  have p1 : w3.cell? ⟨w.heap.size, 1, none⟩ = some (.int .i64 k2) := by rw [HB3.out.2.1.cell]; rfl
  have p2 : w3.cell? ⟨w.heap.size, 2, none⟩ = some (.string k3) := by rw [HB3.out.2.1.cell]; rfl
  have pl := HB3.out.2.1.lt
  go_wp2_with fail
  refine (HI.out w3 HB3.out.1).mono ?_
  rintro e w4 ⟨rfl, b4⟩
  have HB4 := Lib.hid (And.intro (HB3.out.1.trans (b4.mono HB3.out.1.size)) (And.intro (HB3.out.2.1.below b4 HB3.out.2.1.lt) (HB3.out.2.2.below b4 HB3.out.2.2.lt)))
  clear HB3 b4 HI p0 p1 p2 pl
  go_upto_region 14 with fail
  obtain ⟨ar, har⟩ : ∃ a, o.arr = a := ⟨_, rfl⟩
  have HAR := Lib.hid har
  have lo := (HIO.out.1.below HB4.out.1).ob.lt
  have x0 : w4.cell? ⟨b, 0, none⟩ = some (.int .i64 (if ar = true then 1 else 0)) := by rw [(HIO.out.1.below HB4.out.1).ob.cell, ← har]; rfl
  clear har
  go_cut [86] (fun s86 wx => s86 = .bool false ∧ w4 = wx)
  case first =>
    have hlg := HIO.out.2.2.2.below HB4.out.1
    cases ar with
    | false =>
      have c0 : w4.cell? ⟨b, 0, none⟩ = some (.int .i64 0) := x0
      clear x0 hlg
      go_wp2_with fail
      go_meet
      exact ⟨rfl, rfl⟩
    | true =>
      have c0 : w4.cell? ⟨b, 0, none⟩ = some (.int .i64 1) := x0
      obtain ⟨l1, l2, l3, hl1, hl2, hl3⟩ : ∃ (l1 l2 : Int) (l3 : ByteArray), lenK.1 = l1 ∧ lenK.2.1 = l2 ∧ lenK.2.2 = l3 := ⟨_, _, _, rfl, rfl, rfl⟩
      have g0 : w4.cell? ⟨0, 0, none⟩ = some (.int .i64 l1) := by rw [← hl1]; exact hlg.1
      have g1 : w4.cell? ⟨0, 1, none⟩ = some (.int .i64 l2) := by rw [← hl2]; exact hlg.2.1
      have g2 : w4.cell? ⟨0, 2, none⟩ = some (.string l3) := by rw [← hl3]; exact hlg.2.2
      have p0 : w4.cell? ⟨w.heap.size, 0, none⟩ = some (.int .i64 k1) := by rw [HB4.out.2.1.cell]; rfl
      have p1 : w4.cell? ⟨w.heap.size, 1, none⟩ = some (.int .i64 k2) := by rw [HB4.out.2.1.cell]; rfl
      have p2 : w4.cell? ⟨w.heap.size, 2, none⟩ = some (.string k3) := by rw [HB4.out.2.1.cell]; rfl
      have pl := HB4.out.2.1.lt
      have hc2 : k1 = 8 ∨ (k1 = 7 ∧ k2 = 0 ∧ k3.toList ≠ lenK.2.2.toList) := by
        rcases HC.out.1 with e | ⟨_, _, e⟩
        · rw [HAR.out] at e; cases e
        · exact e
      have HC2 := Lib.hid hc2
      clear x0 hlg hc2
      rcases HC2.out with h8 | ⟨h7, hz, hne⟩
      · have t0 : (k1 == l1) = false := by rw [h8, ← hl1]; rfl
        clear h8 hl1 hl2 hl3
        go_wp2_with fail
        go_meet
        exact ⟨rfl, rfl⟩
      · have t0 : (k1 == l1) = true := by rw [h7, ← hl1]; rfl
        have t1 : (k2 == l2) = true := by rw [hz, ← hl2]; rfl
        have t2 : (k3.toList == l3.toList) = false := by rw [← hl3]; exact beq_false_of_ne hne
        clear h7 hz hne hl1 hl2 hl3
        go_wp2_with fail
        go_meet
        exact ⟨rfl, rfl⟩
  case rest =>
  obtain ⟨rfl, rfl⟩ := hcut
  clear x0 lo
  go_upto_region 16 with fail
  have c3 : w4.cell? ⟨b, 3, none⟩ = some (.pointer (some ⟨T, 0, none⟩)) := by rw [(HIO.out.1.below HB4.out.1).ob.cell]; rfl
  have d0 : w4.cell? ⟨w.heap.size, 0, none⟩ = some (.int .i64 k1) := by rw [HB4.out.2.1.cell]; rfl
  have d1 : w4.cell? ⟨w.heap.size, 1, none⟩ = some (.int .i64 k2) := by rw [HB4.out.2.1.cell]; rfl
  have d2 : w4.cell? ⟨w.heap.size, 2, none⟩ = some (.string k3) := by rw [HB4.out.2.1.cell]; rfl
  have f0 : w4.cell? ⟨w.heap.size + 1, 0, none⟩ = some (.int .i64 v1) := by rw [HB4.out.2.2.cell]; rfl
  have f1 : w4.cell? ⟨w.heap.size + 1, 1, none⟩ = some (.int .i64 v2) := by rw [HB4.out.2.2.cell]; rfl
  have f2 : w4.cell? ⟨w.heap.size + 1, 2, none⟩ = some (.string v3) := by rw [HB4.out.2.2.cell]; rfl
  refine wp_var0 (fun KV HKV => ?_)
  refine wp_region_till (m := 7) (S := (fun W => W.cell? ⟨b, 3, none⟩ = some (.pointer (some ⟨T, 0, none⟩)) ∧ (W.cell? ⟨w.heap.size, 0, none⟩ = some (.int .i64 k1) ∧ W.cell? ⟨w.heap.size, 1, none⟩ = some (.int .i64 k2) ∧ W.cell? ⟨w.heap.size, 2, none⟩ = some (.string k3)) ∧ (W.cell? ⟨w.heap.size + 1, 0, none⟩ = some (.int .i64 v1) ∧ W.cell? ⟨w.heap.size + 1, 1, none⟩ = some (.int .i64 v2) ∧ W.cell? ⟨w.heap.size + 1, 2, none⟩ = some (.string v3)))) (by kernel_rfl) ?_
  have e4 : w4.drew = w4.drewN 1 := rfl
  rw [e4]
  have S0 : (w4.drewN 1).cell? ⟨b, 3, none⟩ = some (.pointer (some ⟨T, 0, none⟩)) ∧ ((w4.drewN 1).cell? ⟨w.heap.size, 0, none⟩ = some (.int .i64 k1) ∧ (w4.drewN 1).cell? ⟨w.heap.size, 1, none⟩ = some (.int .i64 k2) ∧ (w4.drewN 1).cell? ⟨w.heap.size, 2, none⟩ = some (.string k3)) ∧ ((w4.drewN 1).cell? ⟨w.heap.size + 1, 0, none⟩ = some (.int .i64 v1) ∧ (w4.drewN 1).cell? ⟨w.heap.size + 1, 1, none⟩ = some (.int .i64 v2) ∧ (w4.drewN 1).cell? ⟨w.heap.size + 1, 2, none⟩ = some (.string v3)) := ⟨c3, ⟨d0, d1, d2⟩, ⟨f0, f1, f2⟩⟩
  have HBD := Lib.hid (below_drw HB4.out.1 1)
  clear c3 d0 d1 d2 f0 f1 f2 HB4 e4
  generalize w4.drewN 1 = E at *
  change tillH _ _ _ _ _ _ 8 #[false, false, false, false, false, false, false, false] _ _
  refine tillH_takeAny (i := 0) (oi := ?oo1) (v := ?vv1) ?hi1 (by kernel_rfl) (by kernel_rfl) (by kernel_rfl) ?hq1 (by kernel_rfl) ?hy1 (fun _ => S0) ?hh1
  case hi1 => (simp only [List.getElem?_toArray, List.getElem?_cons_succ, List.getElem?_cons_zero]; rfl)
  case hq1 => exact fun _ _ _ h => h
  case hy1 => exact Or.inl ⟨by rfl, by (intro W; go_simp; (try with_reducible rfl))⟩
  (try simp only [Act.put, List.setIfInBounds_toArray, List.set_cons_zero, List.set_cons_succ])
  refine tillH_takeAny (i := 1) (oi := ?oo2) (v := ?vv2) ?hi2 (by kernel_rfl) (by kernel_rfl) (by kernel_rfl) ?hq2 (by kernel_rfl) ?hy2 (fun _ => S0) ?hh2
  case hi2 => (simp only [List.getElem?_toArray, List.getElem?_cons_succ, List.getElem?_cons_zero]; rfl)
  case hq2 => exact fun _ _ _ h => h
  case hy2 => exact Or.inl ⟨by rfl, by (intro W; go_simp; (try with_reducible rfl))⟩
  (try simp only [Act.put, List.setIfInBounds_toArray, List.set_cons_zero, List.set_cons_succ])
  refine tillH_takeAny (i := 2) (oi := ?oo3) (v := ?vv3) ?hi3 (by kernel_rfl) (by kernel_rfl) (by kernel_rfl) ?hq3 (by kernel_rfl) ?hy3 (fun _ => S0) ?hh3
  case hi3 => (simp only [List.getElem?_toArray, List.getElem?_cons_succ, List.getElem?_cons_zero]; rfl)
  case hq3 => exact fun _ _ _ h => h
  case hy3 => exact Or.inl ⟨by rfl, by (intro W; go_simp; (try with_reducible rfl))⟩
  (try simp only [Act.put, List.setIfInBounds_toArray, List.set_cons_zero, List.set_cons_succ])
  refine tillH_take (i := 3) (oi := ?oo4) (v := ?vv4) ?hi4 (by kernel_rfl) (by kernel_rfl) (by kernel_rfl) ?hq4 (by kernel_rfl) (by kernel_rfl) (by kernel_rfl) ?hy4 S0 ?hh4
  case hi4 => (simp only [List.getElem?_toArray, List.getElem?_cons_succ, List.getElem?_cons_zero]; rfl)
  case hq4 => exact fun _ _ _ h => h
  case hy4 => exact Or.inl ⟨by rfl, by (intro W hSw; (try obtain ⟨s0, ⟨s1, s2, s3⟩, ⟨s4, s5, s6⟩⟩ := hSw); go_simp; (try with_reducible rfl))⟩
  (try simp only [Act.put, List.setIfInBounds_toArray, List.set_cons_zero, List.set_cons_succ])
  refine tillH_take (i := 4) (oi := ?oo5) (v := ?vv5) ?hi5 (by kernel_rfl) (by kernel_rfl) (by kernel_rfl) ?hq5 (by kernel_rfl) (by kernel_rfl) (by kernel_rfl) ?hy5 S0 ?hh5
  case hi5 => (simp only [List.getElem?_toArray, List.getElem?_cons_succ, List.getElem?_cons_zero]; rfl)
  case hq5 => exact fun _ _ _ h => h
  case hy5 => exact Or.inl ⟨by rfl, by (intro W hSw; (try obtain ⟨s0, ⟨s1, s2, s3⟩, ⟨s4, s5, s6⟩⟩ := hSw); go_simp; (try with_reducible rfl))⟩
  (try simp only [Act.put, List.setIfInBounds_toArray, List.set_cons_zero, List.set_cons_succ])
  refine tillH_take (i := 5) (oi := ?oo6) (v := ?vv6) ?hi6 (by kernel_rfl) (by kernel_rfl) (by kernel_rfl) ?hq6 (by kernel_rfl) (by kernel_rfl) (by kernel_rfl) ?hy6 S0 ?hh6
  case hi6 => (simp only [List.getElem?_toArray, List.getElem?_cons_succ, List.getElem?_cons_zero]; rfl)
  case hq6 => exact fun _ _ _ h => h
  case hy6 => exact Or.inl ⟨by rfl, by (intro W hSw; (try obtain ⟨s0, ⟨s1, s2, s3⟩, ⟨s4, s5, s6⟩⟩ := hSw); go_simp; (try with_reducible rfl))⟩
  (try simp only [Act.put, List.setIfInBounds_toArray, List.set_cons_zero, List.set_cons_succ])
  refine tillH_takeAny (i := 6) (oi := ?oo7) (v := ?vv7) ?hi7 (by kernel_rfl) (by kernel_rfl) (by kernel_rfl) ?hq7 (by kernel_rfl) ?hy7 (fun _ => S0) ?hh7
  case hi7 => (simp only [List.getElem?_toArray, List.getElem?_cons_succ, List.getElem?_cons_zero]; rfl)
  case hq7 => exact fun _ _ _ h => h
  case hy7 => exact Or.inl ⟨by rfl, by (intro W; go_simp; (try with_reducible rfl))⟩
  (try simp only [Act.put, List.setIfInBounds_toArray, List.set_cons_zero, List.set_cons_succ])
  refine tillH_next (rs := [7]) (by kernel_rfl) (by simp) ?_
  refine NextH.cons rfl (fun K hK => ?_) NextH.nil
  go_simp
  refine (Go.Proofs.YtmimnaaofpkndaaDoor.put_any T o.A [] Ot (k1, k2, k3) (v1, v2, v3) f E (HIO.out.1.below HBD.out).tab (ks_size HIO.out.2.2.1) HC.out.2 (by simp)).mono ?_
  rintro e w6 ⟨rfl, hT6, u6⟩
  have HF6 := Lib.hid (LieO.tabbed (HIO.out.1.below HBD.out) hT6 u6 HBD.out)
  clear S0
  refine hK.out _ _ (fun h => absurd h (by simp)) ?_
  clear hK K
  (try simp only [Act.put, List.setIfInBounds_toArray, List.set_cons_zero, List.set_cons_succ])
  refine tillH_done (by kernel_rfl) ?_ _
  refine HKV.out _ _ ?_
  go_wp2
  go_ret
  exact ⟨rfl, HF6.out⟩
end Go.Proofs.YtmimnaaofpkndaaDoor.Hp

/- HeapRuns: Define, of a place of an array. -/
set_option linter.unusedVariables false
set_option linter.unusedSimpArgs false
namespace Go.Proofs.YtmimnaaofpkndaaDoor.Hp
open Go.RowKit Go.Proofs.YtmimnaaofpkndaaDoor Go.Shelf
attribute [local go_sem] Oper.semAt_some
theorem LieO.arrS {o : PO} {b T : Nat} {lv lv' : Value} {Ot : Nat → Prop} {w w' : World} {L' : List K3} (h : LieO o b T lv Ot w) (ha : o.arr = true) (hs : G.ArrS (o.pr : Int) o.clo w w' b T 1 lv lv' L') : Left o b T lv Ot w { o with L := L' } w' := by
  have hM : ∀ k, Ot k → ¬ (k = b ∨ lv.ownBlock = some k) := fun k hk e => e.elim (fun e => h.nb (e ▸ hk)) (fun e => h.nl k e hk)
  refine ⟨hs.up.mono (fun k _ e => e.imp id .inl), lv', Ot, ⟨?_, hs.ar.row, h.tab.upd hs.up hM, h.nb, fun g hg e => ?_, fun k hk => Nat.lt_of_lt_of_le (h.lt k hk) hs.up.size⟩, ?_⟩
  · have h1 := hs.ar.ob
    have e1 : clV { o with L := L' } = 1 := if_pos ha
    have e2 : atV { o with L := L' } = if o.clo = true then 1 else 0 := by unfold atV; simp [ha]
    rw [e1, e2]
    exact h1
  · exact (hs.nw g hg).elim (fun e2 => h.nl g e2 e) (fun e2 => by have := h.lt g e; omega)
  · rintro k (e | e | e)
    · exact .inl (.inl e)
    · exact (hs.nw k e).imp (fun e => .inr (.inl e)) id
    · exact .inl (.inr (.inr e))
set_option maxRecDepth 100000 in
set_option maxHeartbeats 8000000 in
/-- Define, of a place of an array. -/
theorem define_plc {o : PO} {b T : Nat} {lv : Value} {Ot : Nat → Prop} {w : World} {k v : K3} {f : Int} (h : LieO o b T lv Ot w) (hO : o.Ok) (hk : KS k) (hLg : Lg w) (i : Nat) (hno : (((!(o.own k).2.2) && o.clo) || ((o.own k).2.2 && refuse (o.own k).2.1 f)) = false) (ha : o.arr = true) (hp : plcV k = (i : Int)) (hi13 : i < 13) :
    Calls Tryd.prog 12 #[.pointer (some ⟨b, 0, none⟩), VK k, VK v, .int .i64 f] w fun e w' => (f = 7 ∧ e = .returned (.bool true) ∧ ∃ lv', G.ArrS (o.pr : Int) o.clo w w' b T 1 lv lv' ((o.L ++ List.replicate (i + 1 - o.L.length) E0).set i v)) ∨ (f ≠ 7 ∧ e = .returned (.bool false) ∧ Below w.heap.size w w') := by
  have hidx : ∀ W, Below w.heap.size w W → Calls Tryd.prog 42 #[.pointer (some ⟨b, 0, none⟩), VK k] W fun e w' => e = .returned (.int .i64 (i : Int)) ∧ Below W.heap.size W w' := fun W bW => by
    have := ix_io (h.below bW) hk
    rw [show o.ix k = (i : Int) by unfold PO.ix; rw [if_pos ha, hp]] at this
    exact this
  obtain ⟨i0, hi, hz0, hz1, hz2⟩ := info_parts infoVal
  have HZ := Lib.hid (And.intro hi (And.intro hz0 (And.intro hz1 hz2)))
  have HNO := Lib.hid hno
  have HA := Lib.hid (And.intro (h.arrE ha) (And.intro h.ob.lt h.row.lt))
  have hL := hO.le
  clear hno ha hp hi hz0 hz1 hz2
  have HIO := Lib.hid (And.intro h (And.intro hO (And.intro hk hLg)))
  have HI := Lib.hid hidx
  obtain ⟨⟨g1, g2, g3⟩, gf, gb, hg⟩ : ∃ (gv : K3) (gf : Int) (gb : Bool), o.own k = (gv, gf, gb) := ⟨_, _, _, rfl⟩
  have hown : ∀ W, Below w.heap.size w W → Calls Tryd.prog 18 #[.pointer (some ⟨b, 0, none⟩), VK k] W fun e w' => e = .returned (.tuple #[VS g1 g2 g3, .int .i64 gf, .bool gb]) ∧ Below W.heap.size W w' := fun W bW => by
    have := own_io (HIO.out.1.below bW) HIO.out.2.1 HIO.out.2.2.1 (HIO.out.2.2.2.below bW)
    rw [hg] at this
    exact this
  have HOW := Lib.hid hown
  have HG := Lib.hid hg
  obtain ⟨k1, k2, k3⟩ := k
  obtain ⟨v1, v2, v3⟩ := v
  have HB := Lib.hid (two_boxes w k1 k2 k3 v1 v2 v3)
  clear h hO hk hLg hidx hown hg
  go_enter Tryd.func12, Tryd.ntmps12
  go_wp2_with (fail)
  refine (HOW.out _ HB.out.1).mono ?_
  rintro e w2 ⟨rfl, b2⟩
  obtain ⟨b1, kb, vb⟩ := HB.out
  have b23 : Below w2.heap.size w2 (w2.alloc (.cells #[.int .i64 g1, .int .i64 g2, .string g3] 34)) := (Below.refl _ _).alloc (Nat.le_refl _) _
  have HB3 := Lib.hid (And.intro ((b1.trans (b2.mono b1.size)).trans (b23.mono (Nat.le_trans b1.size b2.size))) (And.intro ((kb.below b2 kb.lt).below b23 (Nat.lt_of_lt_of_le kb.lt b2.size)) ((vb.below b2 vb.lt).below b23 (Nat.lt_of_lt_of_le vb.lt b2.size))))
  clear b1 kb vb b2 b23 HB HOW
  go_upto_region 2 with fail
  generalize (w2.alloc (.cells #[.int .i64 g1, .int .i64 g2, .string g3] 34)) = w3 at *
  generalize w2.heap.size = q2 at *
  have c2 : w3.cell? ⟨b, 2, none⟩ = some (.bool o.clo) := by rw [(HIO.out.1.below HB3.out.1).ob.cell]; rfl
  have lo := (HIO.out.1.below HB3.out.1).ob.lt
  obtain ⟨cl, hcl⟩ : ∃ c, o.clo = c := ⟨_, rfl⟩
  rw [hcl] at c2
  have HCL := Lib.hid hcl
  clear hcl
  go_cut [27] (fun s27 wx => s27 = .bool (!gb && cl) ∧ w3 = wx)
  case first =>
    cases gb with
    | true =>
      go_wp2_with fail
      go_meet
      exact ⟨rfl, rfl⟩
    | false =>
      go_wp2_with fail
      go_meet
      exact ⟨rfl, rfl⟩
  case rest =>
  obtain ⟨rfl, rfl⟩ := hcut
  have hno := HNO.out
  rw [HG.out, HCL.out] at hno
  dsimp only at hno
  have hx : (!gb && cl) = false := by cases gb <;> cases cl <;> simp at hno ⊢
  have HNN := Lib.hid hno
  clear hno HNO c2
  rw [hx]
  clear hx
  go_upto_region 4 with fail
  obtain ⟨c1, hc1⟩ : ∃ c, (bits .and .i64 gf 4 == 0) = c := ⟨_, rfl⟩
  obtain ⟨c2', hc2⟩ : ∃ c, (bits .and .i64 gf 1 == 0) = c := ⟨_, rfl⟩
  obtain ⟨c3, hc3⟩ : ∃ c, (bits .andNot .i64 f 1 != bits .andNot .i64 gf 1) = c := ⟨_, rfl⟩
  have hrf : refuse gf f = (c1 && (c2' || c3)) := by rw [refuse_eq, hc1, hc2, hc3]
  have HRF := Lib.hid hrf
  clear hrf
  go_cut [45] (fun s45 wx => s45 = .bool (gb && (c1 && (c2' || c3))) ∧ w3 = wx)
  case first =>
    cases gb with
    | false =>
      clear hc1 hc2 hc3
      go_wp2_with fail
      go_meet
      exact ⟨rfl, rfl⟩
    | true =>
      cases c1 with
      | false =>
        clear hc2 hc3
        go_wp2_with fail
        go_meet
        exact ⟨rfl, rfl⟩
      | true =>
        cases c2' with
        | true =>
          clear hc3
          go_wp2_with fail
          go_meet
          exact ⟨rfl, rfl⟩
        | false =>
          go_wp2_with fail
          go_meet
          exact ⟨rfl, rfl⟩
  case rest =>
  obtain ⟨rfl, rfl⟩ := hcut
  clear hc1 hc2 hc3
  have hy : (gb && (c1 && (c2' || c3))) = false := by
    have := HNN.out
    rw [HRF.out] at this
    cases gb <;> simp at this ⊢
    exact this
  clear HNN HRF
  rw [hy]
  clear hy lo
  have p0 : w3.cell? ⟨w.heap.size, 0, none⟩ = some (.int .i64 k1) := by rw [HB3.out.2.1.cell]; rfl
  have p1 : w3.cell? ⟨w.heap.size, 1, none⟩ = some (.int .i64 k2) := by rw [HB3.out.2.1.cell]; rfl
  have p2 : w3.cell? ⟨w.heap.size, 2, none⟩ = some (.string k3) := by rw [HB3.out.2.1.cell]; rfl
  have pl := HB3.out.2.1.lt
  go_wp2_with fail
  refine (HI.out w3 HB3.out.1).mono ?_
  rintro e w4 ⟨rfl, b4⟩
  have HB4 := Lib.hid (And.intro (HB3.out.1.trans (b4.mono HB3.out.1.size)) (And.intro (HB3.out.2.1.below b4 HB3.out.2.1.lt) (HB3.out.2.2.below b4 HB3.out.2.2.lt)))
  clear HB3 b4 HI p0 p1 p2 pl
  have t1 : decide ((0 : Int) ≤ (i : Int)) = true := by simp
  clear HIO HG HCL
  by_cases h7 : f = 7
  · obtain rfl := h7
    obtain ⟨b04, _, vb4⟩ := HB4.out
    have hS0 := G.ArrS.refl (HA.out.1.below b04)
    have hpw : w.heap.size + 1 < w4.heap.size := vb4.lt
    have hbl0 := HA.out.2.1
    have hrlt := HA.out.2.2
    obtain ⟨hi, hz0, hz1, hz2⟩ := HZ.out
    have hi9 : i < 1000 := by omega
    have HB4' := Lib.hid (And.intro b04 (And.intro vb4 hS0))
    clear vb4 HB4 hS0 HA HZ b04
    have HB4 := HB4'
    clear HB4'
    generalize hp : w.heap.size = p at *
    have hBp : 1 ≤ p := by omega
    go_wp2_with (fail)
    go_loopw [] (fun wr => ∃ (m : Nat) (lv' : Value), m ≤ i + 1 - o.L.length ∧ Hid (G.ArrS (o.pr : Int) o.clo w4 wr b T 1 lv lv' (o.L ++ List.replicate m E0))) (fun wr => i + 1 - lenAt b wr)
    case atStart => exact ⟨0, lv, Nat.zero_le _, Lib.hid (by simpa using HB4.out.2.2)⟩
    case round =>
      obtain ⟨m, lv', hm, HS⟩ := hrel
      obtain ⟨n, hn⟩ : ∃ n, (o.L ++ List.replicate m E0).length = n := ⟨_, rfl⟩
      have hnm : o.L.length + m = n := by rw [← hn]; simp
      have hrow := HS.out.ar.row
      obtain ⟨la, lcap, rfl, hla⟩ := own_shape hrow
      have x4 : wr.cell? ⟨b, 4, none⟩ = some (.slice la n lcap) := by rw [HS.out.ar.ob.cell, ← hn]; rfl
      have z4 := HS.out.ar.ob.frozen 4
      have hbl := HS.out.ar.ob.lt
      have hlen := lenAt_of x4
      have HS1 : Hid (G.ArrS (o.pr : Int) o.clo w4 wr b T 1 lv (.slice la n lcap) (o.L ++ List.replicate m E0)) := Lib.hid (by rw [← hn]; exact HS.out)
      clear HS
      rw [hn] at hrow
      by_cases hlt : n ≤ i
      · have t3 : decide ((n : Int) ≤ (i : Int)) = true := by simp; omega
        have hBw : 1 ≤ wr.heap.size := by have := HS1.out.up.size; omega
        have HR := Lib.hid (And.intro hn (And.intro hnm (And.intro hlen hrow)))
        clear hn hla hlen
        go_wp2_with (at_builtin; refine wpList_append_lies _ rfl _ _ 45 rfl 1 34 i0 _ 3 32 Tryd.underlying45 hi hz0 hz1 hz2 rfl (by decide) _ _ _ rfl (hrow.alloc _) ⟨wr.heap.size, 0, none⟩ 1 1 [.int .i64 10, .int .i64 0, .string ⟨#[]⟩] rfl rfl (World.news_of_block (cs := #[.int .i64 10, .int .i64 0, .string ⟨#[]⟩]) (t := 34) (fr := (0, 0)) (heap_alloc_new wr _)) (by simp [Value.oneCell']) (by decide) (by unfold maxLen; omega) (by omega) (by first | (simp; done) | (simp; omega)) _ rfl ?_)
        intro gg capg w8 hown8 hgrow8 hat8 hlt8
        have hS8 := HS1.out.more E0 HR.out.1 hgrow8 hown8 (hat8.imp id (fun e => by omega))
        have hb8 := (HS1.out.ar.ob.alloc _).grown hgrow8 (fun e => HS1.out.ar.far e.symm)
        have x8 : w8.cell? ⟨b, 4, none⟩ = some (.slice la n lcap) := by rw [hb8.cell]; rfl
        have z8 := hb8.frozen 4
        have l8 := hb8.lt
        have HF := Lib.hid hS8
        clear hS8 hb8 hown8 hgrow8 hat8 hlt8 HS1 hrow z4 x4
        go_wp2_with fail
        go_roundw
        case rel => exact ⟨m + 1, _, by omega, Lib.hid (by rw [List.replicate_succ', ← List.append_assoc]; exact HF.out)⟩
        case measure =>
          have h1 : lenAt b (w8.setCell ⟨b, 4, none⟩ (.slice (some ⟨gg, 0, none⟩) (n + 1) capg)) = n + 1 := lenAt_of (by rw [HF.out.ar.ob.cell]; rfl)
          rw [h1, HR.out.2.2.1]
          omega
      · have t3 : decide ((n : Int) ≤ (i : Int)) = false := by simp; omega
        obtain rfl : m = i + 1 - o.L.length := by omega
        obtain ⟨g, rfl⟩ := hla (by omega)
        have hcp := own_cap hrow
        have z0 : (0 : Int) ≤ (i : Int) := by omega
        have z1 : (i : Int) < (n : Int) := by omega
        have hne : p + 1 ≠ g := fun e => by
          rcases HS1.out.nw g rfl with h | h
          · have := (hrlt g h).2; omega
          · omega
        have hfin : ∀ W, W = wr.drewN 1 → G.ArrS (o.pr : Int) o.clo w4 (((W.setCell ⟨g, i * 3, none⟩ (.int .i64 v1)).setCell ⟨g, i * 3 + 1, none⟩ (.int .i64 v2)).setCell ⟨g, i * 3 + 2, none⟩ (.string v3)) b T 1 lv (.slice (some ⟨g, 0, none⟩) n lcap) ((o.L ++ List.replicate (i + 1 - o.L.length) E0).set i (v1, v2, v3)) := by
          rintro W rfl
          exact (HS1.out.below (below_drw (Below.refl _ _) 1)).setE (v1, v2, v3) hn (by omega)
        have hx : ∀ W, W = wr.drewN 1 → Blk W b 51 (objA 1 (o.pr : Int) o.clo T (.slice (some ⟨g, 0, none⟩) n lcap) nilP nilP nilS (if o.clo = true then 1 else 0)) ∧ Blk W (p + 1) 34 #[.int .i64 v1, .int .i64 v2, .string v3] ∧ W.ownsRow 1 34 3 (.slice (some ⟨g, 0, none⟩) n lcap) n (valsC (o.L ++ List.replicate (i + 1 - o.L.length) E0)) := by
          rintro W rfl
          refine ⟨HS1.out.ar.ob, ?_, hrow⟩
          exact HS1.out.up.blk HB4.out.2.1 (fun e => e.elim (fun e => by omega) (fun e => by have := (hrlt _ e).2; omega))
        have HF := Lib.hid hfin
        have HX2 := Lib.hid hx
        have hlv : (valsC (o.L ++ List.replicate (i + 1 - o.L.length) E0)).length = n * 3 := by rw [valsC_length, hn]
        clear hfin hx z4 hlen hrow hla hcp HS1
        go_upto_region 12 with fail
        clear x4 hbl
        refine still_tail 7 (by kernel_rfl) (by kernel_rfl) (fun W2 hW2 => ?_)
        obtain ⟨hb2, hv2, hr2⟩ := HX2.out W2 hW2
        have HR := Lib.hid (HF.out W2 hW2)
        have x2 : W2.cell? ⟨b, 4, none⟩ = some (.slice (some ⟨g, 0, none⟩) n lcap) := by rw [hb2.cell]; rfl
        have l2 := hb2.lt
        have q0 : W2.cell? ⟨p + 1, 0, none⟩ = some (.int .i64 v1) := by rw [hv2.cell]; rfl
        have q1 : W2.cell? ⟨p + 1, 1, none⟩ = some (.int .i64 v2) := by rw [hv2.cell]; rfl
        have q2 : W2.cell? ⟨p + 1, 2, none⟩ = some (.string v3) := by rw [hv2.cell]; rfl
        obtain ⟨u0, e0⟩ : ∃ u, W2.cell? ⟨g, i * 3, none⟩ = some u := ⟨_, (hr2.cellAt (i * 3) (by omega)).trans (List.getElem?_eq_getElem (by rw [hlv]; omega))⟩
        obtain ⟨u1, e1⟩ : ∃ u, W2.cell? ⟨g, i * 3 + 1, none⟩ = some u := ⟨_, (hr2.cellAt (i * 3 + 1) (by omega)).trans (List.getElem?_eq_getElem (by rw [hlv]; omega))⟩
        obtain ⟨u2, e2⟩ : ∃ u, W2.cell? ⟨g, i * 3 + 2, none⟩ = some u := ⟨_, (hr2.cellAt (i * 3 + 2) (by omega)).trans (List.getElem?_eq_getElem (by rw [hlv]; omega))⟩
        have f0 := hr2.frozenAt (i * 3)
        have f1 := hr2.frozenAt (i * 3 + 1)
        have f2 := hr2.frozenAt (i * 3 + 2)
        have lg := World.block_lt_of_cell? W2 _ e0
        have HBB := Lib.hid HB4.out.1
        have HPP := Lib.hid hp
        clear hW2 hb2 hv2 hr2 HX2 HF hlv HB4 hp
        simp only [List.take_succ_cons, List.take_zero, List.drop_succ_cons, List.drop_zero]
        repeat still_step
        refine wpStill_nil ?_
        go_wp2
        go_ret
        exact ⟨rfl, _, HR.out.from (by rw [HPP.out]; exact HBB.out)⟩
  · have t7 : (f != 7) = true := by simpa using h7
    have HF := Lib.hid h7
    clear HA HZ h7
    go_wp2
    go_ret
    exact .inr ⟨HF.out, rfl, HB4.out.1⟩
end Go.Proofs.YtmimnaaofpkndaaDoor.Hp
