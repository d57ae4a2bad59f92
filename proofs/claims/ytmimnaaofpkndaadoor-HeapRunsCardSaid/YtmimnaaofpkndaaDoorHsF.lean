/- HsF: several texts in one. -/
import Derived.Test.YtmimnaaofpkndaaDoorHsD
/- HeapRuns: the document's Own. -/
set_option linter.unusedVariables false
set_option linter.unusedSimpArgs false
namespace Go.Proofs.YtmimnaaofpkndaaDoor.Hp
open Go.RowKit Go.Proofs.YtmimnaaofpkndaaDoor Go.Shelf
attribute [local go_sem] Oper.semAt_some
/-- A property's value. -/
abbrev PV (k v : K3) (f : Int) : Value := .agg #[.int .i64 k.1, .int .i64 k.2.1, .string k.2.2, .int .i64 v.1, .int .i64 v.2.1, .string v.2.2, .int .i64 f]
def rkey (o : PO) (k : K3) : K3 := if (o.own k).2.2 = true then k else z3
theorem store7 {B : Nat} {w W : World} {r : Nat} (h : Below B w W) (hr : B ≤ r) (a b c d e f g : Value) : Below B w (((((((W.setCell ⟨r, 0, none⟩ a).setCell ⟨r, 1, none⟩ b).setCell ⟨r, 2, none⟩ c).setCell ⟨r, 3, none⟩ d).setCell ⟨r, 4, none⟩ e).setCell ⟨r, 5, none⟩ f).setCell ⟨r, 6, none⟩ g) :=
  ((((((h.setCell (p := ⟨r, 0, none⟩) hr _).setCell (p := ⟨r, 1, none⟩) hr _).setCell (p := ⟨r, 2, none⟩) hr _).setCell (p := ⟨r, 3, none⟩) hr _).setCell (p := ⟨r, 4, none⟩) hr _).setCell (p := ⟨r, 5, none⟩) hr _).setCell (p := ⟨r, 6, none⟩) hr _
/-- The key's box, and the result's. -/
theorem own_boxes (w : World) (k1 k2 : Int) (k3 : ByteArray) : Below w.heap.size w ((w.alloc (.cells #[.int .i64 k1, .int .i64 k2, .string k3] 34)).alloc (.cells #[.int .i64 0, .int .i64 0, .string ⟨#[]⟩, .int .i64 0, .int .i64 0, .string ⟨#[]⟩, .int .i64 0] 127)) ∧
    Blk ((w.alloc (.cells #[.int .i64 k1, .int .i64 k2, .string k3] 34)).alloc (.cells #[.int .i64 0, .int .i64 0, .string ⟨#[]⟩, .int .i64 0, .int .i64 0, .string ⟨#[]⟩, .int .i64 0] 127)) w.heap.size 34 #[.int .i64 k1, .int .i64 k2, .string k3] ∧
    Blk ((w.alloc (.cells #[.int .i64 k1, .int .i64 k2, .string k3] 34)).alloc (.cells #[.int .i64 0, .int .i64 0, .string ⟨#[]⟩, .int .i64 0, .int .i64 0, .string ⟨#[]⟩, .int .i64 0] 127)) (w.heap.size + 1) 127 #[.int .i64 0, .int .i64 0, .string ⟨#[]⟩, .int .i64 0, .int .i64 0, .string ⟨#[]⟩, .int .i64 0] := by
  refine ⟨((Below.refl _ _).alloc (Nat.le_refl _) _).alloc (by simp) _, (Blk.new w _ _).alloc _, ?_⟩
  have := Blk.new (w.alloc (.cells #[.int .i64 k1, .int .i64 k2, .string k3] 34)) 127 #[.int .i64 0, .int .i64 0, .string ⟨#[]⟩, .int .i64 0, .int .i64 0, .string ⟨#[]⟩, .int .i64 0]
  rwa [World.size_alloc] at this
set_option maxRecDepth 100000 in
set_option maxHeartbeats 8000000 in
/-- Own, of a place of an array. -/
theorem rown_plc {o : PO} {q : Nat} {pv ev : Value} {k : K3} {w : World} (h : RO o q pv ev w) (hO : o.Ok) (hk : KS k) (ha : o.arr = true) (i : Nat) (hp : plcV k = (i : Int)) :
    Calls Tryd.prog 62 #[.pointer (some ⟨q, 0, none⟩), VK k] w fun e w' => e = .returned (.tuple #[PV (rkey o k) (o.own k).1 (o.own k).2.1, .bool (o.own k).2.2]) ∧ Below w.heap.size w w' := by
  have HA := Lib.hid (And.intro ha hp)
  clear ha hp
  obtain ⟨pl, hpl⟩ : ∃ x, plcV k = x := ⟨_, rfl⟩
  have hP : ∀ W, Calls Tryd.prog 72 #[VK k] W fun e w' => e = .returned (.int .i64 pl) ∧ Below W.heap.size W w' := fun W => by
    have := place_any hk W
    rwa [hpl] at this
  have HP := Lib.hid hP
  have HPL := Lib.hid hpl
  have HH := Lib.hid (And.intro h (And.intro hO hk))
  obtain ⟨k1, k2, k3⟩ := k
  have HB := Lib.hid (own_boxes w k1 k2 k3)
  clear h hO hk hpl hP
  go_enter Tryd.func62, Tryd.ntmps62
  go_wp2_with fail
  refine (HP.out _).mono ?_
  rintro e w2 ⟨rfl, b2⟩
  obtain ⟨b1, kb, rb⟩ := HB.out
  have HB2 := Lib.hid (And.intro (b1.trans (b2.mono b1.size)) (And.intro (kb.below b2 kb.lt) (rb.below b2 rb.lt)))
  clear b1 kb rb b2 HB HP
  go_upto_region 2 with fail
  have hR := HH.out.1.below HB2.out.1
  obtain ⟨ar, har⟩ : ∃ a, o.arr = a := ⟨_, rfl⟩
  obtain ⟨cl, hcl⟩ : ∃ a, o.clo = a := ⟨_, rfl⟩
  have x0 : w2.cell? ⟨q, 0, none⟩ = some (.bool ar) := by rw [hR.ob.cell, ← har]; rfl
  have x2 : w2.cell? ⟨q, 2, none⟩ = some (.bool cl) := by rw [hR.ob.cell, ← hcl]; rfl
  have lq := hR.ob.lt
  have HAC := Lib.hid (And.intro har hcl)
  clear har hcl
  obtain rfl : (i : Int) = pl := by rw [← HPL.out]; exact HA.out.2.symm
  obtain rfl : true = ar := by rw [← HAC.out.1]; exact HA.out.1.symm
  have t1 : decide ((0 : Int) ≤ (i : Int)) = true := by simp
  obtain ⟨n, hn⟩ : ∃ n, o.L.length = n := ⟨_, rfl⟩
  have hrow := hR.re
  rw [hn] at hrow
  obtain ⟨ea, ecap, hev, hea⟩ := own_shape hrow
  have x5 : w2.cell? ⟨q, 5, none⟩ = some (.slice ea n ecap) := by rw [hR.ob.cell, ← hev]; rfl
  have hL40 := HH.out.2.1.le
  rw [hn] at hL40
  have HN := Lib.hid hn
  have hown : ∀ x, o.L[i]? = x → o.own (k1, k2, k3) = match x with | some x => if x.1 = 10 then (z3, 0, false) else (x, if cl then 2 else 7, true) | none => (z3, 0, false) := by
    rintro x rfl
    unfold PO.own
    rw [if_pos HA.out.1, if_pos (by rw [HA.out.2]; omega), show (plcV (k1, k2, k3)).toNat = i by rw [HA.out.2]; omega, HAC.out.2]
    cases o.L[i]? with
    | none => rfl
    | some x => rfl
  have HOW := Lib.hid hown
  clear hown
  by_cases hlt : i < n
  · have t2 : decide ((n : Int) ≤ (i : Int)) = false := by rw [decide_eq_false_iff_not]; omega
    obtain ⟨g, rfl⟩ := hea (by omega)
    have hil : i < o.L.length := by omega
    obtain ⟨x, hx⟩ : ∃ x, o.L[i] = x := ⟨_, rfl⟩
    have hxi : o.L[i]? = some x := by rw [← hx]; exact List.getElem?_eq_getElem hil
    obtain ⟨xx1, xx2, xx3⟩ := x
    have hoe : ∀ W, Below w2.heap.size w2 W → W.ownsRow 1 34 3 (.slice (some ⟨g, 0, none⟩) n ecap) o.L.length (valsC o.L) := fun W bW => by
      have := (hR.below bW).re
      rwa [hev] at this
    have HOE := Lib.hid hoe
    have c0 : w2.cell? ⟨g, i * 3, none⟩ = some (.int .i64 xx1) := own_elem (HOE.out _ (Below.refl _ _)) i _ hxi 0 (by decide)
    have HX := Lib.hid hxi
    have zz0 : (0 : Int) ≤ (i : Int) := by omega
    have zz1 : (i : Int) < (n : Int) := by omega
    clear hxi hx hil hrow hea hn
    by_cases h10 : xx1 = 10
    · subst h10
      have hval := HOW.out _ HX.out
      have hval2 : o.own (k1, k2, k3) = (z3, 0, false) := hval.trans (if_pos rfl)
      have HV := Lib.hid hval2
      clear hval hval2 hR hoe hev
      have y0 : w2.cell? ⟨w.heap.size + 1, 0, none⟩ = some (.int .i64 0) := by rw [HB2.out.2.2.cell]; rfl
      have y1 : w2.cell? ⟨w.heap.size + 1, 1, none⟩ = some (.int .i64 0) := by rw [HB2.out.2.2.cell]; rfl
      have y2 : w2.cell? ⟨w.heap.size + 1, 2, none⟩ = some (.string ⟨#[]⟩) := by rw [HB2.out.2.2.cell]; rfl
      have y3 : w2.cell? ⟨w.heap.size + 1, 3, none⟩ = some (.int .i64 0) := by rw [HB2.out.2.2.cell]; rfl
      have y4 : w2.cell? ⟨w.heap.size + 1, 4, none⟩ = some (.int .i64 0) := by rw [HB2.out.2.2.cell]; rfl
      have y5 : w2.cell? ⟨w.heap.size + 1, 5, none⟩ = some (.string ⟨#[]⟩) := by rw [HB2.out.2.2.cell]; rfl
      have y6 : w2.cell? ⟨w.heap.size + 1, 6, none⟩ = some (.int .i64 0) := by rw [HB2.out.2.2.cell]; rfl
      have fz0 := HB2.out.2.2.frozen 0
      have fz1 := HB2.out.2.2.frozen 1
      have fz2 := HB2.out.2.2.frozen 2
      have fz3 := HB2.out.2.2.frozen 3
      have fz4 := HB2.out.2.2.frozen 4
      have fz5 := HB2.out.2.2.frozen 5
      have fz6 := HB2.out.2.2.frozen 6
      have lr := HB2.out.2.2.lt
      go_wp2
      refine bodyPost_ret (v := .tuple #[PV z3 z3 0, .bool false]) (by simp [results, Tryd.results62, go_sem, y0, y1, y2, y3, y4, y5, y6, fz0, fz1, fz2, fz3, fz4, fz5, fz6, lr]) rfl ⟨by rw [show rkey o (k1, k2, k3) = z3 by unfold rkey; rw [HV.out]; rfl, HV.out], ?_⟩
      exact store7 HB2.out.1 (by simp) _ _ _ _ _ _ _
    · have t3 : (xx1 == 10) = false := by simpa using h10
      have hval := HOW.out _ HX.out
      have hval2 : o.own (k1, k2, k3) = ((xx1, xx2, xx3), if cl then 2 else 7, true) := hval.trans (if_neg h10)
      have HV := Lib.hid hval2
      have hwd : ∀ W, W = w2.drewN 1 → Below w2.heap.size w2 W := by rintro W rfl; exact below_drw (Below.refl _ _) 1
      have HWD := Lib.hid hwd
      have hH2 := Lib.hid hR
      have HEV := Lib.hid hev
      clear hval hval2 hR h10 hoe hev hwd
      cases cl with
      | true =>
        go_upto_region 8 with fail
        clear x0 x2 x5 c0
        refine still_tail 10 (by kernel_rfl) (by kernel_rfl) (fun W2 hW2 => ?_)
        have bw := HWD.out W2 hW2
        have hR2 := hH2.out.below bw
        have kb2 := HB2.out.2.1.below bw HB2.out.2.1.lt
        have rb2 := HB2.out.2.2.below bw HB2.out.2.2.lt
        have hro := HOE.out W2 bw
        have x5 : W2.cell? ⟨q, 5, none⟩ = some (.slice (some ⟨g, 0, none⟩) n ecap) := by rw [hR2.ob.cell, ← HEV.out]; rfl
        have lq2 := hR2.ob.lt
        have e0 : W2.cell? ⟨g, i * 3, none⟩ = some (.int .i64 xx1) := own_elem hro i _ HX.out 0 (by decide)
        have e1 : W2.cell? ⟨g, i * 3 + 1, none⟩ = some (.int .i64 xx2) := own_elem hro i _ HX.out 1 (by decide)
        have e2 : W2.cell? ⟨g, i * 3 + 2, none⟩ = some (.string xx3) := own_elem hro i _ HX.out 2 (by decide)
        have p0 : W2.cell? ⟨w.heap.size, 0, none⟩ = some (.int .i64 k1) := by rw [kb2.cell]; rfl
        have p1 : W2.cell? ⟨w.heap.size, 1, none⟩ = some (.int .i64 k2) := by rw [kb2.cell]; rfl
        have p2 : W2.cell? ⟨w.heap.size, 2, none⟩ = some (.string k3) := by rw [kb2.cell]; rfl
        have y0 : W2.cell? ⟨w.heap.size + 1, 0, none⟩ = some (.int .i64 0) := by rw [rb2.cell]; rfl
        have y1 : W2.cell? ⟨w.heap.size + 1, 1, none⟩ = some (.int .i64 0) := by rw [rb2.cell]; rfl
        have y2 : W2.cell? ⟨w.heap.size + 1, 2, none⟩ = some (.string ⟨#[]⟩) := by rw [rb2.cell]; rfl
        have y3 : W2.cell? ⟨w.heap.size + 1, 3, none⟩ = some (.int .i64 0) := by rw [rb2.cell]; rfl
        have y4 : W2.cell? ⟨w.heap.size + 1, 4, none⟩ = some (.int .i64 0) := by rw [rb2.cell]; rfl
        have y5 : W2.cell? ⟨w.heap.size + 1, 5, none⟩ = some (.string ⟨#[]⟩) := by rw [rb2.cell]; rfl
        have y6 : W2.cell? ⟨w.heap.size + 1, 6, none⟩ = some (.int .i64 0) := by rw [rb2.cell]; rfl
        have fz0 := rb2.frozen 0
        have fz1 := rb2.frozen 1
        have fz2 := rb2.frozen 2
        have fz3 := rb2.frozen 3
        have fz4 := rb2.frozen 4
        have fz5 := rb2.frozen 5
        have fz6 := rb2.frozen 6
        have lr := rb2.lt
        have HB3 := Lib.hid (HB2.out.1.trans (bw.mono HB2.out.1.size))
        clear hR2 kb2 rb2 hro bw hW2
        simp only [List.take_succ_cons, List.take_zero, List.drop_succ_cons, List.drop_zero]
        repeat still_step
        refine wpStill_nil ?_
        go_wp2
        refine bodyPost_ret (v := .tuple #[PV (k1, k2, k3) (xx1, xx2, xx3) 2, .bool true]) (by simp [results, Tryd.results62, go_sem, y0, y1, y2, y3, y4, y5, y6, fz0, fz1, fz2, fz3, fz4, fz5, fz6, lr]) rfl ⟨by rw [show rkey o (k1, k2, k3) = (k1, k2, k3) by unfold rkey; rw [HV.out]; rfl, HV.out]; rfl, ?_⟩
        exact store7 HB3.out (by simp) _ _ _ _ _ _ _
      | false =>
        go_upto_region 8 with fail
        clear x0 x2 x5 c0
        refine still_tail 10 (by kernel_rfl) (by kernel_rfl) (fun W2 hW2 => ?_)
        have bw := HWD.out W2 hW2
        have hR2 := hH2.out.below bw
        have kb2 := HB2.out.2.1.below bw HB2.out.2.1.lt
        have rb2 := HB2.out.2.2.below bw HB2.out.2.2.lt
        have hro := HOE.out W2 bw
        have x5 : W2.cell? ⟨q, 5, none⟩ = some (.slice (some ⟨g, 0, none⟩) n ecap) := by rw [hR2.ob.cell, ← HEV.out]; rfl
        have lq2 := hR2.ob.lt
        have e0 : W2.cell? ⟨g, i * 3, none⟩ = some (.int .i64 xx1) := own_elem hro i _ HX.out 0 (by decide)
        have e1 : W2.cell? ⟨g, i * 3 + 1, none⟩ = some (.int .i64 xx2) := own_elem hro i _ HX.out 1 (by decide)
        have e2 : W2.cell? ⟨g, i * 3 + 2, none⟩ = some (.string xx3) := own_elem hro i _ HX.out 2 (by decide)
        have p0 : W2.cell? ⟨w.heap.size, 0, none⟩ = some (.int .i64 k1) := by rw [kb2.cell]; rfl
        have p1 : W2.cell? ⟨w.heap.size, 1, none⟩ = some (.int .i64 k2) := by rw [kb2.cell]; rfl
        have p2 : W2.cell? ⟨w.heap.size, 2, none⟩ = some (.string k3) := by rw [kb2.cell]; rfl
        have y0 : W2.cell? ⟨w.heap.size + 1, 0, none⟩ = some (.int .i64 0) := by rw [rb2.cell]; rfl
        have y1 : W2.cell? ⟨w.heap.size + 1, 1, none⟩ = some (.int .i64 0) := by rw [rb2.cell]; rfl
        have y2 : W2.cell? ⟨w.heap.size + 1, 2, none⟩ = some (.string ⟨#[]⟩) := by rw [rb2.cell]; rfl
        have y3 : W2.cell? ⟨w.heap.size + 1, 3, none⟩ = some (.int .i64 0) := by rw [rb2.cell]; rfl
        have y4 : W2.cell? ⟨w.heap.size + 1, 4, none⟩ = some (.int .i64 0) := by rw [rb2.cell]; rfl
        have y5 : W2.cell? ⟨w.heap.size + 1, 5, none⟩ = some (.string ⟨#[]⟩) := by rw [rb2.cell]; rfl
        have y6 : W2.cell? ⟨w.heap.size + 1, 6, none⟩ = some (.int .i64 0) := by rw [rb2.cell]; rfl
        have fz0 := rb2.frozen 0
        have fz1 := rb2.frozen 1
        have fz2 := rb2.frozen 2
        have fz3 := rb2.frozen 3
        have fz4 := rb2.frozen 4
        have fz5 := rb2.frozen 5
        have fz6 := rb2.frozen 6
        have lr := rb2.lt
        have HB3 := Lib.hid (HB2.out.1.trans (bw.mono HB2.out.1.size))
        clear hR2 kb2 rb2 hro bw hW2
        simp only [List.take_succ_cons, List.take_zero, List.drop_succ_cons, List.drop_zero]
        repeat still_step
        refine wpStill_nil ?_
        go_wp2
        refine bodyPost_ret (v := .tuple #[PV (k1, k2, k3) (xx1, xx2, xx3) 7, .bool true]) (by simp [results, Tryd.results62, go_sem, y0, y1, y2, y3, y4, y5, y6, fz0, fz1, fz2, fz3, fz4, fz5, fz6, lr]) rfl ⟨by rw [show rkey o (k1, k2, k3) = (k1, k2, k3) by unfold rkey; rw [HV.out]; rfl, HV.out]; rfl, ?_⟩
        exact store7 HB3.out (by simp) _ _ _ _ _ _ _
  · have t2 : decide ((n : Int) ≤ (i : Int)) = true := by rw [decide_eq_true_eq]; omega
    have hval2 : o.own (k1, k2, k3) = (z3, 0, false) := HOW.out none (List.getElem?_eq_none (by have := HN.out; omega))
    have HV := Lib.hid hval2
    clear hval2 hR hrow hea hev hn
    have y0 : w2.cell? ⟨w.heap.size + 1, 0, none⟩ = some (.int .i64 0) := by rw [HB2.out.2.2.cell]; rfl
    have y1 : w2.cell? ⟨w.heap.size + 1, 1, none⟩ = some (.int .i64 0) := by rw [HB2.out.2.2.cell]; rfl
    have y2 : w2.cell? ⟨w.heap.size + 1, 2, none⟩ = some (.string ⟨#[]⟩) := by rw [HB2.out.2.2.cell]; rfl
    have y3 : w2.cell? ⟨w.heap.size + 1, 3, none⟩ = some (.int .i64 0) := by rw [HB2.out.2.2.cell]; rfl
    have y4 : w2.cell? ⟨w.heap.size + 1, 4, none⟩ = some (.int .i64 0) := by rw [HB2.out.2.2.cell]; rfl
    have y5 : w2.cell? ⟨w.heap.size + 1, 5, none⟩ = some (.string ⟨#[]⟩) := by rw [HB2.out.2.2.cell]; rfl
    have y6 : w2.cell? ⟨w.heap.size + 1, 6, none⟩ = some (.int .i64 0) := by rw [HB2.out.2.2.cell]; rfl
    have fz0 := HB2.out.2.2.frozen 0
    have fz1 := HB2.out.2.2.frozen 1
    have fz2 := HB2.out.2.2.frozen 2
    have fz3 := HB2.out.2.2.frozen 3
    have fz4 := HB2.out.2.2.frozen 4
    have fz5 := HB2.out.2.2.frozen 5
    have fz6 := HB2.out.2.2.frozen 6
    have lr := HB2.out.2.2.lt
    go_wp2
    refine bodyPost_ret (v := .tuple #[PV z3 z3 0, .bool false]) (by simp [results, Tryd.results62, go_sem, y0, y1, y2, y3, y4, y5, y6, fz0, fz1, fz2, fz3, fz4, fz5, fz6, lr]) rfl ⟨by rw [show rkey o (k1, k2, k3) = z3 by unfold rkey; rw [HV.out]; rfl, HV.out], ?_⟩
    exact store7 HB2.out.1 (by simp) _ _ _ _ _ _ _
end Go.Proofs.YtmimnaaofpkndaaDoor.Hp

/- HeapRuns: the document's Own, of any key. -/
set_option linter.unusedVariables false
set_option linter.unusedSimpArgs false
namespace Go.Proofs.YtmimnaaofpkndaaDoor.Hp
open Go.RowKit Go.Proofs.YtmimnaaofpkndaaDoor Go.Shelf Go.Sort
attribute [local go_sem] Oper.semAt_some
theorem getA_fnd {o : PO} {k : K3} (hO : o.Ok) (hk : KS k) : (fnd o.A k = -1 ∧ getA o.A k = (z3, 0, false)) ∨ ∃ (i : Nat) (x : Ent), o.A[i]? = some x ∧ x.key = k ∧ fnd o.A k = (i : Int) ∧ getA o.A k = (x.val, x.flags, true) := by
  unfold fnd fndI
  cases hf : o.A.findIdx? (fun x => decide (x.key = k)) with
  | none =>
    refine .inl ⟨rfl, getA_none (fun x hx => ?_)⟩
    rw [List.findIdx?_eq_none_iff] at hf
    rw [ks_isKey hk (hO.ks x hx).1 (hO.ks x hx).2.1]
    exact hf x hx
  | some i =>
    obtain ⟨hi, h1, -⟩ := List.findIdx?_eq_some_iff_getElem.1 hf
    have hk1 : o.A[i].key = k := by simpa using h1
    have hm := List.getElem_mem hi
    refine .inr ⟨i, o.A[i], List.getElem?_eq_getElem hi, hk1, rfl, getA_some hO hm ?_⟩
    rw [ks_isKey hk (hO.ks _ hm).1 (hO.ks _ hm).2.1, hk1]
    simp
/-- Own by the list, or the length. -/
def PO.isLen (o : PO) (k : K3) : Bool := o.arr && decide (k = lenK)
set_option maxRecDepth 100000 in
set_option maxHeartbeats 8000000 in
theorem rown_rest {o : PO} {q : Nat} {pv ev : Value} {k : K3} {w : World} (h : RO o q pv ev w) (hO : o.Ok) (hk : KS k) (hG : LG w) (hA : o.A.length ≤ 4000) (hp : o.arr = true → plcV k = -1) :
    Calls Tryd.prog 62 #[.pointer (some ⟨q, 0, none⟩), VK k] w fun e w' => e = .returned (.tuple #[PV (rkey o k) (o.own k).1 (o.own k).2.1, .bool (o.own k).2.2]) ∧ Below w.heap.size w w' := by
  have HA := Lib.hid (And.intro hp (And.intro hG hA))
  clear hp hG hA
  obtain ⟨pl, hpl⟩ : ∃ x, plcV k = x := ⟨_, rfl⟩
  have hP : ∀ W, Calls Tryd.prog 72 #[VK k] W fun e w' => e = .returned (.int .i64 pl) ∧ Below W.heap.size W w' := fun W => by
    have := place_any hk W
    rwa [hpl] at this
  have HP := Lib.hid hP
  have HPL := Lib.hid hpl
  have HH := Lib.hid (And.intro h (And.intro hO hk))
  obtain ⟨k1, k2, k3⟩ := k
  have HB := Lib.hid (own_boxes w k1 k2 k3)
  clear h hO hk hpl hP
  go_enter Tryd.func62, Tryd.ntmps62
  go_wp2_with fail
  refine (HP.out _).mono ?_
  rintro e w2 ⟨rfl, b2⟩
  obtain ⟨b1, kb, rb⟩ := HB.out
  have HB2 := Lib.hid (And.intro (b1.trans (b2.mono b1.size)) (And.intro (kb.below b2 kb.lt) (rb.below b2 rb.lt)))
  clear b1 kb rb b2 HB HP
  go_upto_region 2 with fail
  have hR := HH.out.1.below HB2.out.1
  obtain ⟨ar, har⟩ : ∃ a, o.arr = a := ⟨_, rfl⟩
  obtain ⟨cl, hcl⟩ : ∃ a, o.clo = a := ⟨_, rfl⟩
  have x0 : w2.cell? ⟨q, 0, none⟩ = some (.bool ar) := by rw [hR.ob.cell, ← har]; rfl
  have x2 : w2.cell? ⟨q, 2, none⟩ = some (.bool cl) := by rw [hR.ob.cell, ← hcl]; rfl
  have lq := hR.ob.lt
  have HAC := Lib.hid (And.intro har hcl)
  clear har hcl
  have HR := Lib.hid hR
  obtain ⟨B, hBB⟩ : ∃ B, o.isLen (k1, k2, k3) = B := ⟨_, rfl⟩
  have HBL := Lib.hid hBB
  have hBB2 : B = (ar && decide ((k1, k2, k3) = lenK)) := by rw [← hBB, ← HAC.out.1]; rfl
  have HBB := Lib.hid hBB2
  clear hBB hBB2 hR
  have hpl : ar = true → pl = -1 := fun e => by rw [← HPL.out]; exact HA.out.1 (by rw [HAC.out.1, e])
  have HPL2 := Lib.hid hpl
  go_cut [19] (fun s19 wx => s19 = .bool false ∧ w2 = wx)
  case first =>
    cases ar with
    | false =>
      clear hpl
      go_wp2_with fail
      go_meet
      exact ⟨rfl, rfl⟩
    | true =>
      obtain rfl := hpl rfl
      go_wp2_with fail
      go_meet
      exact ⟨rfl, rfl⟩
  case rest =>
  obtain ⟨rfl, rfl⟩ := hcut
  clear hpl
  go_upto_region 9 with fail
  go_cut [61] (fun s61 wx => s61 = .bool B ∧ Hid (Below w2.heap.size w2 wx))
  case first =>
    have X0 := fun d os => cell_regrown x0 d os
    have p0 : w2.cell? ⟨w.heap.size, 0, none⟩ = some (.int .i64 k1) := by rw [HB2.out.2.1.cell]; rfl
    have p1 : w2.cell? ⟨w.heap.size, 1, none⟩ = some (.int .i64 k2) := by rw [HB2.out.2.1.cell]; rfl
    have p2 : w2.cell? ⟨w.heap.size, 2, none⟩ = some (.string k3) := by rw [HB2.out.2.1.cell]; rfl
    have P0 := fun d os => cell_regrown p0 d os
    have P1 := fun d os => cell_regrown p1 d os
    have P2 := fun d os => cell_regrown p2 d os
    obtain ⟨⟨l1, l2, l3⟩, hl⟩ : ∃ l : K3, lenK = l := ⟨_, rfl⟩
    have D1 := fun d os => Calls.regrown_of (rstr_any [108, 101, 110, 103, 116, 104] (by decide) (by decide) (grow (redrawn w2 d) os) ((HA.out.2.1.below HB2.out.1).below (below_regrown w2 d os)))
    rw [keyL_len, hl] at D1
    rw [hl] at HBB
    clear x0 p0 p1 p2 x2 lq
    cases ar with
    | false =>
      obtain rfl : B = false := by have := HBB.out; simpa using this
      refine wp_region_quiet_below (by kernel_rfl) (by kernel_rfl) ?_
      repeat (quiet_step (with_reducible exact D1 _ _))
      refine wpQuiet_nil ?_
      intro _ hw'
      obtain ⟨⟨dq, osq⟩, hw''⟩ := hw'
      subst hw''
      have bq := below_regrown w2 dq osq
      clear X0 P0 P1 P2 D1
      go_wp2_with fail
      go_meet
      exact ⟨rfl, Lib.hid bq⟩
    | true =>
      by_cases hle : (k1, k2, k3) = lenK
      · obtain rfl : B = true := by have := HBB.out; rw [← hl, hle] at this; simpa using this
        have hee : (k1, k2, k3) = (l1, l2, l3) := hle.trans hl
        have e1 : k1 = l1 := congrArg (·.1) hee
        have e2 : k2 = l2 := congrArg (·.2.1) hee
        have e3 : k3 = l3 := congrArg (·.2.2) hee
        have t0 : (k1 == l1) = true := by rw [e1]; simp
        have t1 : (k2 == l2) = true := by rw [e2]; simp
        have t2 : (k3.toList == l3.toList) = true := by rw [e3]; simp
        clear hee e1 e2 e3 hle hl
        refine wp_region_quiet_below (by kernel_rfl) (by kernel_rfl) ?_
        repeat (quiet_step (with_reducible exact D1 _ _))
        refine wpQuiet_nil ?_
        intro _ hw'
        obtain ⟨⟨dq, osq⟩, hw''⟩ := hw'
        subst hw''
        have bq := below_regrown w2 dq osq
        clear X0 P0 P1 P2 D1
        go_wp2_with fail
        go_meet
        exact ⟨rfl, Lib.hid bq⟩
      · obtain rfl : B = false := by have := HBB.out; rw [← hl] at this; simpa [hle] using this
        rcases ks_other HH.out.2.2 hle with h8 | ⟨h7, hz, hne⟩
        · have t0 : (k1 == l1) = false := by
            dsimp only at h8
            rw [h8, ← show lenK.1 = l1 by rw [hl]]; rfl
          clear h8 hle hl
          refine wp_region_quiet_below (by kernel_rfl) (by kernel_rfl) ?_
          repeat (quiet_step (with_reducible exact D1 _ _))
          refine wpQuiet_nil ?_
          intro _ hw'
          obtain ⟨⟨dq, osq⟩, hw''⟩ := hw'
          subst hw''
          have bq := below_regrown w2 dq osq
          clear X0 P0 P1 P2 D1
          go_wp2_with fail
          go_meet
          exact ⟨rfl, Lib.hid bq⟩
        · have t0 : (k1 == l1) = true := by
            dsimp only at h7
            rw [h7, ← show lenK.1 = l1 by rw [hl]]; rfl
          have t1 : (k2 == l2) = true := by
            dsimp only at hz
            rw [hz, ← show lenK.2.1 = l2 by rw [hl]]; rfl
          have t2 : (k3.toList == l3.toList) = false := by
            dsimp only at hne
            rw [← show lenK.2.2 = l3 by rw [hl]]; exact beq_false_of_ne hne
          clear h7 hz hne hle hl
          refine wp_region_quiet_below (by kernel_rfl) (by kernel_rfl) ?_
          repeat (quiet_step (with_reducible exact D1 _ _))
          refine wpQuiet_nil ?_
          intro _ hw'
          obtain ⟨⟨dq, osq⟩, hw''⟩ := hw'
          subst hw''
          have bq := below_regrown w2 dq osq
          clear X0 P0 P1 P2 D1
          go_wp2_with fail
          go_meet
          exact ⟨rfl, Lib.hid bq⟩
  case rest =>
  obtain ⟨rfl, hb3⟩ := hcut
  have hR3 := HR.out.below hb3.out
  have HB3 := Lib.hid (And.intro (HB2.out.1.trans (hb3.out.mono HB2.out.1.size)) (And.intro (HB2.out.2.1.below hb3.out HB2.out.2.1.lt) (HB2.out.2.2.below hb3.out HB2.out.2.2.lt)))
  have HR3 := Lib.hid hR3
  clear hb3 hR3 HB2 HR x0 x2 lq
  have hown : o.own (k1, k2, k3) = if B = true then ((3, (o.L.length : Int), ⟨#[]⟩), if cl then 0 else 1, true) else getA o.A (k1, k2, k3) := by
    cases har : o.arr with
    | false =>
      have hb : B = false := by rw [← HBL.out]; unfold PO.isLen; rw [har]; rfl
      unfold PO.own
      rw [hb, if_neg (by rw [har]; decide), if_neg (by decide)]
    | true =>
      by_cases hl : (k1, k2, k3) = lenK
      · have hb : B = true := by rw [← HBL.out]; unfold PO.isLen; rw [har, hl]; simp
        unfold PO.own
        rw [hb, if_pos har, if_neg (by rw [HA.out.1 har]; decide), if_pos hl, if_pos rfl, HAC.out.2]
      · have hb : B = false := by rw [← HBL.out]; unfold PO.isLen; rw [har, decide_eq_false hl]; rfl
        unfold PO.own
        rw [hb, if_pos har, if_neg (by rw [HA.out.1 har]; decide), if_neg hl, if_neg (by decide)]
  have HOW := Lib.hid hown
  clear hown
  cases B with
  | true =>
    have x2 : wc.cell? ⟨q, 2, none⟩ = some (.bool cl) := by rw [HR3.out.ob.cell, ← HAC.out.2]; rfl
    have lq := HR3.out.ob.lt
    obtain ⟨n, hn⟩ : ∃ n, o.L.length = n := ⟨_, rfl⟩
    rw [hn] at HOW
    obtain ⟨ea, ecap, hev, -⟩ := own_shape HR3.out.re
    rw [hn] at hev
    have HEV := Lib.hid hev
    have hwd : ∀ W, W = wc.drewN 1 → Below wc.heap.size wc W := by rintro W rfl; exact below_drw (Below.refl _ _) 1
    have HWD := Lib.hid hwd
    clear hwd hev
    cases cl with
    | true =>
      go_upto_region 13 with fail
      clear x2 lq
      refine still_tail 9 (by kernel_rfl) (by kernel_rfl) (fun W2 hW2 => ?_)
      have bw := HWD.out W2 hW2
      have hR2 := HR3.out.below bw
      have kb2 := HB3.out.2.1.below bw HB3.out.2.1.lt
      have rb2 := HB3.out.2.2.below bw HB3.out.2.2.lt
      have x5 : W2.cell? ⟨q, 5, none⟩ = some (.slice ea n ecap) := by rw [hR2.ob.cell, ← HEV.out]; rfl
      have lq2 := hR2.ob.lt
      have p0 : W2.cell? ⟨w.heap.size, 0, none⟩ = some (.int .i64 k1) := by rw [kb2.cell]; rfl
      have p1 : W2.cell? ⟨w.heap.size, 1, none⟩ = some (.int .i64 k2) := by rw [kb2.cell]; rfl
      have p2 : W2.cell? ⟨w.heap.size, 2, none⟩ = some (.string k3) := by rw [kb2.cell]; rfl
      have y0 : W2.cell? ⟨w.heap.size + 1, 0, none⟩ = some (.int .i64 0) := by rw [rb2.cell]; rfl
      have y1 : W2.cell? ⟨w.heap.size + 1, 1, none⟩ = some (.int .i64 0) := by rw [rb2.cell]; rfl
      have y2 : W2.cell? ⟨w.heap.size + 1, 2, none⟩ = some (.string ⟨#[]⟩) := by rw [rb2.cell]; rfl
      have y3 : W2.cell? ⟨w.heap.size + 1, 3, none⟩ = some (.int .i64 0) := by rw [rb2.cell]; rfl
      have y4 : W2.cell? ⟨w.heap.size + 1, 4, none⟩ = some (.int .i64 0) := by rw [rb2.cell]; rfl
      have y5 : W2.cell? ⟨w.heap.size + 1, 5, none⟩ = some (.string ⟨#[]⟩) := by rw [rb2.cell]; rfl
      have y6 : W2.cell? ⟨w.heap.size + 1, 6, none⟩ = some (.int .i64 0) := by rw [rb2.cell]; rfl
      have fz0 := rb2.frozen 0
      have fz1 := rb2.frozen 1
      have fz2 := rb2.frozen 2
      have fz3 := rb2.frozen 3
      have fz4 := rb2.frozen 4
      have fz5 := rb2.frozen 5
      have fz6 := rb2.frozen 6
      have lr := rb2.lt
      have HB4 := Lib.hid (HB3.out.1.trans (bw.mono HB3.out.1.size))
      clear hR2 kb2 rb2 bw hW2
      simp only [List.take_succ_cons, List.take_zero, List.drop_succ_cons, List.drop_zero]
      repeat still_step
      refine wpStill_nil ?_
      go_wp2
      refine bodyPost_ret (v := .tuple #[PV (k1, k2, k3) (3, (n : Int), ⟨#[]⟩) 0, .bool true]) (by simp [results, Tryd.results62, go_sem, y0, y1, y2, y3, y4, y5, y6, fz0, fz1, fz2, fz3, fz4, fz5, fz6, lr]) rfl ⟨by rw [show rkey o (k1, k2, k3) = (k1, k2, k3) by unfold rkey; rw [HOW.out]; rfl, HOW.out]; rfl, ?_⟩
      exact store7 HB4.out (by simp) _ _ _ _ _ _ _
    | false =>
      go_upto_region 13 with fail
      clear x2 lq
      refine still_tail 9 (by kernel_rfl) (by kernel_rfl) (fun W2 hW2 => ?_)
      have bw := HWD.out W2 hW2
      have hR2 := HR3.out.below bw
      have kb2 := HB3.out.2.1.below bw HB3.out.2.1.lt
      have rb2 := HB3.out.2.2.below bw HB3.out.2.2.lt
      have x5 : W2.cell? ⟨q, 5, none⟩ = some (.slice ea n ecap) := by rw [hR2.ob.cell, ← HEV.out]; rfl
      have lq2 := hR2.ob.lt
      have p0 : W2.cell? ⟨w.heap.size, 0, none⟩ = some (.int .i64 k1) := by rw [kb2.cell]; rfl
      have p1 : W2.cell? ⟨w.heap.size, 1, none⟩ = some (.int .i64 k2) := by rw [kb2.cell]; rfl
      have p2 : W2.cell? ⟨w.heap.size, 2, none⟩ = some (.string k3) := by rw [kb2.cell]; rfl
      have y0 : W2.cell? ⟨w.heap.size + 1, 0, none⟩ = some (.int .i64 0) := by rw [rb2.cell]; rfl
      have y1 : W2.cell? ⟨w.heap.size + 1, 1, none⟩ = some (.int .i64 0) := by rw [rb2.cell]; rfl
      have y2 : W2.cell? ⟨w.heap.size + 1, 2, none⟩ = some (.string ⟨#[]⟩) := by rw [rb2.cell]; rfl
      have y3 : W2.cell? ⟨w.heap.size + 1, 3, none⟩ = some (.int .i64 0) := by rw [rb2.cell]; rfl
      have y4 : W2.cell? ⟨w.heap.size + 1, 4, none⟩ = some (.int .i64 0) := by rw [rb2.cell]; rfl
      have y5 : W2.cell? ⟨w.heap.size + 1, 5, none⟩ = some (.string ⟨#[]⟩) := by rw [rb2.cell]; rfl
      have y6 : W2.cell? ⟨w.heap.size + 1, 6, none⟩ = some (.int .i64 0) := by rw [rb2.cell]; rfl
      have fz0 := rb2.frozen 0
      have fz1 := rb2.frozen 1
      have fz2 := rb2.frozen 2
      have fz3 := rb2.frozen 3
      have fz4 := rb2.frozen 4
      have fz5 := rb2.frozen 5
      have fz6 := rb2.frozen 6
      have lr := rb2.lt
      have HB4 := Lib.hid (HB3.out.1.trans (bw.mono HB3.out.1.size))
      clear hR2 kb2 rb2 bw hW2
      simp only [List.take_succ_cons, List.take_zero, List.drop_succ_cons, List.drop_zero]
      repeat still_step
      refine wpStill_nil ?_
      go_wp2
      refine bodyPost_ret (v := .tuple #[PV (k1, k2, k3) (3, (n : Int), ⟨#[]⟩) 1, .bool true]) (by simp [results, Tryd.results62, go_sem, y0, y1, y2, y3, y4, y5, y6, fz0, fz1, fz2, fz3, fz4, fz5, fz6, lr]) rfl ⟨by rw [show rkey o (k1, k2, k3) = (k1, k2, k3) by unfold rkey; rw [HOW.out]; rfl, HOW.out]; rfl, ?_⟩
      exact store7 HB4.out (by simp) _ _ _ _ _ _ _
  | false =>
    have p0 : wc.cell? ⟨w.heap.size, 0, none⟩ = some (.int .i64 k1) := by rw [HB3.out.2.1.cell]; rfl
    have p1 : wc.cell? ⟨w.heap.size, 1, none⟩ = some (.int .i64 k2) := by rw [HB3.out.2.1.cell]; rfl
    have p2 : wc.cell? ⟨w.heap.size, 2, none⟩ = some (.string k3) := by rw [HB3.out.2.1.cell]; rfl
    have lk := HB3.out.2.1.lt
    go_wp2_with fail
    refine (rfind_any (k := (k1, k2, k3)) HR3.out HA.out.2.2).mono ?_
    rintro e w4 ⟨rfl, b4⟩
    have HB4 := Lib.hid (And.intro (HB3.out.1.trans (b4.mono HB3.out.1.size)) (HB3.out.2.2.below b4 HB3.out.2.2.lt))
    have hR4 := HR3.out.below b4
    have HR4 := Lib.hid hR4
    clear b4 HB3 HR3 p0 p1 p2 lk hR4
    have hown2 : o.own (k1, k2, k3) = getA o.A (k1, k2, k3) := by
      have := HOW.out
      rwa [if_neg (by decide)] at this
    rcases getA_fnd HH.out.2.1 HH.out.2.2 with ⟨hf, hg⟩ | ⟨i, x, hxi, hxk, hf, hg⟩
    · rw [hf]
      have HV := Lib.hid (hown2.trans hg)
      clear hf hg hown2 HOW
      have y0 : w4.cell? ⟨w.heap.size + 1, 0, none⟩ = some (.int .i64 0) := by rw [HB4.out.2.cell]; rfl
      have y1 : w4.cell? ⟨w.heap.size + 1, 1, none⟩ = some (.int .i64 0) := by rw [HB4.out.2.cell]; rfl
      have y2 : w4.cell? ⟨w.heap.size + 1, 2, none⟩ = some (.string ⟨#[]⟩) := by rw [HB4.out.2.cell]; rfl
      have y3 : w4.cell? ⟨w.heap.size + 1, 3, none⟩ = some (.int .i64 0) := by rw [HB4.out.2.cell]; rfl
      have y4 : w4.cell? ⟨w.heap.size + 1, 4, none⟩ = some (.int .i64 0) := by rw [HB4.out.2.cell]; rfl
      have y5 : w4.cell? ⟨w.heap.size + 1, 5, none⟩ = some (.string ⟨#[]⟩) := by rw [HB4.out.2.cell]; rfl
      have y6 : w4.cell? ⟨w.heap.size + 1, 6, none⟩ = some (.int .i64 0) := by rw [HB4.out.2.cell]; rfl
      have fz0 := HB4.out.2.frozen 0
      have fz1 := HB4.out.2.frozen 1
      have fz2 := HB4.out.2.frozen 2
      have fz3 := HB4.out.2.frozen 3
      have fz4 := HB4.out.2.frozen 4
      have fz5 := HB4.out.2.frozen 5
      have fz6 := HB4.out.2.frozen 6
      have lr := HB4.out.2.lt
      go_wp2
      refine bodyPost_ret (v := .tuple #[PV z3 z3 0, .bool false]) (by simp [results, Tryd.results62, go_sem, y0, y1, y2, y3, y4, y5, y6, fz0, fz1, fz2, fz3, fz4, fz5, fz6, lr]) rfl ⟨by rw [show rkey o (k1, k2, k3) = z3 by unfold rkey; rw [HV.out]; rfl, HV.out], ?_⟩
      exact store7 HB4.out.1 (by simp) _ _ _ _ _ _ _
    · rw [hf]
      have HV := Lib.hid (hown2.trans hg)
      have hil := (List.getElem?_eq_some_iff.1 hxi).1
      have hrow := HR4.out.rp
      obtain ⟨n, hn⟩ : ∃ n, o.A.length = n := ⟨_, rfl⟩
      rw [hn] at hrow hil
      obtain ⟨pa, pcap, hpv, hpa⟩ := own_shape hrow
      subst hpv
      obtain ⟨g, rfl⟩ := hpa (by omega)
      have hgg := fun j (hj : j < 7) => (hrow.cellAt (i * 7 + j) (by omega)).trans (propsC_get o.A i x hxi j hj)
      obtain ⟨⟨xk1, xk2, xk3⟩, ⟨xv1, xv2, xv3⟩, xf, xg⟩ := x
      dsimp only at hxk
      cases hxk
      have e0 : w4.cell? ⟨g, i * 7, none⟩ = some (.int .i64 k1) := hgg 0 (by decide)
      have e1 : w4.cell? ⟨g, i * 7 + 1, none⟩ = some (.int .i64 k2) := hgg 1 (by decide)
      have e2 : w4.cell? ⟨g, i * 7 + 2, none⟩ = some (.string k3) := hgg 2 (by decide)
      have e3 : w4.cell? ⟨g, i * 7 + 3, none⟩ = some (.int .i64 xv1) := hgg 3 (by decide)
      have e4 : w4.cell? ⟨g, i * 7 + 4, none⟩ = some (.int .i64 xv2) := hgg 4 (by decide)
      have e5 : w4.cell? ⟨g, i * 7 + 5, none⟩ = some (.string xv3) := hgg 5 (by decide)
      have e6 : w4.cell? ⟨g, i * 7 + 6, none⟩ = some (.int .i64 xf) := hgg 6 (by decide)
      have x4 : w4.cell? ⟨q, 4, none⟩ = some (.slice (some ⟨g, 0, none⟩) n pcap) := by rw [HR4.out.ob.cell]; rfl
      have lq := HR4.out.ob.lt
      have zz0 : (0 : Int) ≤ (i : Int) := by omega
      have zz1 : (i : Int) < (n : Int) := by omega
      have t5 : decide ((i : Int) < 0) = false := by rw [decide_eq_false_iff_not]; omega
      clear hf hg hown2 HOW hgg hrow hpa hxi hil hn
      have y0 : w4.cell? ⟨w.heap.size + 1, 0, none⟩ = some (.int .i64 0) := by rw [HB4.out.2.cell]; rfl
      have y1 : w4.cell? ⟨w.heap.size + 1, 1, none⟩ = some (.int .i64 0) := by rw [HB4.out.2.cell]; rfl
      have y2 : w4.cell? ⟨w.heap.size + 1, 2, none⟩ = some (.string ⟨#[]⟩) := by rw [HB4.out.2.cell]; rfl
      have y3 : w4.cell? ⟨w.heap.size + 1, 3, none⟩ = some (.int .i64 0) := by rw [HB4.out.2.cell]; rfl
      have y4 : w4.cell? ⟨w.heap.size + 1, 4, none⟩ = some (.int .i64 0) := by rw [HB4.out.2.cell]; rfl
      have y5 : w4.cell? ⟨w.heap.size + 1, 5, none⟩ = some (.string ⟨#[]⟩) := by rw [HB4.out.2.cell]; rfl
      have y6 : w4.cell? ⟨w.heap.size + 1, 6, none⟩ = some (.int .i64 0) := by rw [HB4.out.2.cell]; rfl
      have fz0 := HB4.out.2.frozen 0
      have fz1 := HB4.out.2.frozen 1
      have fz2 := HB4.out.2.frozen 2
      have fz3 := HB4.out.2.frozen 3
      have fz4 := HB4.out.2.frozen 4
      have fz5 := HB4.out.2.frozen 5
      have fz6 := HB4.out.2.frozen 6
      have lr := HB4.out.2.lt
      go_wp2
      refine bodyPost_ret (v := .tuple #[PV (k1, k2, k3) (xv1, xv2, xv3) xf, .bool true]) (by simp [results, Tryd.results62, go_sem, y0, y1, y2, y3, y4, y5, y6, fz0, fz1, fz2, fz3, fz4, fz5, fz6, lr]) rfl ⟨by rw [show rkey o (k1, k2, k3) = (k1, k2, k3) by unfold rkey; rw [HV.out]; rfl, HV.out], ?_⟩
      exact store7 HB4.out.1 (by simp) _ _ _ _ _ _ _
theorem rown_any {o : PO} {q : Nat} {pv ev : Value} {k : K3} {w : World} (h : RO o q pv ev w) (hO : o.Ok) (hk : KS k) (hG : LG w) (hA : o.A.length ≤ 4000) :
    Calls Tryd.prog 62 #[.pointer (some ⟨q, 0, none⟩), VK k] w fun e w' => e = .returned (.tuple #[PV (rkey o k) (o.own k).1 (o.own k).2.1, .bool (o.own k).2.2]) ∧ Below w.heap.size w w' := by
  cases ha : o.arr with
  | false => exact rown_rest h hO hk hG hA (fun e => by rw [ha] at e; cases e)
  | true =>
    rcases ks_plc hk with hv | ⟨i, hi, hki, hv⟩
    · exact rown_rest h hO hk hG hA (fun _ => hv)
    · exact rown_plc h hO hk ha i hv
end Go.Proofs.YtmimnaaofpkndaaDoor.Hp
