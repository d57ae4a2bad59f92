/- HeapRuns: the document's Define, of the length of an array. -/
import Derived.Test.YtmimnaaofpkndaaDoorHsL
import Derived.Test.YtmimnaaofpkndaaDoorHpL
import Derived.Deep.Onto
set_option linter.unusedVariables false
set_option linter.unusedSimpArgs false
namespace Go.Proofs.YtmimnaaofpkndaaDoor.Hp
open Go.RowKit Go.Proofs.YtmimnaaofpkndaaDoor Go.Shelf Go.Sort
attribute [local go_sem] Oper.semAt_some
def rowX (X : List K3) (n i : Nat) : List K3 := X.take i ++ List.replicate (n - i) Z0
theorem rowX_len {X : List K3} {n i : Nat} (hX : n ≤ X.length) (h : i ≤ n) : (rowX X n i).length = n := by simp [rowX]; omega
theorem rowX_at {X : List K3} {n i : Nat} (hX : n ≤ X.length) (h : i < n) : (rowX X n i)[i]? = some Z0 := by
  unfold rowX
  rw [List.getElem?_append_right (by simp; omega), List.length_take, Nat.min_eq_left (by omega), Nat.sub_self, List.getElem?_replicate, if_pos (by omega)]
theorem rowX_set {X : List K3} {n i : Nat} {x : K3} (hX : n ≤ X.length) (h : i < n) (hx : X[i]? = some x) : (rowX X n i).set i x = rowX X n (i + 1) := by
  unfold rowX
  obtain ⟨d, hd⟩ : ∃ d, n - i = d + 1 := ⟨n - i - 1, by omega⟩
  have hl : (X.take i).length = i := by rw [List.length_take]; omega
  rw [hd, show n - (i + 1) = d by omega, List.replicate_succ, List.set_append_right _ _ (by omega), hl, Nat.sub_self, List.set_cons_zero, List.take_add_one, hx]
  simp
/-- The new row on its way; the object is as it was. -/
structure RLn (o : PO) (q : Nat) (pv ev : Value) (w4 : World) (g n : Nat) (X : List K3) (i : Nat) (W : World) : Prop where
  ro : RO o q pv ev W
  row : W.ownsRow w4.heap.size 34 3 (.slice (some ⟨g, 0, none⟩) n n) n (valsC (rowX X n i))
  bel : Below w4.heap.size w4 W
  lo : ∀ k, roB q pv ev k → k < w4.heap.size
theorem RLn.far {o : PO} {q : Nat} {pv ev : Value} {w4 W W' : World} {g n : Nat} {X : List K3} {i j : Nat} (h : RLn o q pv ev w4 g n X i W) (u : Upd W W' (fun k => k = g)) (hr : W'.ownsRow w4.heap.size 34 3 (.slice (some ⟨g, 0, none⟩) n n) n (valsC (rowX X n j))) : RLn o q pv ev w4 g n X j W' := by
  have hg := (h.row.lt g rfl).1
  refine ⟨h.ro.upd u (fun k hk e => by have := h.lo k hk; omega), hr, ?_, h.lo⟩
  exact h.bel.trans (u.below h.bel.size (fun k e => by omega))
theorem RLn.next {o : PO} {q : Nat} {pv ev : Value} {w4 W : World} {g n : Nat} {X : List K3} {i : Nat} {x : K3} (h : RLn o q pv ev w4 g n X i W) (hX : n ≤ X.length) (hi : i < n) (hx : X[i]? = some x) :
    (x = E0 → RLn o q pv ev w4 g n X (i + 1) (W.setCell ⟨g, i * 3, none⟩ (.int .i64 10))) ∧ RLn o q pv ev w4 g n X (i + 1) ((((W.setCell ⟨g, i * 3, none⟩ (.int .i64 10)).setCell ⟨g, i * 3, none⟩ (.int .i64 x.1)).setCell ⟨g, i * 3 + 1, none⟩ (.int .i64 x.2.1)).setCell ⟨g, i * 3 + 2, none⟩ (.string x.2.2)) := by
  have hr1 := (h.row.stored (i * 3) (.int .i64 10)).1
  rw [valsC_setK _ i Z0 10 (rowX_at hX hi), show ((10 : Int), Z0.2.1, Z0.2.2) = E0 from rfl] at hr1
  have u1 : Upd W (W.setCell ⟨g, i * 3, none⟩ (.int .i64 10)) (fun k => k = g) := (Upd.refl W (fun k => k = g)).set g _ _ rfl
  refine ⟨fun e => h.far u1 ?_, h.far (((u1.set g _ _ rfl).set g _ _ rfl).set g _ _ rfl) ?_⟩
  · rw [← e, rowX_set hX hi hx] at hr1
    exact hr1
  · have h3 := ((((hr1.stored (i * 3) (.int .i64 x.1)).1.stored (i * 3 + 1) (.int .i64 x.2.1)).1).stored (i * 3 + 2) (.string x.2.2)).1
    rw [valsC_set, if_pos (by rw [List.length_set, rowX_len hX (by omega)]; exact hi), List.set_set, rowX_set hX hi hx] at h3
    exact h3
theorem RLn.done {o : PO} {q : Nat} {pv ev : Value} {w w4 W : World} {g n : Nat} {X : List K3} (h : RLn o q pv ev w4 g n X n W) (hX : n ≤ X.length) (hb : Below w.heap.size w w4) : LeftR o q pv ev w { o with L := X.take n } (W.setCell ⟨q, 5, none⟩ (.slice (some ⟨g, 0, none⟩) n n)) := by
  have hr : W.ownsRow w4.heap.size 34 3 (.slice (some ⟨g, 0, none⟩) n n) n (valsC (X.take n)) := by
    have := h.row
    unfold rowX at this
    rwa [Nat.sub_self, List.replicate_zero, List.append_nil] at this
  have u : Upd W (W.setCell ⟨q, 5, none⟩ (.slice (some ⟨g, 0, none⟩) n n)) (fun k => k = q) := (Upd.refl W (fun k => k = q)).set q 5 _ rfl
  have hg := (h.row.lt g rfl).1
  have h0 : 0 < w4.heap.size := Nat.lt_of_le_of_lt (Nat.zero_le _) (h.lo q (.inl rfl))
  have hro : RO { o with L := X.take n } q pv (.slice (some ⟨g, 0, none⟩) n n) (W.setCell ⟨q, 5, none⟩ (.slice (some ⟨g, 0, none⟩) n n)) := by
    refine ⟨h.ro.ob.set_ 5 _, u.own h.ro.rp (fun k hk e => h.ro.np (e ▸ hk)), ?_, fun g' hg' e => ?_⟩
    · show World.ownsRow _ 1 _ 3 _ (X.take n).length (valsC (X.take n))
      rw [List.length_take, Nat.min_eq_left hX]
      exact World.ownsRow.mono (own_set hr h.ro.ob (by decide) 5 _) (by omega)
    · obtain rfl : g = g' := by simpa [Value.ownBlock] using e
      have := h.lo g (.inr (.inl hg'))
      omega
  refine ⟨(Upd.of_below_all (M := roB q pv ev) hb).trans (Upd.join (w := w4) ((Upd.refl w4 _)) ?_), pv, _, hro, fun k hk => ?_⟩
  · exact (Upd.of_below h.bel (fun k hk => .inr hk)).trans (u.mono (fun k _ e => .inl (.inl e)))
  · rcases hk with e | e | e
    · exact .inl (.inl e)
    · exact .inl (.inr (.inl e))
    · obtain rfl : g = k := by simpa [Value.ownBlock] using e
      exact .inr (Nat.le_trans hb.size hg)
set_option maxRecDepth 100000 in
set_option maxHeartbeats 16000000 in
/-- Define, of the length of an array. -/
theorem rdefine_len {o : PO} {q : Nat} {pv ev : Value} {w : World} {k v : K3} {f : Int} (h : RO o q pv ev w) (hO : o.Ok) (hk : KS k) (hG : LG w) (hA : o.A.length ≤ 4000) (hf0 : 0 ≤ f) (hf1 : f < 16) (hno : (((!(o.own k).2.2) && o.clo) || ((o.own k).2.2 && refuse (o.own k).2.1 f)) = false) (ha : o.arr = true) (hl : k = lenK) :
    Calls Tryd.prog 60 #[.pointer (some ⟨q, 0, none⟩), VK k, VK v, .int .i64 f] w fun e w' => ((f = 1 ∧ v.1 = 3 ∧ 0 ≤ v.2.1 ∧ v.2.1 ≤ 1000) ∧ e = .returned (.bool true) ∧ LeftR o q pv ev w { o with L := (o.L ++ List.replicate (v.2.1.toNat - o.L.length) E0).take v.2.1.toNat } w') ∨ (¬ (f = 1 ∧ v.1 = 3 ∧ 0 ≤ v.2.1 ∧ v.2.1 ≤ 1000) ∧ e = .returned (.bool false) ∧ Below w.heap.size w w') := by
  obtain ⟨i0, hi, hz0, hz1, hz2⟩ := info_parts infoVal
  have HZ := Lib.hid (And.intro hi (And.intro hz0 (And.intro hz1 hz2)))
  have HNO := Lib.hid hno
  have HA := Lib.hid (And.intro ha hl)
  have hL := hO.le
  clear hno ha hl hi hz0 hz1 hz2
  have HRO := Lib.hid (And.intro h (And.intro hO (And.intro hk (And.intro hG (And.intro hA (And.intro hf0 hf1))))))
  obtain ⟨gv, gf, gb, hg⟩ : ∃ (gv : K3) (gf : Int) (gb : Bool), o.own k = (gv, gf, gb) := ⟨_, _, _, rfl⟩
  obtain ⟨⟨r1, r2, r3⟩, hrk⟩ : ∃ x, rkey o k = x := ⟨_, rfl⟩
  obtain ⟨g1, g2, g3⟩ := gv
  have hown : ∀ W, Below w.heap.size w W → Calls Tryd.prog 62 #[.pointer (some ⟨q, 0, none⟩), VK k] W fun e w' => e = .returned (.tuple #[PV (r1, r2, r3) (g1, g2, g3) gf, .bool gb]) ∧ Below W.heap.size W w' := fun W bW => by
    have := rown_any (HRO.out.1.below bW) HRO.out.2.1 HRO.out.2.2.1 (HRO.out.2.2.2.1.below bW) HRO.out.2.2.2.2.1
    rw [hg, hrk] at this
    exact this
  have HOW := Lib.hid hown
  have HG := Lib.hid hg
  have hgf := own_flags hO k
  rw [hg] at hgf
  have HGF := Lib.hid (refuse_ref hgf.1 hgf.2 hf0 hf1)
  obtain ⟨k1, k2, k3⟩ := k
  obtain ⟨v1, v2, v3⟩ := v
  have HB := Lib.hid (two_boxes w k1 k2 k3 v1 v2 v3)
  clear h hO hk hG hown hg hA hf0 hf1 hrk hgf
  go_enter Tryd.func60, Tryd.ntmps60
  go_wp2_with (fail)
  refine (HOW.out _ HB.out.1).mono ?_
  rintro e w2 ⟨rfl, b2⟩
  obtain ⟨b1, kb, vb⟩ := HB.out
  have b23 : Below w2.heap.size w2 (w2.alloc (.cells #[.int .i64 r1, .int .i64 r2, .string r3, .int .i64 g1, .int .i64 g2, .string g3, .int .i64 gf] 127)) := (Below.refl _ _).alloc (Nat.le_refl _) _
  have HB3 := Lib.hid (And.intro ((b1.trans (b2.mono b1.size)).trans (b23.mono (Nat.le_trans b1.size b2.size))) (And.intro ((kb.below b2 kb.lt).below b23 (Nat.lt_of_lt_of_le kb.lt b2.size)) (And.intro ((vb.below b2 vb.lt).below b23 (Nat.lt_of_lt_of_le vb.lt b2.size)) (Blk.new w2 127 #[.int .i64 r1, .int .i64 r2, .string r3, .int .i64 g1, .int .i64 g2, .string g3, .int .i64 gf]))))
  clear b1 kb vb b2 b23 HB HOW
  go_upto_region 2 with fail
  generalize (w2.alloc (.cells #[.int .i64 r1, .int .i64 r2, .string r3, .int .i64 g1, .int .i64 g2, .string g3, .int .i64 gf] 127)) = w3 at *
  generalize w2.heap.size = q2 at *
  have c2 : w3.cell? ⟨q, 1, none⟩ = some (.bool o.clo) := by rw [(HRO.out.1.below HB3.out.1).ob.cell]; rfl
  have lo := (HRO.out.1.below HB3.out.1).ob.lt
  have cf : w3.cell? ⟨q2, 6, none⟩ = some (.int .i64 gf) := by rw [HB3.out.2.2.2.cell]; rfl
  have lf := HB3.out.2.2.2.lt
  obtain ⟨cl, hcl⟩ : ∃ c, o.clo = c := ⟨_, rfl⟩
  rw [hcl] at c2
  have HCL := Lib.hid hcl
  clear hcl
  go_cut [28] (fun s28 wx => s28 = .bool (!gb && cl) ∧ w3 = wx)
  case first =>
    cases gb with
    | true =>
      go_wp2_with fail
      go_meet
      exact ⟨rfl, rfl⟩
    | false =>
      go_wp2_with fail
      go_meet
      exact ⟨rfl, rfl⟩
  case rest =>
  obtain ⟨rfl, rfl⟩ := hcut
  have hno := HNO.out
  rw [HG.out, HCL.out] at hno
  dsimp only at hno
  have hx : (!gb && cl) = false := by cases gb <;> cases cl <;> simp at hno ⊢
  have HNN := Lib.hid hno
  clear hno HNO c2
  rw [hx]
  clear hx
  obtain ⟨c1, hc1⟩ : ∃ c, (bits .and .i64 gf 4 == 0) = c := ⟨_, rfl⟩
  obtain ⟨c2', hc2⟩ : ∃ c, (bits .and .i64 gf 1 == 0) = c := ⟨_, rfl⟩
  obtain ⟨c3, hc3⟩ : ∃ c, (bits .or .i64 f 1 != bits .or .i64 gf 1) = c := ⟨_, rfl⟩
  have hrf : refuse gf f = (c1 && (c2' || c3)) := by rw [HGF.out]; unfold refuseR; rw [hc1, hc2, hc3]
  have HRF := Lib.hid hrf
  clear hrf
  go_upto_region 4 with fail
  go_cut [35] (fun s35 wx => s35 = .bool (gb && c1) ∧ w3 = wx)
  case first =>
    clear hc2 hc3
    cases gb with
    | false =>
      clear hc1
      go_wp2_with fail
      go_meet
      exact ⟨rfl, rfl⟩
    | true =>
      go_wp2_with fail
      go_meet
      exact ⟨rfl, rfl⟩
  case rest =>
  obtain ⟨rfl, rfl⟩ := hcut
  clear hc1
  have hy2 : (gb && c1) = false ∨ ((gb && c1) = true ∧ c2' = false ∧ c3 = false) := by
    have := HNN.out
    rw [HRF.out] at this
    cases gb <;> cases c1 <;> simp at this ⊢
    exact this
  clear HNN HRF
  obtain ⟨pl, hpl⟩ : ∃ x, plcV (k1, k2, k3) = x := ⟨_, rfl⟩
  have hP : ∀ W, Calls Tryd.prog 72 #[VK (k1, k2, k3)] W fun e w' => e = .returned (.int .i64 pl) ∧ Below W.heap.size W w' := fun W => by
    have := place_any HRO.out.2.2.1 W
    rwa [hpl] at this
  have HP := Lib.hid hP
  have HPL := Lib.hid hpl
  clear hP hpl
  have p0 : w3.cell? ⟨w.heap.size, 0, none⟩ = some (.int .i64 k1) := by rw [HB3.out.2.1.cell]; rfl
  have p1 : w3.cell? ⟨w.heap.size, 1, none⟩ = some (.int .i64 k2) := by rw [HB3.out.2.1.cell]; rfl
  have p2 : w3.cell? ⟨w.heap.size, 2, none⟩ = some (.string k3) := by rw [HB3.out.2.1.cell]; rfl
  have lk := HB3.out.2.1.lt
  rcases hy2 with hy2 | ⟨hy2, rfl, rfl⟩
  ·
    rw [hy2]
    clear hy2
    go_upto_region 7 with fail
    go_wp2_with fail
    refine (HP.out w3).mono ?_
    rintro e w4 ⟨rfl, b4⟩
    have HB4 := Lib.hid (And.intro (HB3.out.1.trans (b4.mono HB3.out.1.size)) (And.intro (HB3.out.2.1.below b4 HB3.out.2.1.lt) (HB3.out.2.2.1.below b4 HB3.out.2.2.1.lt)))
    clear HB3 b4 HP p0 p1 p2 lk lo cf lf
    try clear hc2 hc3
    go_upto_region 8 with fail
    have hR := HRO.out.1.below HB4.out.1
    obtain ⟨ar, har⟩ : ∃ a, o.arr = a := ⟨_, rfl⟩
    have x0 : w4.cell? ⟨q, 0, none⟩ = some (.bool ar) := by rw [hR.ob.cell, ← har]; rfl
    have lo := hR.ob.lt
    have HR := Lib.hid hR
    have HAR := Lib.hid har
    clear hR har
    obtain rfl : true = ar := by rw [← HAR.out]; exact HA.out.1.symm
    obtain rfl : pl = -1 := by rw [← HPL.out, HA.out.2]; exact lenK_plc
    go_upto_region 15 with fail
    go_cut [92] (fun s92 wx => s92 = .bool true ∧ Hid (Below w4.heap.size w4 wx))
    case first =>
      have X0 := fun d os => cell_regrown x0 d os
      have p0 : w4.cell? ⟨w.heap.size, 0, none⟩ = some (.int .i64 k1) := by rw [HB4.out.2.1.cell]; rfl
      have p1 : w4.cell? ⟨w.heap.size, 1, none⟩ = some (.int .i64 k2) := by rw [HB4.out.2.1.cell]; rfl
      have p2 : w4.cell? ⟨w.heap.size, 2, none⟩ = some (.string k3) := by rw [HB4.out.2.1.cell]; rfl
      have P0 := fun d os => cell_regrown p0 d os
      have P1 := fun d os => cell_regrown p1 d os
      have P2 := fun d os => cell_regrown p2 d os
      have D1 := fun d os => Calls.regrown_of (rstr_any [108, 101, 110, 103, 116, 104] (by decide) (by decide) (grow (redrawn w4 d) os) ((HRO.out.2.2.2.1.below HB4.out.1).below (below_regrown w4 d os)))
      rw [keyL_len, ← HA.out.2] at D1
      have t0 : (k1 == k1) = true := by simp
      have t1 : (k2 == k2) = true := by simp
      have t2 : (k3.toList == k3.toList) = true := by simp
      clear x0 p0 p1 p2 lo
      refine wp_region_quiet_below (by as_aux_lemma => kernel_rfl) (by as_aux_lemma => kernel_rfl) ?_
      repeat (quiet_step (with_reducible exact D1 _ _))
      refine wpQuiet_nil ?_
      intro _ hw'
      obtain ⟨⟨dq, osq⟩, hw''⟩ := hw'
      subst hw''
      have bq := below_regrown w4 dq osq
      clear X0 P0 P1 P2 D1
      go_wp2_with fail
      go_meet
      exact ⟨rfl, Lib.hid bq⟩
    case rest =>
    obtain ⟨rfl, hb5⟩ := hcut
    have HB5 := Lib.hid (And.intro (HB4.out.1.trans (hb5.out.mono HB4.out.1.size)) (HB4.out.2.2.below hb5.out HB4.out.2.2.lt))
    have HR5 := Lib.hid (HR.out.below hb5.out)
    clear hb5 HB4 HR x0 lo
    go_upto_region 16 with fail
    have y0 : wc.cell? ⟨w.heap.size + 1, 0, none⟩ = some (.int .i64 v1) := by rw [HB5.out.2.cell]; rfl
    have y1 : wc.cell? ⟨w.heap.size + 1, 1, none⟩ = some (.int .i64 v2) := by rw [HB5.out.2.cell]; rfl
    have ly := HB5.out.2.lt
    by_cases h1 : f = 1
    case neg =>
      have t1 : (f != 1) = true := by simpa using h1
      have HF := Lib.hid h1
      clear h1
      go_wp2
      go_ret
      exact .inr ⟨fun e => HF.out e.1, rfl, HB5.out.1⟩
    obtain rfl := h1
    by_cases h2 : v1 = 3
    case neg =>
      have t1 : (v1 != 3) = true := by simpa using h2
      have HF := Lib.hid h2
      clear h2
      go_wp2
      go_ret
      exact .inr ⟨fun e => absurd e HF.out, rfl, HB5.out.1⟩
    obtain rfl := h2
    by_cases h3 : v2 < 0
    case pos =>
      have t1 : decide (v2 < 0) = true := by simpa using h3
      have HF := Lib.hid h3
      clear h3
      go_wp2
      go_ret
      exact .inr ⟨fun e => by have := HF.out; omega, rfl, HB5.out.1⟩
    by_cases h4 : 1000 < v2
    case pos =>
      have t1 : decide (v2 < 0) = false := by simpa using h3
      have t2 : decide (1000 < v2) = true := by simpa using h4
      have HF := Lib.hid h4
      clear h3 h4
      go_wp2
      go_ret
      exact .inr ⟨fun e => by have := HF.out; omega, rfl, HB5.out.1⟩
    obtain ⟨N, hN⟩ : ∃ N : Nat, v2 = (N : Int) := ⟨v2.toNat, by omega⟩
    subst hN
    have hN1 : N ≤ 1000 := by omega
    have t1 : decide ((N : Int) < 0) = false := by simp
    have t2 : decide (1000 < (N : Int)) = false := by simp; omega
    clear h3 h4
    obtain ⟨hi, hz0, hz1, hz2⟩ := HZ.out
    obtain ⟨w5, hrun, hown, hgr⟩ := run_make_full (P := Tryd.prog) wc wc.heap.size 45 34 i0 _ 3 Tryd.underlying45 hi hz0 hz1 .i64 .i64 N (by rw [hz2]; omega) (by unfold maxLen; omega) (Nat.le_refl _)
    rw [made_vals] at hown
    have b5 : Below wc.heap.size wc w5 := (Below.refl _ _).grown hgr (Nat.le_refl _) (fun k hk => by cases hk)
    obtain ⟨X, hX⟩ : ∃ X, o.L ++ List.replicate (N - o.L.length) E0 = X := ⟨_, rfl⟩
    have hXl : N ≤ X.length := by rw [← hX]; simp; omega
    have hS0 : RLn o q pv ev wc wc.heap.size N X 0 w5 := ⟨HR5.out.below b5, by unfold rowX; simpa using hown, b5, HR5.out.all_lt⟩
    have HS0 := Lib.hid hS0
    have HXX := Lib.hid (And.intro hX hXl)
    obtain ⟨g, hg⟩ : ∃ g, wc.heap.size = g := ⟨_, rfl⟩
    have HBW := Lib.hid HB5.out.1
    rw [hg] at hrun HS0
    clear hown hgr b5 hS0 hi hz0 hz1 hz2 HB5 HR5 HZ HPL HAR HG HGF HCL HA HRO
    go_wp2_with (fail)
    clear hrun y0 y1 ly
    clear hg
    go_loopw [13] (fun v wr => ∃ i : Nat, i ≤ N ∧ v = .int .i64 (i : Int) ∧ Hid (RLn o q pv ev wc g N X i wr)) (fun v _ => N - (intOf v).toNat)
    case atStart => exact ⟨0, Nat.zero_le _, rfl, HS0⟩
    case round =>
      clear HS0
      obtain ⟨i, hi2, rfl, HS⟩ := hrel
      by_cases hlt : i < N
      · have t3 : decide ((i : Int) < (N : Int)) = true := by simp; omega
        have z0 : (0 : Int) ≤ (i : Int) := by omega
        have z1 : (i : Int) < (N : Int) := by omega
        have ac : IntKind.i64.wrap ((i : Int) + 1) = ((i + 1 : Nat) : Int) := by rw [IntWalk.i64_in _ (by omega)]; rfl
        obtain ⟨hX, hXl⟩ := HXX.out
        have hrl := rowX_len hXl hi2
        have hlv : (valsC (rowX X N i)).length = N * 3 := by rw [valsC_length, hrl]
        have e0 : wr.cell? ⟨g, i * 3, none⟩ = some (.int .i64 0) := by
          rw [HS.out.row.cellAt (i * 3) (by omega)]
          exact valsC_get (rowX X N i) i 0 Z0 (rowX_at hXl hlt) (by decide)
        have f0 := HS.out.row.frozenAt (i * 3)
        have lg := World.block_lt_of_cell? wr _ e0
        obtain ⟨n, hn⟩ : ∃ n, o.L.length = n := ⟨_, rfl⟩
        have hrow := HS.out.ro.re
        rw [hn] at hrow
        obtain ⟨ea, ecap, hev, hea⟩ := own_shape hrow
        have x5 : wr.cell? ⟨q, 5, none⟩ = some (.slice ea n ecap) := by rw [HS.out.ro.ob.cell, ← hev]; rfl
        have lq := HS.out.ro.ob.lt
        have hqg : q ≠ g := fun e => own_blk_ne HS.out.row HS.out.ro.ob (by decide) (by rw [e]; rfl)
        by_cases hin : i < n
        · have t4 : decide ((i : Int) < (n : Int)) = true := by simp; omega
          have z2 : (i : Int) < (n : Int) := by omega
          obtain ⟨h, rfl⟩ := hea (by omega)
          obtain ⟨x, hx⟩ : ∃ x, o.L[i]? = some x := ⟨_, List.getElem?_eq_getElem (by omega)⟩
          have hxX : X[i]? = some x := by rw [← hX, List.getElem?_append_left (by omega)]; exact hx
          have hhg : h ≠ g := fun e => by
            have h1 := (HS.out.row.lt g rfl).1
            have h2 := HS.out.lo h (.inr (.inr (by rw [hev]; rfl)))
            omega
          have hnx := (HS.out.next hXl hlt hxX).2
          have hoe : ∀ j : Nat, j < 3 → wr.cell? ⟨h, i * 3 + j, none⟩ = ([.int .i64 x.1, .int .i64 x.2.1, .string x.2.2] : List Value)[j]? := fun j hj => by
            rw [show wr.cell? ⟨h, i * 3 + j, none⟩ = (valsC o.L)[i * 3 + j]? from by
              have hr2 := hrow
              rw [hev] at hr2
              exact hr2.cellAt (i * 3 + j) (by omega)]
            exact valsC_get o.L i j x hx hj
          obtain ⟨x1, x2, x3⟩ := x
          have c0 : wr.cell? ⟨h, i * 3, none⟩ = some (.int .i64 x1) := hoe 0 (by decide)
          have c1 : wr.cell? ⟨h, i * 3 + 1, none⟩ = some (.int .i64 x2) := hoe 1 (by decide)
          have c2 : wr.cell? ⟨h, i * 3 + 2, none⟩ = some (.string x3) := hoe 2 (by decide)
          obtain ⟨u1, e1⟩ : ∃ u, wr.cell? ⟨g, i * 3 + 1, none⟩ = some u := ⟨_, (HS.out.row.cellAt (i * 3 + 1) (by omega)).trans (List.getElem?_eq_getElem (by rw [hlv]; omega))⟩
          obtain ⟨u2, e2⟩ : ∃ u, wr.cell? ⟨g, i * 3 + 2, none⟩ = some u := ⟨_, (HS.out.row.cellAt (i * 3 + 2) (by omega)).trans (List.getElem?_eq_getElem (by rw [hlv]; omega))⟩
          have f1 := HS.out.row.frozenAt (i * 3 + 1)
          have f2 := HS.out.row.frozenAt (i * 3 + 2)
          have HN := Lib.hid hnx
          clear hnx hoe hx hxX hrow hev hea hn hX hXl hrl hlv HS
          go_wp2_with (fail)
          go_roundw
          case rel => exact ⟨i + 1, by omega, rfl, HN⟩
          case measure => simp [intOf]; omega
        · have t4 : decide ((i : Int) < (n : Int)) = false := by simp; omega
          have hxX : X[i]? = some E0 := by
            rw [← hX, List.getElem?_append_right (by omega), List.getElem?_replicate, if_pos (by omega)]
          have HN := Lib.hid ((HS.out.next hXl hlt hxX).1 rfl)
          clear hxX hrow hev hea hn hX hXl hrl hlv HS
          go_wp2_with (fail)
          go_roundw
          case rel => exact ⟨i + 1, by omega, rfl, HN⟩
          case measure => simp [intOf]; omega
      · obtain rfl : i = N := by omega
        have t3 : decide ((i : Int) < (i : Int)) = false := by simp
        obtain ⟨hX, hXl⟩ := HXX.out
        have hfr := HS.out.ro.ob.frozen 5
        have lq := HS.out.ro.ob.lt
        obtain ⟨x5v, x5⟩ : ∃ v, wr.cell? ⟨q, 5, none⟩ = some v := ⟨_, by rw [HS.out.ro.ob.cell]; rfl⟩
        clear hX hXl
        go_wp2
        go_ret
        exact .inl ⟨by omega, rfl, HS.out.done HXX.out.2 HBW.out⟩
  ·
    rw [hy2]
    clear hy2
    go_upto_region 7 with fail
    go_wp2_with fail
    refine (HP.out w3).mono ?_
    rintro e w4 ⟨rfl, b4⟩
    have HB4 := Lib.hid (And.intro (HB3.out.1.trans (b4.mono HB3.out.1.size)) (And.intro (HB3.out.2.1.below b4 HB3.out.2.1.lt) (HB3.out.2.2.1.below b4 HB3.out.2.2.1.lt)))
    clear HB3 b4 HP p0 p1 p2 lk lo cf lf
    try clear hc2 hc3
    go_upto_region 8 with fail
    have hR := HRO.out.1.below HB4.out.1
    obtain ⟨ar, har⟩ : ∃ a, o.arr = a := ⟨_, rfl⟩
    have x0 : w4.cell? ⟨q, 0, none⟩ = some (.bool ar) := by rw [hR.ob.cell, ← har]; rfl
    have lo := hR.ob.lt
    have HR := Lib.hid hR
    have HAR := Lib.hid har
    clear hR har
    obtain rfl : true = ar := by rw [← HAR.out]; exact HA.out.1.symm
    obtain rfl : pl = -1 := by rw [← HPL.out, HA.out.2]; exact lenK_plc
    go_upto_region 15 with fail
    go_cut [92] (fun s92 wx => s92 = .bool true ∧ Hid (Below w4.heap.size w4 wx))
    case first =>
      have X0 := fun d os => cell_regrown x0 d os
      have p0 : w4.cell? ⟨w.heap.size, 0, none⟩ = some (.int .i64 k1) := by rw [HB4.out.2.1.cell]; rfl
      have p1 : w4.cell? ⟨w.heap.size, 1, none⟩ = some (.int .i64 k2) := by rw [HB4.out.2.1.cell]; rfl
      have p2 : w4.cell? ⟨w.heap.size, 2, none⟩ = some (.string k3) := by rw [HB4.out.2.1.cell]; rfl
      have P0 := fun d os => cell_regrown p0 d os
      have P1 := fun d os => cell_regrown p1 d os
      have P2 := fun d os => cell_regrown p2 d os
      have D1 := fun d os => Calls.regrown_of (rstr_any [108, 101, 110, 103, 116, 104] (by decide) (by decide) (grow (redrawn w4 d) os) ((HRO.out.2.2.2.1.below HB4.out.1).below (below_regrown w4 d os)))
      rw [keyL_len, ← HA.out.2] at D1
      have t0 : (k1 == k1) = true := by simp
      have t1 : (k2 == k2) = true := by simp
      have t2 : (k3.toList == k3.toList) = true := by simp
      clear x0 p0 p1 p2 lo
      refine wp_region_quiet_below (by as_aux_lemma => kernel_rfl) (by as_aux_lemma => kernel_rfl) ?_
      repeat (quiet_step (with_reducible exact D1 _ _))
      refine wpQuiet_nil ?_
      intro _ hw'
      obtain ⟨⟨dq, osq⟩, hw''⟩ := hw'
      subst hw''
      have bq := below_regrown w4 dq osq
      clear X0 P0 P1 P2 D1
      go_wp2_with fail
      go_meet
      exact ⟨rfl, Lib.hid bq⟩
    case rest =>
    obtain ⟨rfl, hb5⟩ := hcut
    have HB5 := Lib.hid (And.intro (HB4.out.1.trans (hb5.out.mono HB4.out.1.size)) (HB4.out.2.2.below hb5.out HB4.out.2.2.lt))
    have HR5 := Lib.hid (HR.out.below hb5.out)
    clear hb5 HB4 HR x0 lo
    go_upto_region 16 with fail
    have y0 : wc.cell? ⟨w.heap.size + 1, 0, none⟩ = some (.int .i64 v1) := by rw [HB5.out.2.cell]; rfl
    have y1 : wc.cell? ⟨w.heap.size + 1, 1, none⟩ = some (.int .i64 v2) := by rw [HB5.out.2.cell]; rfl
    have ly := HB5.out.2.lt
    by_cases h1 : f = 1
    case neg =>
      have t1 : (f != 1) = true := by simpa using h1
      have HF := Lib.hid h1
      clear h1
      go_wp2
      go_ret
      exact .inr ⟨fun e => HF.out e.1, rfl, HB5.out.1⟩
    obtain rfl := h1
    by_cases h2 : v1 = 3
    case neg =>
      have t1 : (v1 != 3) = true := by simpa using h2
      have HF := Lib.hid h2
      clear h2
      go_wp2
      go_ret
      exact .inr ⟨fun e => absurd e HF.out, rfl, HB5.out.1⟩
    obtain rfl := h2
    by_cases h3 : v2 < 0
    case pos =>
      have t1 : decide (v2 < 0) = true := by simpa using h3
      have HF := Lib.hid h3
      clear h3
      go_wp2
      go_ret
      exact .inr ⟨fun e => by have := HF.out; omega, rfl, HB5.out.1⟩
    by_cases h4 : 1000 < v2
    case pos =>
      have t1 : decide (v2 < 0) = false := by simpa using h3
      have t2 : decide (1000 < v2) = true := by simpa using h4
      have HF := Lib.hid h4
      clear h3 h4
      go_wp2
      go_ret
      exact .inr ⟨fun e => by have := HF.out; omega, rfl, HB5.out.1⟩
    obtain ⟨N, hN⟩ : ∃ N : Nat, v2 = (N : Int) := ⟨v2.toNat, by omega⟩
    subst hN
    have hN1 : N ≤ 1000 := by omega
    have t1 : decide ((N : Int) < 0) = false := by simp
    have t2 : decide (1000 < (N : Int)) = false := by simp; omega
    clear h3 h4
    obtain ⟨hi, hz0, hz1, hz2⟩ := HZ.out
    obtain ⟨w5, hrun, hown, hgr⟩ := run_make_full (P := Tryd.prog) wc wc.heap.size 45 34 i0 _ 3 Tryd.underlying45 hi hz0 hz1 .i64 .i64 N (by rw [hz2]; omega) (by unfold maxLen; omega) (Nat.le_refl _)
    rw [made_vals] at hown
    have b5 : Below wc.heap.size wc w5 := (Below.refl _ _).grown hgr (Nat.le_refl _) (fun k hk => by cases hk)
    obtain ⟨X, hX⟩ : ∃ X, o.L ++ List.replicate (N - o.L.length) E0 = X := ⟨_, rfl⟩
    have hXl : N ≤ X.length := by rw [← hX]; simp; omega
    have hS0 : RLn o q pv ev wc wc.heap.size N X 0 w5 := ⟨HR5.out.below b5, by unfold rowX; simpa using hown, b5, HR5.out.all_lt⟩
    have HS0 := Lib.hid hS0
    have HXX := Lib.hid (And.intro hX hXl)
    obtain ⟨g, hg⟩ : ∃ g, wc.heap.size = g := ⟨_, rfl⟩
    have HBW := Lib.hid HB5.out.1
    rw [hg] at hrun HS0
    clear hown hgr b5 hS0 hi hz0 hz1 hz2 HB5 HR5 HZ HPL HAR HG HGF HCL HA HRO
    go_wp2_with (fail)
    clear hrun y0 y1 ly
    clear hg
    go_loopw [13] (fun v wr => ∃ i : Nat, i ≤ N ∧ v = .int .i64 (i : Int) ∧ Hid (RLn o q pv ev wc g N X i wr)) (fun v _ => N - (intOf v).toNat)
    case atStart => exact ⟨0, Nat.zero_le _, rfl, HS0⟩
    case round =>
      clear HS0
      obtain ⟨i, hi2, rfl, HS⟩ := hrel
      by_cases hlt : i < N
      · have t3 : decide ((i : Int) < (N : Int)) = true := by simp; omega
        have z0 : (0 : Int) ≤ (i : Int) := by omega
        have z1 : (i : Int) < (N : Int) := by omega
        have ac : IntKind.i64.wrap ((i : Int) + 1) = ((i + 1 : Nat) : Int) := by rw [IntWalk.i64_in _ (by omega)]; rfl
        obtain ⟨hX, hXl⟩ := HXX.out
        have hrl := rowX_len hXl hi2
        have hlv : (valsC (rowX X N i)).length = N * 3 := by rw [valsC_length, hrl]
        have e0 : wr.cell? ⟨g, i * 3, none⟩ = some (.int .i64 0) := by
          rw [HS.out.row.cellAt (i * 3) (by omega)]
          exact valsC_get (rowX X N i) i 0 Z0 (rowX_at hXl hlt) (by decide)
        have f0 := HS.out.row.frozenAt (i * 3)
        have lg := World.block_lt_of_cell? wr _ e0
        obtain ⟨n, hn⟩ : ∃ n, o.L.length = n := ⟨_, rfl⟩
        have hrow := HS.out.ro.re
        rw [hn] at hrow
        obtain ⟨ea, ecap, hev, hea⟩ := own_shape hrow
        have x5 : wr.cell? ⟨q, 5, none⟩ = some (.slice ea n ecap) := by rw [HS.out.ro.ob.cell, ← hev]; rfl
        have lq := HS.out.ro.ob.lt
        have hqg : q ≠ g := fun e => own_blk_ne HS.out.row HS.out.ro.ob (by decide) (by rw [e]; rfl)
        by_cases hin : i < n
        · have t4 : decide ((i : Int) < (n : Int)) = true := by simp; omega
          have z2 : (i : Int) < (n : Int) := by omega
          obtain ⟨h, rfl⟩ := hea (by omega)
          obtain ⟨x, hx⟩ : ∃ x, o.L[i]? = some x := ⟨_, List.getElem?_eq_getElem (by omega)⟩
          have hxX : X[i]? = some x := by rw [← hX, List.getElem?_append_left (by omega)]; exact hx
          have hhg : h ≠ g := fun e => by
            have h1 := (HS.out.row.lt g rfl).1
            have h2 := HS.out.lo h (.inr (.inr (by rw [hev]; rfl)))
            omega
          have hnx := (HS.out.next hXl hlt hxX).2
          have hoe : ∀ j : Nat, j < 3 → wr.cell? ⟨h, i * 3 + j, none⟩ = ([.int .i64 x.1, .int .i64 x.2.1, .string x.2.2] : List Value)[j]? := fun j hj => by
            rw [show wr.cell? ⟨h, i * 3 + j, none⟩ = (valsC o.L)[i * 3 + j]? from by
              have hr2 := hrow
              rw [hev] at hr2
              exact hr2.cellAt (i * 3 + j) (by omega)]
            exact valsC_get o.L i j x hx hj
          obtain ⟨x1, x2, x3⟩ := x
          have c0 : wr.cell? ⟨h, i * 3, none⟩ = some (.int .i64 x1) := hoe 0 (by decide)
          have c1 : wr.cell? ⟨h, i * 3 + 1, none⟩ = some (.int .i64 x2) := hoe 1 (by decide)
          have c2 : wr.cell? ⟨h, i * 3 + 2, none⟩ = some (.string x3) := hoe 2 (by decide)
          obtain ⟨u1, e1⟩ : ∃ u, wr.cell? ⟨g, i * 3 + 1, none⟩ = some u := ⟨_, (HS.out.row.cellAt (i * 3 + 1) (by omega)).trans (List.getElem?_eq_getElem (by rw [hlv]; omega))⟩
          obtain ⟨u2, e2⟩ : ∃ u, wr.cell? ⟨g, i * 3 + 2, none⟩ = some u := ⟨_, (HS.out.row.cellAt (i * 3 + 2) (by omega)).trans (List.getElem?_eq_getElem (by rw [hlv]; omega))⟩
          have f1 := HS.out.row.frozenAt (i * 3 + 1)
          have f2 := HS.out.row.frozenAt (i * 3 + 2)
          have HN := Lib.hid hnx
          clear hnx hoe hx hxX hrow hev hea hn hX hXl hrl hlv HS
          go_wp2_with (fail)
          go_roundw
          case rel => exact ⟨i + 1, by omega, rfl, HN⟩
          case measure => simp [intOf]; omega
        · have t4 : decide ((i : Int) < (n : Int)) = false := by simp; omega
          have hxX : X[i]? = some E0 := by
            rw [← hX, List.getElem?_append_right (by omega), List.getElem?_replicate, if_pos (by omega)]
          have HN := Lib.hid ((HS.out.next hXl hlt hxX).1 rfl)
          clear hxX hrow hev hea hn hX hXl hrl hlv HS
          go_wp2_with (fail)
          go_roundw
          case rel => exact ⟨i + 1, by omega, rfl, HN⟩
          case measure => simp [intOf]; omega
      · obtain rfl : i = N := by omega
        have t3 : decide ((i : Int) < (i : Int)) = false := by simp
        obtain ⟨hX, hXl⟩ := HXX.out
        have hfr := HS.out.ro.ob.frozen 5
        have lq := HS.out.ro.ob.lt
        obtain ⟨x5v, x5⟩ : ∃ v, wr.cell? ⟨q, 5, none⟩ = some v := ⟨_, by rw [HS.out.ro.ob.cell]; rfl⟩
        clear hX hXl
        go_wp2
        go_ret
        exact .inl ⟨by omega, rfl, HS.out.done HXX.out.2 HBW.out⟩
end Go.Proofs.YtmimnaaofpkndaaDoor.Hp
