/- HsH: several texts in one. -/
import Derived.Test.YtmimnaaofpkndaaDoorHsF
/- HeapRuns: the document's Define: refused. -/
set_option linter.unusedVariables false
set_option linter.unusedSimpArgs false
namespace Go.Proofs.YtmimnaaofpkndaaDoor.Hp
open Go.RowKit Go.Proofs.YtmimnaaofpkndaaDoor Go.Shelf Go.Sort
attribute [local go_sem] Oper.semAt_some
/-- The document refuses as the heap does. -/
def refuseR (gf f : Int) : Bool := (bits .and .i64 gf 4 == 0) && ((bits .and .i64 gf 1 == 0) || (bits .or .i64 f 1 != bits .or .i64 gf 1))
theorem refuse_all : ((List.range 16).all fun a => (List.range 16).all fun b => refuse (a : Int) (b : Int) == refuseR (a : Int) (b : Int)) = true := by kernel_rfl
theorem refuse_ref {gf f : Int} (h0 : 0 ≤ gf) (h1 : gf < 16) (h2 : 0 ≤ f) (h3 : f < 16) : refuse gf f = refuseR gf f := by
  have h := refuse_all
  rw [List.all_eq_true] at h
  have h4 := h gf.toNat (List.mem_range.2 (by omega))
  rw [List.all_eq_true] at h4
  have h5 := h4 f.toNat (List.mem_range.2 (by omega))
  rw [show ((gf.toNat : Nat) : Int) = gf by omega, show ((f.toNat : Nat) : Int) = f by omega] at h5
  exact eq_of_beq h5
theorem getA_flags {o : PO} (hO : o.Ok) (k : K3) : 0 ≤ (getA o.A k).2.1 ∧ (getA o.A k).2.1 < 16 := by
  unfold getA
  cases hf : o.A.find? (isKey k) with
  | none => exact ⟨Int.le_refl _, by decide⟩
  | some x => exact (hO.ks x (List.mem_of_find?_eq_some hf)).2.2
theorem own_flags {o : PO} (hO : o.Ok) (k : K3) : 0 ≤ (o.own k).2.1 ∧ (o.own k).2.1 < 16 := by
  have hg := getA_flags hO k
  unfold PO.own
  split
  · split
    · split
      · split
        · exact ⟨Int.le_refl _, by decide⟩
        · dsimp only; split <;> decide
      · exact ⟨Int.le_refl _, by decide⟩
    · split
      · dsimp only; split <;> decide
      · exact hg
  · exact hg
set_option maxRecDepth 100000 in
set_option maxHeartbeats 4000000 in
/-- Define, refused for what is there, or for the object being closed. -/
theorem rdefine_no {o : PO} {q : Nat} {pv ev : Value} {w : World} {k v : K3} {f : Int} (h : RO o q pv ev w) (hO : o.Ok) (hk : KS k) (hG : LG w) (hA : o.A.length ≤ 4000) (hf0 : 0 ≤ f) (hf1 : f < 16) (hno : (((!(o.own k).2.2) && o.clo) || ((o.own k).2.2 && refuse (o.own k).2.1 f)) = true) :
    Calls Tryd.prog 60 #[.pointer (some ⟨q, 0, none⟩), VK k, VK v, .int .i64 f] w fun e w' => e = .returned (.bool false) ∧ Below w.heap.size w w' := by
  have HNO := Lib.hid hno
  clear hno
  have HRO := Lib.hid (And.intro h (And.intro hO (And.intro hk (And.intro hG (And.intro hA (And.intro hf0 hf1))))))
  obtain ⟨gv, gf, gb, hg⟩ : ∃ (gv : K3) (gf : Int) (gb : Bool), o.own k = (gv, gf, gb) := ⟨_, _, _, rfl⟩
  obtain ⟨⟨r1, r2, r3⟩, hrk⟩ : ∃ x, rkey o k = x := ⟨_, rfl⟩
  obtain ⟨g1, g2, g3⟩ := gv
  have hown : ∀ W, Below w.heap.size w W → Calls Tryd.prog 62 #[.pointer (some ⟨q, 0, none⟩), VK k] W fun e w' => e = .returned (.tuple #[PV (r1, r2, r3) (g1, g2, g3) gf, .bool gb]) ∧ Below W.heap.size W w' := fun W bW => by
    have := rown_any (HRO.out.1.below bW) HRO.out.2.1 HRO.out.2.2.1 (HRO.out.2.2.2.1.below bW) HRO.out.2.2.2.2.1
    rw [hg, hrk] at this
    exact this
  have HOW := Lib.hid hown
  have HG := Lib.hid hg
  have hgf := own_flags hO k
  rw [hg] at hgf
  have HGF := Lib.hid (refuse_ref hgf.1 hgf.2 hf0 hf1)
  obtain ⟨k1, k2, k3⟩ := k
  obtain ⟨v1, v2, v3⟩ := v
  have HB := Lib.hid (two_boxes w k1 k2 k3 v1 v2 v3)
  clear h hO hk hG hown hg hA hf0 hf1 hrk hgf
  go_enter Tryd.func60, Tryd.ntmps60
  go_wp2_with (fail)
  refine (HOW.out _ HB.out.1).mono ?_
  rintro e w2 ⟨rfl, b2⟩
  obtain ⟨b1, kb, vb⟩ := HB.out
  have b23 : Below w2.heap.size w2 (w2.alloc (.cells #[.int .i64 r1, .int .i64 r2, .string r3, .int .i64 g1, .int .i64 g2, .string g3, .int .i64 gf] 127)) := (Below.refl _ _).alloc (Nat.le_refl _) _
  have HB3 := Lib.hid (And.intro ((b1.trans (b2.mono b1.size)).trans (b23.mono (Nat.le_trans b1.size b2.size))) (And.intro ((kb.below b2 kb.lt).below b23 (Nat.lt_of_lt_of_le kb.lt b2.size)) (And.intro ((vb.below b2 vb.lt).below b23 (Nat.lt_of_lt_of_le vb.lt b2.size)) (Blk.new w2 127 #[.int .i64 r1, .int .i64 r2, .string r3, .int .i64 g1, .int .i64 g2, .string g3, .int .i64 gf]))))
  clear b1 kb vb b2 b23 HB HOW
  go_upto_region 2 with fail
  generalize (w2.alloc (.cells #[.int .i64 r1, .int .i64 r2, .string r3, .int .i64 g1, .int .i64 g2, .string g3, .int .i64 gf] 127)) = w3 at *
  generalize w2.heap.size = q2 at *
  have c2 : w3.cell? ⟨q, 1, none⟩ = some (.bool o.clo) := by rw [(HRO.out.1.below HB3.out.1).ob.cell]; rfl
  have lo := (HRO.out.1.below HB3.out.1).ob.lt
  have cf : w3.cell? ⟨q2, 6, none⟩ = some (.int .i64 gf) := by rw [HB3.out.2.2.2.cell]; rfl
  have lf := HB3.out.2.2.2.lt
  obtain ⟨cl, hcl⟩ : ∃ c, o.clo = c := ⟨_, rfl⟩
  rw [hcl] at c2
  have HCL := Lib.hid hcl
  clear hcl
  go_cut [28] (fun s28 wx => s28 = .bool (!gb && cl) ∧ w3 = wx)
  case first =>
    cases gb with
    | true =>
      go_wp2_with fail
      go_meet
      exact ⟨rfl, rfl⟩
    | false =>
      go_wp2_with fail
      go_meet
      exact ⟨rfl, rfl⟩
  case rest =>
  obtain ⟨rfl, rfl⟩ := hcut
  have hno := HNO.out
  rw [HG.out, HCL.out] at hno
  dsimp only at hno
  have HNN := Lib.hid hno
  clear hno HNO c2
  cases hx : (!gb && cl) with
  | true =>
    clear hx
    go_wp2
    go_ret
    exact ⟨rfl, HB3.out.1⟩
  | false =>
    have HX := Lib.hid hx
    clear hx
    obtain ⟨c1, hc1⟩ : ∃ c, (bits .and .i64 gf 4 == 0) = c := ⟨_, rfl⟩
    obtain ⟨c2', hc2⟩ : ∃ c, (bits .and .i64 gf 1 == 0) = c := ⟨_, rfl⟩
    obtain ⟨c3, hc3⟩ : ∃ c, (bits .or .i64 f 1 != bits .or .i64 gf 1) = c := ⟨_, rfl⟩
    have hrf : refuse gf f = (c1 && (c2' || c3)) := by rw [HGF.out]; unfold refuseR; rw [hc1, hc2, hc3]
    have HRF := Lib.hid hrf
    clear hrf
    go_upto_region 4 with fail
    go_cut [35] (fun s35 wx => s35 = .bool (gb && c1) ∧ w3 = wx)
    case first =>
      clear hc2 hc3
      cases gb with
      | false =>
        clear hc1
        go_wp2_with fail
        go_meet
        exact ⟨rfl, rfl⟩
      | true =>
        go_wp2_with fail
        go_meet
        exact ⟨rfl, rfl⟩
    case rest =>
    obtain ⟨rfl, rfl⟩ := hcut
    clear hc1
    have hy : gb = true ∧ c1 = true ∧ (c2' || c3) = true := by
      have := HNN.out
      rw [HX.out, HRF.out] at this
      simpa using this
    obtain ⟨rfl, rfl, h3⟩ := hy
    clear HNN HRF HX
    cases c2' with
    | true =>
      clear h3 hc3
      go_wp2
      go_ret
      exact ⟨rfl, HB3.out.1⟩
    | false =>
      obtain rfl : c3 = true := by simpa using h3
      go_wp2
      go_ret
      exact ⟨rfl, HB3.out.1⟩
end Go.Proofs.YtmimnaaofpkndaaDoor.Hp

/- HeapRuns: the document's lists: one more, a value, flags. -/
set_option linter.unusedVariables false
set_option linter.unusedSimpArgs false
namespace Go.Proofs.YtmimnaaofpkndaaDoor.Hp
open Go.RowKit Go.Proofs.YtmimnaaofpkndaaDoor Go.Shelf Go.Sort
attribute [local go_sem] Oper.semAt_some
/-- The document's Define by the list. -/
theorem putA_none {o : PO} (hO : o.Ok) {k v : K3} {f : Int} (hk : KS k) (hf : fnd o.A k = -1) : putA k v f o.A = o.A ++ [⟨k, v, f, false⟩] := by
  have hn : ∀ x ∈ o.A, isKey k x = false := by
    rcases getA_fnd hO hk with ⟨_, _⟩ | ⟨i, x, _, _, h3, _⟩
    · intro x hx
      rw [ks_isKey hk (hO.ks x hx).1 (hO.ks x hx).2.1, decide_eq_false_iff_not]
      intro e
      unfold fnd fndI at hf
      cases hx2 : o.A.findIdx? (fun x => decide (x.key = k)) with
      | none =>
        rw [List.findIdx?_eq_none_iff] at hx2
        have := hx2 x hx
        rw [e] at this
        simp at this
      | some i => rw [hx2] at hf; dsimp only at hf; omega
    · rw [h3] at hf; omega
  unfold putA
  rw [if_neg (by rw [List.any_eq_true]; rintro ⟨x, hx, e⟩; rw [hn x hx] at e; cases e), ks_norm hk]
theorem putA_some {o : PO} (hO : o.Ok) {k v : K3} {f : Int} {i : Nat} {x : Ent} (hk : KS k) (hx : o.A[i]? = some x) (hxk : x.key = k) : putA k v f o.A = o.A.set i { x with val := v, flags := f } := by
  have hil := (List.getElem?_eq_some_iff.1 hx).1
  have hxe := (List.getElem?_eq_some_iff.1 hx).2
  have hm : x ∈ o.A := hxe ▸ List.getElem_mem hil
  unfold putA
  rw [if_pos (List.any_eq_true.2 ⟨x, hm, by rw [ks_isKey hk (hO.ks x hm).1 (hO.ks x hm).2.1, hxk]; simp⟩)]
  apply List.ext_getElem
  · simp
  · intro j h1 h2
    have hj : j < o.A.length := by simpa using h1
    rw [List.getElem_map, List.getElem_set]
    have hjm := List.getElem_mem hj
    have hks := ks_isKey hk (hO.ks _ hjm).1 (hO.ks _ hjm).2.1
    unfold updE
    by_cases e : i = j
    · subst e
      rw [if_pos rfl, hxe]
      rw [hxe, hxk] at hks
      simp [hks]
    · rw [if_neg e]
      have hne : o.A[j].key ≠ k := by
        intro e2
        have hn := hO.nd
        rw [List.pairwise_iff_getElem] at hn
        rcases Nat.lt_or_gt_of_ne e with e3 | e3
        · exact hn i j hil hj e3 (by rw [hxe, hxk, e2])
        · exact hn j i hj hil e3 (by rw [hxe, hxk, e2])
      rw [hks, decide_eq_false hne]
      rfl
theorem propsC_set (A : List Ent) (i : Nat) (x y : Ent) (hx : A[i]? = some x) : propsC (A.set i y) = (propsC A).take (i * 7) ++ propC y ++ (propsC A).drop (i * 7 + 7) := by
  induction A generalizing i with
  | nil => simp at hx
  | cons a A ih =>
    have e : ∀ a A, propsC (a :: A) = propC a ++ propsC A := fun _ _ => rfl
    have hl : ∀ a, (propC a).length = 7 := fun _ => rfl
    cases i with
    | zero =>
      rw [List.set_cons_zero, e, e, Nat.zero_mul, List.take_zero, List.nil_append, Nat.zero_add, List.drop_left' (hl a)]
    | succ i =>
      rw [List.getElem?_cons_succ] at hx
      rw [List.set_cons_succ, e, e, ih i hx, show (i + 1) * 7 = 7 + i * 7 by omega, show 7 + i * 7 + 7 = 7 + (i * 7 + 7) by omega]
      rw [show List.take (7 + i * 7) (propC a ++ propsC A) = propC a ++ (propsC A).take (i * 7) by
        rw [List.take_append, hl, List.take_of_length_le (by rw [hl]; omega), show 7 + i * 7 - 7 = i * 7 by omega]]
      rw [show List.drop (7 + (i * 7 + 7)) (propC a ++ propsC A) = (propsC A).drop (i * 7 + 7) by
        rw [List.drop_append, hl, List.drop_of_length_le (by rw [hl]; omega), List.nil_append, show 7 + (i * 7 + 7) - 7 = i * 7 + 7 by omega]]
      simp only [List.append_assoc]
theorem set_mid {α : Type} (l m r : List α) (j : Nat) (x : α) (hj : j < m.length) : (l ++ m ++ r).set (l.length + j) x = l ++ m.set j x ++ r := by
  rw [List.append_assoc, List.set_append_right _ _ (by omega), show l.length + j - l.length = j by omega, List.set_append_left _ _ hj, ← List.append_assoc]
theorem props_split (A : List Ent) (i : Nat) (x : Ent) (hx : A[i]? = some x) : propsC A = (propsC A).take (i * 7) ++ propC x ++ (propsC A).drop (i * 7 + 7) := by
  have h := propsC_set A i x x hx
  have e : A.set i x = A := by
    obtain ⟨h1, h2⟩ := List.getElem?_eq_some_iff.1 hx
    rw [← h2]
    exact List.set_getElem_self h1
  rwa [e] at h
section
variable {o : PO} {q : Nat} {pv ev : Value} {W w3 : World}
/-- One property more: what the append and the store leave. -/
theorem RO.more {g cap n : Nat} (x : Ent) (h : RO o q pv ev W) (hn : o.A.length = n) (hown : w3.ownsRow 1 127 7 (.slice (some ⟨g, 0, none⟩) (n + 1) cap) (n + 1) (propsC o.A ++ propC x)) (hgrow : W.grownBy w3 pv.ownBlock) (hat : pv.ownBlock = some g ∨ W.heap.size ≤ g) :
    RO { o with A := o.A ++ [x] } q (.slice (some ⟨g, 0, none⟩) (n + 1) cap) ev (w3.setCell ⟨q, 4, none⟩ (.slice (some ⟨g, 0, none⟩) (n + 1) cap)) ∧ Upd W (w3.setCell ⟨q, 4, none⟩ (.slice (some ⟨g, 0, none⟩) (n + 1) cap)) (roB q pv ev) := by
  have hb := h.ob.grown hgrow (fun e => h.np e.symm)
  have u : Upd W (w3.setCell ⟨q, 4, none⟩ (.slice (some ⟨g, 0, none⟩) (n + 1) cap)) (fun k => k = q ∨ pv.ownBlock = some k) := ((Upd.refl W _).grown hgrow (fun k e => .inr e)).set q 4 _ (.inl rfl)
  refine ⟨⟨hb.set_ 4 _, ?_, u.own h.re (fun k hk e => ?_), fun g' hg' => ?_⟩, u.mono (fun k _ e => e.imp id .inl)⟩
  · have h2 := own_set hown hb (by decide) 4 (.slice (some ⟨g, 0, none⟩) (n + 1) cap)
    rw [propsC_append, List.length_append, hn]
    exact h2
  · rcases e with e | e
    · subst e; exact h.ne hk
    · exact h.sep k e hk
  · obtain rfl : g = g' := by simpa [Value.ownBlock] using hg'
    intro e
    rcases hat with e2 | e2
    · exact h.sep g e2 e
    · have := (h.re.lt g e).2; omega
/-- A property's value. -/
theorem RO.setVal {g cap n i : Nat} {x : Ent} (v : K3) (h : RO o q (.slice (some ⟨g, 0, none⟩) n cap) ev W) (hn : o.A.length = n) (hx : o.A[i]? = some x) :
    RO { o with A := o.A.set i { x with val := v } } q (.slice (some ⟨g, 0, none⟩) n cap) ev (((W.setCell ⟨g, i * 7 + 3, none⟩ (.int .i64 v.1)).setCell ⟨g, i * 7 + 4, none⟩ (.int .i64 v.2.1)).setCell ⟨g, i * 7 + 5, none⟩ (.string v.2.2)) ∧ Upd W (((W.setCell ⟨g, i * 7 + 3, none⟩ (.int .i64 v.1)).setCell ⟨g, i * 7 + 4, none⟩ (.int .i64 v.2.1)).setCell ⟨g, i * 7 + 5, none⟩ (.string v.2.2)) (fun k => k = g) := by
  have hil := (List.getElem?_eq_some_iff.1 hx).1
  have hr := h.rp
  rw [hn] at hr
  have h3 := ((((hr.stored (i * 7 + 3) (.int .i64 v.1)).1.stored (i * 7 + 4) (.int .i64 v.2.1)).1).stored (i * 7 + 5) (.string v.2.2)).1
  have hll : ((propsC o.A).take (i * 7)).length = i * 7 := by rw [List.length_take, propsC_length]; omega
  have e : (((propsC o.A).set (i * 7 + 3) (.int .i64 v.1)).set (i * 7 + 4) (.int .i64 v.2.1)).set (i * 7 + 5) (.string v.2.2) = propsC (o.A.set i { x with val := v }) := by
    rw [propsC_set o.A i x _ hx]
    conv => lhs; rw [props_split o.A i x hx]
    generalize (propsC o.A).take (i * 7) = l at *
    rw [← hll, set_mid l _ _ 3 _ (by simp [propC]), set_mid l _ _ 4 _ (by simp [propC]), set_mid l _ _ 5 _ (by simp [propC])]
    rfl
  rw [e] at h3
  have hb : q ≠ g := fun e => h.np (by rw [e]; rfl)
  have u : Upd W (((W.setCell ⟨g, i * 7 + 3, none⟩ (.int .i64 v.1)).setCell ⟨g, i * 7 + 4, none⟩ (.int .i64 v.2.1)).setCell ⟨g, i * 7 + 5, none⟩ (.string v.2.2)) (fun k => k = g) := (((Upd.refl W (fun k => k = g)).set g _ _ rfl).set g _ _ rfl).set g _ _ rfl
  exact ⟨⟨((h.ob.far hb _).far hb _).far hb _, by rw [List.length_set, hn]; exact h3, u.own h.re (fun k hk e => h.sep g rfl (e ▸ hk)), h.sep⟩, u⟩
/-- A property's flags. -/
theorem RO.setFlag {g cap n i : Nat} {x : Ent} (f : Int) (h : RO o q (.slice (some ⟨g, 0, none⟩) n cap) ev W) (hn : o.A.length = n) (hx : o.A[i]? = some x) :
    RO { o with A := o.A.set i { x with flags := f } } q (.slice (some ⟨g, 0, none⟩) n cap) ev (W.setCell ⟨g, i * 7 + 6, none⟩ (.int .i64 f)) ∧ Upd W (W.setCell ⟨g, i * 7 + 6, none⟩ (.int .i64 f)) (fun k => k = g) := by
  have hil := (List.getElem?_eq_some_iff.1 hx).1
  have hr := h.rp
  rw [hn] at hr
  have h3 := (hr.stored (i * 7 + 6) (.int .i64 f)).1
  have hll : ((propsC o.A).take (i * 7)).length = i * 7 := by rw [List.length_take, propsC_length]; omega
  have e : (propsC o.A).set (i * 7 + 6) (.int .i64 f) = propsC (o.A.set i { x with flags := f }) := by
    rw [propsC_set o.A i x _ hx]
    conv => lhs; rw [props_split o.A i x hx]
    generalize (propsC o.A).take (i * 7) = l at *
    rw [← hll, set_mid l _ _ 6 _ (by simp [propC])]
    rfl
  rw [e] at h3
  have hb : q ≠ g := fun e => h.np (by rw [e]; rfl)
  have u : Upd W (W.setCell ⟨g, i * 7 + 6, none⟩ (.int .i64 f)) (fun k => k = g) := (Upd.refl W (fun k => k = g)).set g _ _ rfl
  exact ⟨⟨h.ob.far hb _, by rw [List.length_set, hn]; exact h3, u.own h.re (fun k hk e => h.sep g rfl (e ▸ hk)), h.sep⟩, u⟩
end
end Go.Proofs.YtmimnaaofpkndaaDoor.Hp
