/- HeapRuns: the heap's Keys. -/
import Derived.Test.YtmimnaaofpkndaaDoorHrW
import Derived.Test.YtmimnaaofpkndaaDoorOrdC
import Derived.Deep.CutBlock
set_option linter.unusedVariables false
set_option linter.unusedSimpArgs false
namespace Go.Proofs.YtmimnaaofpkndaaDoor.Hp
open Go.RowKit Go.Proofs.YtmimnaaofpkndaaDoor Go.Shelf Go.Sort
attribute [local go_sem] Oper.semAt_some
theorem own_newsH {W : World} {B n : Nat} {T : List K3} {a : Option Addr} {c : Nat} (h : W.ownsRow B 34 3 (.slice a n c) n (valsC T)) : 0 < n → ∃ ad, a = some ad ∧ ∀ j u, (valsC T)[j]? = some u → W.cell? (ad.add j) = some u := by
  intro hn
  obtain ⟨a', c', e, ha⟩ := own_shape h
  injection e with e1 e2 e3
  subst e1
  obtain ⟨g, rfl⟩ := ha hn
  refine ⟨_, rfl, fun j u hu => ?_⟩
  rw [add_atv, Nat.zero_add]
  exact (h.cellAt j (by rw [← h.1]; exact (List.getElem?_eq_some_iff.1 hu).1)).trans hu
section
variable {w W W' : World} {S0 L : Nat} {Bs : List (Nat × TypeId × Array Value)} {Ow O1 O1' : Nat → Prop} {lv : Value} {ks ks' : List K3}
/-- Others' keys behind one's own. -/
theorem Coll.onto {n : Nat} {w3 : World} {v' : Value} (h : Coll w S0 L Bs Ow lv ks O1 W) (hn : (ks ++ ks').length = n) (hown : w3.ownsRow w.heap.size 34 3 v' n (valsC ks ++ valsC ks'))
    (hgrow : W.grownBy w3 lv.ownBlock) (hat : ∀ g, v'.ownBlock = some g → lv.ownBlock = some g ∨ W.heap.size ≤ g) :
    Coll w S0 L Bs Ow v' (ks ++ ks') O1 (w3.setCell ⟨L, 0, none⟩ v') ∧ Upd W (w3.setCell ⟨L, 0, none⟩ v') (fun k => ¬ O1 k) ∧ Blk w3 L 45 #[lv] := by
  have kL3 : Blk w3 L 45 #[lv] := Blk.grown h.box hgrow (fun e => own_blk_ne h.row h.box (by decide) e.symm)
  have u3 : Upd W w3 (fun k => lv.ownBlock = some k) := (Upd.refl W _).grown hgrow (fun k e => e)
  have u4 : Upd W (w3.setCell ⟨L, 0, none⟩ v') (fun k => lv.ownBlock = some k ∨ k = L) := (u3.mono fun k _ e => .inl e).set L 0 _ (.inr rfl)
  have hlow : ∀ k, (lv.ownBlock = some k ∨ k = L) → w.heap.size ≤ k ∧ ¬ O1 k := fun k hk => by
    rcases hk with hk | rfl
    · exact ⟨(h.row.lt k hk).1, h.nr k hk⟩
    · exact ⟨h.hL, h.nL⟩
  refine ⟨⟨kL3.set_ 0 _, ?_, fun g' hg' e => ?_, fun x hx => ⟨u4.blk (h.bs x hx).1 (fun e => ?_), (h.bs x hx).2⟩, h.bt, Upd.join h.upd (u4.mono fun k _ e => .inr (hlow k e).1), h.o, fun k hk => Nat.lt_of_lt_of_le (h.lt k hk) u4.size, h.nL, Nat.le_trans h.z u4.size, h.hL⟩, u4.mono fun k _ e => (hlow k e).2, kL3⟩
  · rw [hn, valsC_append]
    exact own_set hown kL3 (by decide) 0 _
  · rcases hat g' hg' with q | q
    · exact h.nr _ q e
    · have := h.lt _ e; omega
  · rcases e with e | e
    · exact own_blk_ne h.row (h.bs x hx).1 (h.bt x hx).1 e
    · exact (h.bt x hx).2 e
end
/-- The places of an array up to j. -/
def plcJ (L : List K3) (j : Nat) : List K3 := ((List.range j).filter (fun i => decide ((L.getD i E0).1 ≠ 10))).map keyD
theorem plcJ_succ (L : List K3) (j : Nat) : plcJ L (j + 1) = plcJ L j ++ if (L.getD j E0).1 ≠ 10 then [keyD j] else [] := by
  unfold plcJ
  rw [List.range_succ, List.filter_append, List.map_append]
  congr 1
  by_cases h : (L.getD j E0).1 ≠ 10
  · rw [if_pos h, List.filter_cons_of_pos (by simpa using h)]; rfl
  · rw [if_neg h, List.filter_cons_of_neg (by simpa using h)]; rfl
theorem plcJ_len (L : List K3) (j : Nat) : (plcJ L j).length ≤ j := by
  unfold plcJ
  rw [List.length_map]
  exact Nat.le_trans (List.length_filter_le _ _) (by simp)
abbrev kBs (p b T : Nat) (o : PO) (lv : Value) : List (Nat × TypeId × Array Value) := [(p, 26, #[.pointer (some ⟨b, 0, none⟩)]), (b, 51, objA (clV o) (o.pr : Int) o.clo T lv nilP nilP nilS (atV o))]
/-- Keys on its way. -/
structure KC (o : PO) (b T : Nat) (lv : Value) (Ot : Nat → Prop) (w : World) (v : Value) (ks : List K3) (O1 : Nat → Prop) (W : World) : Prop where
  c : Coll w (w.heap.size + 2) (w.heap.size + 1) (kBs w.heap.size b T o lv) Ot v ks O1 W
  t : TabA W T o.A [] O1
section
variable {o : PO} {b T : Nat} {lv v : Value} {Ot O1 : Nat → Prop} {w W W' : World} {ks : List K3}
theorem KC.below (h : KC o b T lv Ot w v ks O1 W) (u : Below W.heap.size W W') : KC o b T lv Ot w v ks O1 W' := ⟨h.c.below u, h.t.below u⟩
theorem KC.kp (h : KC o b T lv Ot w v ks O1 W) : Blk W w.heap.size 26 #[.pointer (some ⟨b, 0, none⟩)] := (h.c.bs _ (List.mem_cons_self)).1
theorem KC.kb (h : KC o b T lv Ot w v ks O1 W) : Blk W b 51 (objA (clV o) (o.pr : Int) o.clo T lv nilP nilP nilS (atV o)) := (h.c.bs _ (List.mem_cons_of_mem _ List.mem_cons_self)).1
theorem KC.io (h : KC o b T lv Ot w v ks O1 W) (hI : LieO o b T lv Ot w) : LieO o b T lv O1 W := by
  refine ⟨h.kb, h.c.upd.own hI.row hI.nl, h.t, (h.c.bs _ (List.mem_cons_of_mem _ List.mem_cons_self)).2, fun g hg e => ?_, h.c.lt⟩
  rcases h.c.o g e with q | q
  · exact hI.nl g hg q
  · have := (hI.row.lt g hg).2; omega
end
theorem kc_start {o : PO} {b T : Nat} {lv : Value} {Ot : Nat → Prop} {w : World} (h : LieO o b T lv Ot w) : KC o b T lv Ot w (.slice none 0 0) [] Ot ((w.alloc (.cells #[.pointer (some ⟨b, 0, none⟩)] 26)).alloc (.cells #[.slice none 0 0] 45)) := by
  have bb : Below w.heap.size w ((w.alloc (.cells #[.pointer (some ⟨b, 0, none⟩)] 26)).alloc (.cells #[.slice none 0 0] 45)) := ((Below.refl _ _).alloc (Nat.le_refl _) _).alloc (by simp) _
  have hbl := h.ob.lt
  have nO : ∀ k, w.heap.size ≤ k → ¬ Ot k := fun k hk e => by have := h.lt k e; omega
  have kL := Blk.new (w.alloc (.cells #[.pointer (some ⟨b, 0, none⟩)] 26)) 45 #[.slice none 0 0]
  rw [World.size_alloc] at kL
  refine ⟨⟨kL, World.ownsRow_nil _ _ _ _, fun g hg => (by (simp [Value.ownBlock] at hg)), fun x hx => ?_, fun x hx => ?_, Upd.of_below_all bb, fun k hk => .inl hk, fun k hk => Nat.lt_of_lt_of_le (h.lt k hk) bb.size, nO _ (by omega), by simp, by omega⟩, h.tab.below bb⟩
  · rcases List.mem_cons.1 hx with rfl | hx
    · exact ⟨(Blk.new w _ _).alloc _, nO _ (Nat.le_refl _)⟩
    · rw [List.mem_singleton] at hx
      subst hx
      exact ⟨h.ob.below bb hbl, h.nb⟩
  · rcases List.mem_cons.1 hx with rfl | hx
    · exact ⟨show 34 ≠ 26 by decide, by dsimp only; omega⟩
    · rw [List.mem_singleton] at hx
      subst hx
      exact ⟨show 34 ≠ 51 by decide, by dsimp only; omega⟩
def DfA (D : Nat) (O : Nat → Prop) (W : World) : Prop := W.heap[D]? = some (.deferred (some [])) ∧ ¬ O D
section
variable {D : Nat} {O O' : Nat → Prop} {W W' : World}
theorem DfA.lt (h : DfA D O W) : D < W.heap.size := (Array.getElem?_eq_some_iff.1 h.1).1
theorem DfA.up (h : DfA D O W) (u : Upd W W' O) (h2 : ∀ k, O' k → O k ∨ W.heap.size ≤ k) : DfA D O' W' :=
  ⟨(u.block D h.lt h.2).trans h.1, fun e => (h2 D e).elim h.2 (fun e => by have := h.lt; omega)⟩
theorem DfA.keep (h : DfA D O W) (k : KeepsOthers W W') : DfA D O W' := ⟨k.same _ _ h.1 rfl, h.2⟩
theorem DfA.put (h : DfA D O W) {l : Nat} {o : Obj} (hl : l ≠ D) : DfA D O (W.putObj l o) := ⟨(World.putObj_heap_other (Ne.symm hl)).trans h.1, h.2⟩
end
theorem filter_one {α : Type} (p : α → Bool) (e : α) : [e].filter p = if p e = true then [e] else [] := by cases h : p e <;> simp [h]
theorem txtA_one (arr : Bool) (pre : List Ent) (e : Ent) : txtA arr (pre ++ [e]) = txtA arr pre ++ if (decide (e.key.1 = 7) && (arr || decide (plcV e.key < 0))) = true then [e.key] else [] := by
  unfold txtA
  rw [List.filter_append, List.map_append, filter_one]
  congr 1
  by_cases h : (decide (e.key.1 = 7) && (arr || decide (plcV e.key < 0))) = true
  · rw [if_pos h, if_pos h]; rfl
  · rw [if_neg h, if_neg h]; rfl
theorem symA_one (pre : List Ent) (e : Ent) : symA (pre ++ [e]) = symA pre ++ if e.key.1 = 8 then [e.key] else [] := by
  unfold symA
  rw [List.filter_append, List.map_append]
  congr 1
  by_cases h : e.key.1 = 8
  · rw [if_pos h, List.filter_cons_of_pos (by simpa using h)]; rfl
  · rw [if_neg h, List.filter_cons_of_neg (by simpa using h)]; rfl
/-- What Keys comes to. -/
def KeysP (o : PO) (T : Nat) (Ot : Nat → Prop) (w : World) (e : Ending) (w' : World) : Prop :=
  ∃ rv O', e = .returned rv ∧ w'.ownsRow w.heap.size 34 3 rv o.keys.length (valsC o.keys) ∧ TabA w' T o.A [] O' ∧ (∀ k, O' k → Ot k ∨ w.heap.size ≤ k) ∧ Upd w w' Ot ∧ ∀ g, rv.ownBlock = some g → ¬ O' g
set_option maxRecDepth 100000 in
set_option maxHeartbeats 40000000 in
theorem keys_io {o : PO} {b T : Nat} {lv : Value} {Ot : Nat → Prop} {w : World} (h : LieO o b T lv Ot w) (hO : o.Ok) (hA : o.A.length ≤ 4000) (hLg : Lg w) (hn0 : ¬ Ot 0) :
    Calls Tryd.prog 36 #[.pointer (some ⟨b, 0, none⟩)] w (KeysP o T Ot w) := by
  obtain ⟨i0, hi, hz0, hz1, hz2⟩ := info_parts infoVal
  obtain ⟨p, hp⟩ : ∃ p, w.heap.size = p := ⟨_, rfl⟩
  have hK0 := kc_start h
  obtain ⟨n, hn⟩ : ∃ n, o.L.length = n := ⟨_, rfl⟩
  have hn40 : n ≤ 40 := hn ▸ hO.le
  obtain ⟨ea, ecap, hev, hea⟩ := own_shape h.row
  rw [hn] at hev hea
  obtain ⟨ar, har⟩ : ∃ ar, o.arr = ar := ⟨_, rfl⟩
  obtain ⟨K2, hK2⟩ : ∃ K2 : List K3, (if o.arr = true then plcL o.L else plcA o.A) = K2 := ⟨_, rfl⟩
  have HK2 := Lib.hid hK2
  clear hK2
  obtain ⟨clv, hclv⟩ : ∃ c : Int, (if o.arr = true then 1 else 0) = c := ⟨_, rfl⟩
  have hclv1 : o.arr = true → clv = 1 := fun e => by rw [← hclv, if_pos e]
  have hclv0 : o.arr = false → clv = 0 := fun e => by rw [← hclv, if_neg (by rw [e]; decide)]
  have HCL := Lib.hid (And.intro hclv1 (And.intro hclv0 hclv))
  clear hclv hclv1 hclv0
  have H := Lib.hid (And.intro h (And.intro hO (And.intro hA (And.intro hLg (And.intro hn0 (And.intro hn (And.intro hev (And.intro hea har))))))))
  have bb : Below w.heap.size w ((w.alloc (.cells #[.pointer (some ⟨b, 0, none⟩)] 26)).alloc (.cells #[.slice none 0 0] 45)) := ((Below.refl _ _).alloc (Nat.le_refl _) _).alloc (by simp) _
  have hpl : ar = false → n = 0 := fun e => by rw [← hn, hO.pl (har.trans e)]; rfl
  clear h hO hA hLg hn0 hn hev hea har
  refine callsM_of_wp Tryd.func36 rfl ?_
  simp only [Tryd.ntmps36, List.size_toArray, List.length_cons, List.length_nil, Nat.reduceAdd, Nat.reduceSub, Array.replicate_succ, Array.replicate_zero, List.push_toArray, List.append_toArray, List.nil_append, List.cons_append]
  go_upto_region 2 with fail
  generalize ((w.alloc (.cells #[.pointer (some ⟨b, 0, none⟩)] 26)).alloc (.cells #[.slice none 0 0] 45)) = W0 at *
  have y0 : W0.cell? ⟨p, 0, none⟩ = some (.pointer (some ⟨b, 0, none⟩)) := by rw [← hp, hK0.kp.cell]; rfl
  have y4 : W0.cell? ⟨b, 4, none⟩ = some (.slice ea n ecap) := by rw [hK0.kb.cell, ← H.out.2.2.2.2.2.2.1]; rfl
  have lb0 := hK0.kb.lt
  have HK0 := Lib.hid hK0
  clear hK0 bb
  go_wp2_with fail
  clear y0 y4 lb0
  go_loopw [4, 5, 13] (fun v4 v5 i wr => ∃ j : Nat, j ≤ n ∧ i = .int .i64 (j : Int) ∧ Hid (∃ v, KC o b T lv Ot w v (plcJ o.L j) Ot wr)) (fun _ _ i _ => n - (intOf i).toNat)
  case atStart => exact ⟨0, Nat.zero_le _, rfl, Lib.hid ⟨_, HK0.out⟩⟩
  case round =>
  obtain ⟨j, hj, rfl, HKI⟩ := hrel
  obtain ⟨v, hki⟩ := HKI.out
  clear HK0 HKI
  by_cases hlt : j < n
  · obtain ⟨hI, hO, hA, hLg, hn0, hn, hev, hea, har⟩ := H.out
    obtain ⟨x, hx⟩ : ∃ x, o.L[j]? = some x := ⟨_, List.getElem?_eq_getElem (by rw [hn]; exact hlt)⟩
    have hgetD : o.L.getD j E0 = x := by rw [List.getD_eq_getElem?_getD, hx]; rfl
    have hrow := hki.c.upd.own hI.row hI.nl
    rw [hn, hev] at hrow
    obtain ⟨ge, rfl⟩ := hea (by omega)
    have c0 : wr.cell? ⟨ge, j * 3, none⟩ = some (.int .i64 x.1) := (hrow.cellAt (j * 3) (by omega)).trans (valsC_get _ j 0 x hx (by decide))
    have c1 : wr.cell? ⟨ge, j * 3 + 1, none⟩ = some (.int .i64 x.2.1) := (hrow.cellAt (j * 3 + 1) (by omega)).trans (valsC_get _ j 1 x hx (by decide))
    have c2 : wr.cell? ⟨ge, j * 3 + 2, none⟩ = some (.string x.2.2) := (hrow.cellAt (j * 3 + 2) (by omega)).trans (valsC_get _ j 2 x hx (by decide))
    obtain ⟨nk, hnk⟩ : ∃ k, (plcJ o.L j).length = k := ⟨_, rfl⟩
    have hnkj : nk ≤ j := hnk ▸ plcJ_len o.L j
    obtain ⟨la, lcap, rfl⟩ : ∃ a c, v = Value.slice a nk c := by
      obtain ⟨a, c, e, _⟩ := own_shape hki.c.row
      rw [hnk] at e
      exact ⟨a, c, e⟩
    have t2 : decide ((j : Int) < (n : Int)) = true := by rw [decide_eq_true_eq]; omega
    have z0 : (0 : Int) ≤ (j : Int) := by omega
    have z1 : (j : Int) < (n : Int) := by omega
    have aw : IntKind.i64.wrap ((j : Int) + 1) = (j : Int) + 1 := IntWalk.i64_in _ (by omega)
    have b2 := (Below.refl wr.heap.size wr).alloc (Nat.le_refl _) (.cells #[.int .i64 x.1, .int .i64 x.2.1, .string x.2.2] 34)
    have HK2x := Lib.hid (And.intro (hki.below b2) (Blk.new wr 34 #[.int .i64 x.1, .int .i64 x.2.1, .string x.2.2]))
    have HNK := Lib.hid (And.intro hnk hgetD)
    obtain ⟨x1, x2, x3⟩ := x
    clear hI hO hA hLg hn0 hn hev hea har hx hrow hnk hgetD hki b2
    go_upto_region 5 with fail
    generalize wr.alloc (.cells #[.int .i64 x1, .int .i64 x2, .string x3] 34) = W2 at *
    generalize wr.heap.size = q2 at *
    clear c0 c1 c2
    have e0 : W2.cell? ⟨q2, 0, none⟩ = some (.int .i64 x1) := by rw [HK2x.out.2.cell]; rfl
    have lq2 := HK2x.out.2.lt
    by_cases h10 : x1 = 10
    · have t3 : (x1 != 10) = false := by simp [h10]
      have HF : Hid (∃ v, KC o b T lv Ot w v (plcJ o.L (j + 1)) Ot W2) := Lib.hid ⟨_, by
        rw [plcJ_succ, if_neg (by rw [HNK.out.2]; simp [h10]), List.append_nil]
        exact HK2x.out.1⟩
      subst h10
      go_wp2_with fail
      go_roundw
      case rel => exact ⟨j + 1, by omega, by go_num, HF⟩
      case measure => simp [intOf]; omega
    · have t3 : (x1 != 10) = true := by simp [h10]
      have hsucc : plcJ o.L (j + 1) = plcJ o.L j ++ [keyD j] := by rw [plcJ_succ, if_pos (by rw [HNK.out.2]; exact h10)]
      obtain ⟨kk, hkk⟩ : ∃ kk, keyD j = kk := ⟨_, rfl⟩
      rw [hkk] at hsucc
      have HSU := Lib.hid (And.intro hsucc hkk)
      clear hsucc hkk h10
      go_upto_region 6 with fail
      have HKa := Lib.hid HK2x.out.1
      clear e0 lq2 HK2x
      refine wp_var0 (fun KV HKV => ?_)
      refine wp_region_till (m := 5) (S := (fun W => W.cell? ⟨p + 1, 0, none⟩ = some (.slice la nk lcap))) (by kernel_rfl) ?_
      have e4 : W2.drew = W2.drewN 1 := rfl
      rw [e4]
      have HK3 := Lib.hid (HKa.out.below (below_drw (Below.refl _ _) 1))
      generalize W2.drewN 1 = D at *
      have s0 : D.cell? ⟨p + 1, 0, none⟩ = some (.slice la nk lcap) := by rw [← hp, HK3.out.c.box.cell]; rfl
      change tillH _ _ _ _ _ _ 7 #[false, false, false, false, false, false, false] _ _
      refine tillH_take (i := 0) (oi := ?oo1) (v := ?vv1) ?hi1 (by kernel_rfl) (by kernel_rfl) (by kernel_rfl) ?hq1 (by kernel_rfl) (by kernel_rfl) (by kernel_rfl) ?hy1 s0 ?hh1
      case hi1 => (simp only [List.getElem?_toArray, List.getElem?_cons_succ, List.getElem?_cons_zero]; rfl)
      case hq1 => exact fun _ _ _ h => h
      case hy1 => exact Or.inl ⟨by rfl, by (intro W hSw; (try obtain hSw := hSw); go_simp; (try with_reducible rfl))⟩
      (try simp only [Act.put, List.setIfInBounds_toArray, List.set_cons_zero, List.set_cons_succ])
      refine tillH_takeAny (i := 1) (oi := ?oo2) (v := ?vv2) ?hi2 (by kernel_rfl) (by kernel_rfl) (by kernel_rfl) ?hq2 (by kernel_rfl) ?hy2 (fun _ => s0) ?hh2
      case hi2 => (simp only [List.getElem?_toArray, List.getElem?_cons_succ, List.getElem?_cons_zero]; rfl)
      case hq2 => exact fun _ _ _ h => h
      case hy2 => exact Or.inl ⟨by rfl, by (intro W; go_simp; (try with_reducible rfl))⟩
      (try simp only [Act.put, List.setIfInBounds_toArray, List.set_cons_zero, List.set_cons_succ])
      refine tillH_next (rs := [2]) (by kernel_rfl) (by simp) ?_
      refine NextH.cons rfl (fun K hK => ?_) NextH.nil
      go_simp
      refine (digits_any j (by omega) D).mono ?_
      rintro e w5 ⟨rfl, b5⟩
      have HK5 := Lib.hid (HK3.out.below b5)
      have s5 : w5.cell? ⟨p + 1, 0, none⟩ = some (.slice la nk lcap) := by rw [← hp, HK5.out.c.box.cell]; rfl
      refine hK.out _ _ (fun _ => s5) ?_
      clear hK K
      (try simp only [Act.put, List.setIfInBounds_toArray, List.set_cons_zero, List.set_cons_succ])
      clear s0 b5 HK3
      refine tillH_next (rs := [3]) (by kernel_rfl) (by simp) ?_
      refine NextH.cons rfl (fun K hK => ?_) NextH.nil
      go_simp
      refine (keyL_any (Tx.decB j) (Nat.le_trans (decB_len j (by omega)) (by omega)) w5).mono ?_
      rintro e w6 ⟨rfl, b6⟩
      rw [show keyL (Tx.decB j) = kk from HSU.out.2]
      have HK6 := Lib.hid (HK5.out.below b6)
      have s6 : w6.cell? ⟨p + 1, 0, none⟩ = some (.slice la nk lcap) := by rw [← hp, HK6.out.c.box.cell]; rfl
      refine hK.out _ _ (fun _ => s6) ?_
      clear hK K
      (try simp only [Act.put, List.setIfInBounds_toArray, List.set_cons_zero, List.set_cons_succ])
      clear s5 b6 HK5
      refine tillH_next (rs := [4]) (by kernel_rfl) (by simp) ?_
      refine NextH.cons rfl (fun K hK => ?_) NextH.nil
      go_simp
      have b7 := (Below.refl w6.heap.size w6).alloc (Nat.le_refl _) (.cells #[.int .i64 kk.1, .int .i64 kk.2.1, .string kk.2.2] 34)
      have HK7 := Lib.hid (HK6.out.below b7)
      have s7 : (w6.alloc (.cells #[.int .i64 kk.1, .int .i64 kk.2.1, .string kk.2.2] 34)).cell? ⟨p + 1, 0, none⟩ = some (.slice la nk lcap) := by rw [← hp, HK7.out.c.box.cell]; rfl
      refine hK.out _ _ (fun _ => s7) ?_
      clear hK K
      (try simp only [Act.put, List.setIfInBounds_toArray, List.set_cons_zero, List.set_cons_succ])
      have hrow6 : w6.ownsRow w.heap.size 34 3 (.slice la nk lcap) nk (valsC (plcJ o.L j)) := by have := HK6.out.c.row; rw [HNK.out.1] at this; exact this
      have hz6 : w.heap.size ≤ w6.heap.size := HK6.out.c.upd.size
      refine tillH_next (rs := [5]) (by kernel_rfl) (by simp) ?_
      refine NextH.cons rfl (fun K hK => ?_) NextH.nil
      refine step_append_lies _ (by rfl) _ _ _ (by rfl) w.heap.size 34 i0 _ 3 32 Tryd.underlying45 hi hz0 hz1 hz2 rfl (by decide) _ _ _ (by rfl) (hrow6.alloc _) ⟨w6.heap.size, 0, none⟩ 1 1 [.int .i64 kk.1, .int .i64 kk.2.1, .string kk.2.2] (by rfl) (by rfl) (World.news_of_block (cs := #[.int .i64 kk.1, .int .i64 kk.2.1, .string kk.2.2]) (t := 34) (fr := (0, 0)) (heap_alloc_new w6 _)) (by simp [Value.oneCell']) (by decide) (by unfold maxLen; omega) (by omega) (by rw [World.size_alloc]; omega) _ rfl ?_
      intro gg capg w8 hown8 hgrow8 hat8 hlt8
      refine hK.out _ _ (fun h => absurd h (by simp)) ?_
      clear hK K
      (try simp only [Act.put, List.setIfInBounds_toArray, List.set_cons_zero, List.set_cons_succ])
      have h8 := HK6.out.c.more kk HNK.out.1 hown8 hgrow8 (hat8.imp id (fun e => by rw [World.size_alloc] at e; omega))
      have x8 : w8.cell? ⟨p + 1, 0, none⟩ = some (.slice la nk lcap) := by rw [← hp, h8.2.2.2.cell]; rfl
      have f8 : w8.frozen? ⟨p + 1, 0, none⟩ = false := by rw [← hp]; exact h8.2.2.2.frozen 0
      have l8 : p + 1 < w8.heap.size := by rw [← hp]; exact h8.2.2.2.lt
      have hfin : KC o b T lv Ot w (.slice (some ⟨gg, 0, none⟩) (nk + 1) capg) (plcJ o.L (j + 1)) Ot (w8.setCell ⟨p + 1, 0, none⟩ (.slice (some ⟨gg, 0, none⟩) (nk + 1) capg)) := by rw [← hp, HSU.out.1]; exact ⟨h8.1, HK6.out.t.upd h8.2.1 (fun k hk hn => hn hk)⟩
      have HF := Lib.hid hfin
      clear hown8 hgrow8 hat8 hlt8 h8 hfin s6 s7 hrow6 HK6 HK7 b7
      refine tillH_next (rs := [6]) (by kernel_rfl) (by simp) ?_
      refine NextH.cons rfl (fun K hK => ?_) NextH.nil
      go_simp
      refine hK.out _ _ (fun h => absurd h (by simp)) ?_
      clear hK K
      (try simp only [Act.put, List.setIfInBounds_toArray, List.set_cons_zero, List.set_cons_succ])
      refine tillH_done (by kernel_rfl) ?_ _
      refine HKV.out _ _ ?_
      go_wp2_with (fail)
      go_roundw
      case rel => exact ⟨j + 1, by omega, by go_num, Lib.hid ⟨_, HF.out⟩⟩
      case measure => simp [intOf]; omega
  obtain rfl : j = n := by omega
  have t2 : decide ((j : Int) < (j : Int)) = false := by simp
  have ht : Hid (KC o b T lv Ot w v (plcL o.L) Ot wr) := Lib.hid (by have := hki; rw [← H.out.2.2.2.2.2.1] at this; exact this)
  have y0 : wr.cell? ⟨p, 0, none⟩ = some (.pointer (some ⟨b, 0, none⟩)) := by rw [← hp, hki.kp.cell]; rfl
  have y1 : wr.cell? ⟨b, 0, none⟩ = some (.int .i64 clv) := by rw [hki.kb.cell, ← HCL.out.2.2]; rfl
  have lb1 := hki.kb.lt
  obtain ⟨tv, htv⟩ : ∃ tv, (clv != 1) = tv := ⟨_, rfl⟩
  clear hki hpl
  go_upto_if 32 with fail
  go_cut [] from 33 to 36 (fun wx => Hid (∃ v2 O2, KC o b T lv Ot w v2 K2 O2 wx))
  case first =>
    cases ar with
    | true =>
      have hc0 := HCL.out.1 H.out.2.2.2.2.2.2.2.2
      obtain rfl : false = tv := by rw [← htv, hc0]; rfl
      clear hc0
      go_wp2_with fail
      go_meet
      exact Lib.hid ⟨v, Ot, by rw [← HK2.out, if_pos H.out.2.2.2.2.2.2.2.2]; exact ht.out⟩
    | false =>
      have hL0 : o.L = [] := H.out.2.1.pl H.out.2.2.2.2.2.2.2.2
      have htp : Hid (KC o b T lv Ot w v [] Ot wr) := Lib.hid (by have := ht.out; rw [hL0] at this; exact this)
      obtain ⟨la, lcap, rfl⟩ : ∃ a c, v = Value.slice a 0 c := by
        obtain ⟨a, c, e, _⟩ := own_shape htp.out.c.row
        exact ⟨a, c, e⟩
      have hc0 := HCL.out.2.1 H.out.2.2.2.2.2.2.2.2
      obtain rfl : true = tv := by rw [← htv, hc0]; rfl
      clear hc0 hL0
      go_wp2_with fail
      refine wp_var0 (fun KV HKV => ?_)
      refine wp_region_till (m := 3) (S := (fun W => W.cell? ⟨p + 1, 0, none⟩ = some (.slice la 0 lcap) ∧ W.cell? ⟨p, 0, none⟩ = some (.pointer (some ⟨b, 0, none⟩)))) (by kernel_rfl) ?_
      have e4 : wr.drew = wr.drewN 1 := rfl
      rw [e4]
      have HK3 := Lib.hid (htp.out.below (below_drw (Below.refl _ _) 1))
      clear y0 y1 lb1
      generalize wr.drewN 1 = D at *
      have s0 : D.cell? ⟨p + 1, 0, none⟩ = some (.slice la 0 lcap) ∧ D.cell? ⟨p, 0, none⟩ = some (.pointer (some ⟨b, 0, none⟩)) := by rw [← hp, HK3.out.c.box.cell, HK3.out.kp.cell]; exact ⟨rfl, rfl⟩
      change tillH _ _ _ _ _ _ 5 #[false, false, false, false, false] _ _
      refine tillH_take (i := 0) (oi := ?oo3) (v := ?vv3) ?hi3 (by kernel_rfl) (by kernel_rfl) (by kernel_rfl) ?hq3 (by kernel_rfl) (by kernel_rfl) (by kernel_rfl) ?hy3 s0 ?hh3
      case hi3 => (simp only [List.getElem?_toArray, List.getElem?_cons_succ, List.getElem?_cons_zero]; rfl)
      case hq3 => exact fun _ _ _ h => h
      case hy3 => exact Or.inl ⟨by rfl, by (intro W hSw; (try obtain ⟨hS0, hS1⟩ := hSw); go_simp; (try with_reducible rfl))⟩
      (try simp only [Act.put, List.setIfInBounds_toArray, List.set_cons_zero, List.set_cons_succ])
      refine tillH_take2 2 (i := 1) (oi := ?oo4) (v := ?vv4) ?hi4 (by kernel_rfl) (by kernel_rfl) (by kernel_rfl) ?hq4 (by kernel_rfl) (by kernel_rfl) (by kernel_rfl) ?hy4 s0 ?hh4
      case hi4 => (simp only [List.getElem?_toArray, List.getElem?_cons_succ, List.getElem?_cons_zero]; rfl)
      case hq4 => exact fun _ _ _ h => h
      case hy4 => exact Or.inl ⟨by rfl, by (intro W hSw; (try obtain ⟨hS0, hS1⟩ := hSw); go_simp; (try with_reducible rfl))⟩
      (try simp only [Act.put, List.setIfInBounds_toArray, List.set_cons_zero, List.set_cons_succ])
      refine tillH_next (rs := [2]) (by kernel_rfl) (by simp) ?_
      refine NextH.cons rfl (fun K hK => ?_) NextH.nil
      go_simp
      refine (places_any (HK3.out.io H.out.1) H.out.2.1 H.out.2.2.1).mono ?_
      rintro e w5 ⟨rv, m, O', rfl, hPl, hrv, hT5, hO5, u5, hnr⟩
      have hm13 := hPl.len H.out.2.1 (List.prefix_refl _)
      have hscan : m.map keyD = K2 := by rw [← HK2.out, if_neg (by rw [H.out.2.2.2.2.2.2.2.2]; decide)]; exact scan_eq H.out.2.1 hPl.1 hPl.2
      obtain ⟨nm, hnm⟩ : ∃ k, m.length = k := ⟨_, rfl⟩
      rw [hscan, hnm] at hrv
      rw [hnm] at hm13
      have hl2 : K2.length = nm := by rw [← hscan, List.length_map, hnm]
      obtain ⟨ra, rcap, rfl, -⟩ := own_shape hrv
      have hC5 := HK3.out.c.turn u5 hO5 (fun k hk => hT5.lt k hk)
      have hK5 : KC o b T lv Ot w (.slice la 0 lcap) [] O' w5 := ⟨hC5, hT5⟩
      have s5 : w5.cell? ⟨p + 1, 0, none⟩ = some (.slice la 0 lcap) ∧ w5.cell? ⟨p, 0, none⟩ = some (.pointer (some ⟨b, 0, none⟩)) := by rw [← hp, hC5.box.cell, hK5.kp.cell]; exact ⟨rfl, rfl⟩
      refine hK.out _ _ (fun _ => s5) ?_
      clear hK K
      (try simp only [Act.put, List.setIfInBounds_toArray, List.set_cons_zero, List.set_cons_succ])
      have hrow5 : w5.ownsRow w.heap.size 34 3 (.slice la 0 lcap) 0 (valsC []) := hC5.row
      have hz5 : w.heap.size ≤ w5.heap.size := hC5.upd.size
      have hlm : (valsC K2).length = nm * 3 := by rw [valsC_length, hl2]
      have HN5 := Lib.hid (And.intro (own_newsH hrv) (And.intro hlm (And.intro hl2 hK5)))
      clear hrv hlm hl2 hK5 hC5 hT5 hO5 u5 hnr hscan hPl hnm HK3 s0
      refine tillH_next (rs := [3]) (by kernel_rfl) (by simp) ?_
      refine NextH.cons rfl (fun K hK => ?_) NextH.nil
      refine step_onto (by rfl) _ _ _ (by rfl) w.heap.size 34 i0 _ 3 32 Tryd.underlying45 hi hz0 hz1 hz2 rfl (by decide) _ 0 (valsC []) (by rfl) hrow5 _ nm _ (valsC K2) (by rfl) HN5.out.2.1 HN5.out.1 (valsC_one _) (by unfold maxLen; omega) (by omega) hz5 ?_
      intro v8 w8 hown8 hgr8 hat8
      rw [Nat.zero_add] at hown8
      refine hK.out _ _ (fun h => absurd h (by simp)) ?_
      clear hK K
      (try simp only [Act.put, List.setIfInBounds_toArray, List.set_cons_zero, List.set_cons_succ])
      have h8 := HN5.out.2.2.2.c.onto (ks' := K2) (n := nm) (by rw [List.nil_append, HN5.out.2.2.1]) hown8 hgr8 (fun g hg => (hat8 g hg).imp id (fun e => by omega))
      have x8 : w8.cell? ⟨p + 1, 0, none⟩ = some (.slice la 0 lcap) := by rw [← hp, h8.2.2.cell]; rfl
      have f8 : w8.frozen? ⟨p + 1, 0, none⟩ = false := by rw [← hp]; exact h8.2.2.frozen 0
      have l8 : p + 1 < w8.heap.size := by rw [← hp]; exact h8.2.2.lt
      have hfin : ∃ v2 O2, KC o b T lv Ot w v2 K2 O2 (w8.setCell ⟨p + 1, 0, none⟩ v8) := ⟨v8, O', by rw [← hp]; exact ⟨h8.1, HN5.out.2.2.2.t.upd h8.2.1 (fun k hk hn => hn hk)⟩⟩
      have HF := Lib.hid hfin
      obtain ⟨va, vcap, rfl, -⟩ := own_shape hown8
      clear hown8 hgr8 hat8 h8 hfin s5 hrow5 HN5
      refine tillH_next (rs := [4]) (by kernel_rfl) (by simp) ?_
      refine NextH.cons rfl (fun K hK => ?_) NextH.nil
      go_simp
      refine hK.out _ _ (fun h => absurd h (by simp)) ?_
      clear hK K
      (try simp only [Act.put, List.setIfInBounds_toArray, List.set_cons_zero, List.set_cons_succ])
      refine tillH_done (by kernel_rfl) ?_ _
      refine HKV.out _ _ ?_
      go_wp2_with (fail)
      go_meet
      exact HF
  case rest =>
  obtain ⟨v2, O2, hKC⟩ := hcut.out
  have hKl : K2.length ≤ 1000 := by
    rw [← HK2.out]
    split
    · have h1 := plcJ_len o.L o.L.length
      have h2 := H.out.2.1.le
      have h3 : plcL o.L = plcJ o.L o.L.length := rfl
      rw [h3]
      omega
    · unfold plcA
      obtain ⟨N, hN⟩ : ∃ N, N = 1000 := ⟨_, rfl⟩
      rw [← hN, List.length_map]
      exact Nat.le_trans (List.length_filter_le _ _) (by rw [List.length_range]; omega)
  have HKL := Lib.hid hKl
  have har := H.out.2.2.2.2.2.2.2.2
  have HCA := Lib.hid (And.intro (fun e : ar = true => HCL.out.1 (har.trans e)) (fun e : ar = false => HCL.out.2.1 (har.trans e)))
  have y0 : wc.cell? ⟨p, 0, none⟩ = some (.pointer (some ⟨b, 0, none⟩)) := by rw [← hp, hKC.kp.cell]; rfl
  have y3 : wc.cell? ⟨b, 3, none⟩ = some (.pointer (some ⟨T, 0, none⟩)) := by rw [hKC.kb.cell]; rfl
  have lb := hKC.kb.lt
  obtain ⟨Y, hY⟩ : ∃ Y, wc.heap.size = Y := ⟨_, rfl⟩
  have bY : Below wc.heap.size wc (wc.alloc (.cells #[.pointer (some ⟨T, 0, none⟩)] 44)) := (Below.refl _ _).alloc (Nat.le_refl _) _
  have kY := Blk.new wc 44 #[.pointer (some ⟨T, 0, none⟩)]
  rw [hY] at kY
  have hKC2 := hKC.below bY
  have hYs : (wc.alloc (.cells #[.pointer (some ⟨T, 0, none⟩)] 44)).heap.size = Y + 1 := by rw [World.size_alloc, hY]
  have HRa := Lib.hid (And.intro hKC2.c (And.intro kY hKC2.t))
  have HYS := Lib.hid hYs
  clear hKC hKC2 kY bY hKl har hcut hYs
  go_wp2_with (go_at_call 55; refine (all_fn T _).mono ?_; rintro e w2 ⟨rfl, rfl⟩)
  generalize (wc.alloc (.cells #[.pointer (some ⟨T, 0, none⟩)] 44)) = W2 at *
  clear y0 y3 lb hY
  refine wpIn_wide.1 (wpIn_range_b (F := Fence.wide) (n := 9) rfl (by decide) (gf := 77) (argsOf := fun l => #[.func (.yield l) #[] #[], .pointer (some ⟨Y, 0, none⟩)]) ?resa (encs := fun x : Ent => #[VK x.key, VK x.val]) (fun _ => rfl) o.A False O2 ?lt0a (AllFin T o.A []) ?seqa (fun O1 W' l o hF hl => hF.put hl o)
    (fun O1 pre W' => ∃ lv1, Coll w (w.heap.size + 2) (w.heap.size + 1) (kBs w.heap.size b T o lv) Ot lv1 (K2 ++ txtA ar pre) O1 W') (fun _ _ _ _ => False) (fun _ _ _ _ h => h) ?iupa ?igra (fun _ _ _ _ _ h _ => h) ?iputa (fun _ _ _ _ _ _ _ h _ _ _ => h) ?h0a
    (fun O1 pre e a' W' => ∃ b1, a' = ⟨#[.pointer (some ⟨b, 0, none⟩), .pointer (some ⟨p, 0, none⟩), .slice none 0 0, .pointer (some ⟨p + 1, 0, none⟩), u4, u5, .pointer (some ⟨b1, 0, none⟩), undef, .pointer (some ⟨b, 0, none⟩), .pointer (some ⟨b, 0, none⟩), .pointer (some ⟨b, 4, none⟩), .slice ea j ecap, .int .i64 (j : Int), .int .i64 (j : Int), .bool false, u15, u16, u17, u18, u19, u20, u21, u22, u23, u24, u25, u26, u27, .pointer (some ⟨b, 0, none⟩), .pointer (some ⟨b, 0, none⟩), .pointer (some ⟨b, 0, none⟩), .int .i64 clv, .bool tv, u33, u34, u35, u36, .pointer (some ⟨b, 0, none⟩), .pointer (some ⟨b, 0, none⟩), .pointer (some ⟨b, 3, none⟩), .pointer (some ⟨T, 0, none⟩), .func (.func 77) #[] #[.pointer (some ⟨Y, 0, none⟩)], VK e.key, VK e.val, undef, undef, undef, undef, undef, undef, undef, undef, undef, undef, undef, undef, undef, undef, undef, undef, undef, undef, undef, undef, undef, undef, undef, undef, undef, undef, undef, undef, undef, undef, undef, undef, undef, undef, undef, undef, undef, undef, undef, undef, undef, undef, undef, undef], []⟩ ∧ Blk W' b1 34 #[.int .i64 e.key.1, .int .i64 e.key.2.1, .string e.key.2.2]) ?axa ?assigna ?bodya ?donea (fun _ _ _ _ _ _ _ _ h _ => h.elim))
  case resa => exact fun l W => ⟨({ target := .fn (.func 77) #[.pointer (some ⟨Y, 0, none⟩)], args := #[.func (.yield l) #[] #[]] } : Deferred), by kernel_rfl, fun _ _ => trivial, by kernel_rfl⟩
  case lt0a => exact fun k hk => HRa.out.1.lt k hk
  case seqa => exact fun l W' u => all_b 8 (by decide) l T o.A [] O2 False W' Y (u.blk HRa.out.2.1 (fun h => h)) (HRa.out.2.2.upd u (fun _ _ h => h)) (by have := H.out.2.2.1; omega) (by simp)
  case iupa => exact fun O1 pre V V' ⟨lv1, h⟩ u => ⟨lv1, h.turn u (fun k hk => .inl hk) (fun k hk => Nat.lt_of_lt_of_le (h.lt k hk) u.size)⟩
  case igra => exact fun O1 O1' pre V V' ⟨lv1, h⟩ u g1 g2 g3 => ⟨lv1, h.turn u g2 g3⟩
  case iputa => exact fun O1 pre V l' o o' ⟨lv1, h⟩ hl hk ho' => ⟨lv1, h.put o' hk ho' (by have := HRa.out.1.upd.size; omega)⟩
  case h0a =>
    intro O1 V u hsz hO1 hlt
    exact ⟨_, by rw [show txtA ar [] = [] from rfl, List.append_nil]; exact HRa.out.1.turn u hO1 hlt⟩
  case axa =>
    rintro O1 pre e a' V l' o o' ⟨b1, rfl, k1⟩ hl hk ho'
    have nb : ∀ {g : Nat} {t : TypeId} {xs : Array Value}, Blk V g t xs → ¬ g = l' := fun hb e => by subst e; rw [show V.heap[_]? = _ from hb] at hk; cases hk; cases ho'
    exact ⟨b1, rfl, (Upd.put V l' o').blk k1 (nb k1)⟩
  case assigna =>
    intro l' O1 pre e V K1 hI1 _ hK1
    gi_wp2
    have b1 := ((Below.refl V.heap.size V).alloc (Nat.le_refl _) (.cells #[.int .i64 e.key.1, .int .i64 e.key.2.1, .string e.key.2.2] 34))
    obtain ⟨lv1, hc⟩ := hI1
    exact hK1 _ _ (KeepsOthers.alloc _ _) (Upd.of_below_all b1) ⟨lv1, hc.below b1⟩ ⟨_, rfl, Blk.new V _ _⟩
  case bodya =>
    rintro l' O1 pre e a' V ⟨lv1, hC⟩ ⟨b1, rfl, k1⟩ hpre
    obtain ⟨hks, hgr, -, -⟩ := H.out.2.1.ks e (hpre.subset (by simp))
    have hsz : e.key.2.2.size ≤ 4000 := ks_size hks
    have hkind := ks_kind hks
    obtain ⟨n, hn⟩ : ∃ n, (K2 ++ txtA ar pre).length = n := ⟨_, rfl⟩
    have hn9 : n ≤ 20000 := by
      have h1 := hpre.length_le
      have h2 := H.out.2.2.1
      rw [List.length_append, List.length_singleton] at h1
      have h3 : (txtA ar pre).length ≤ pre.length := by
        unfold txtA
        rw [List.length_map]
        exact List.length_filter_le _ _
      rw [← hn, List.length_append]
      have h4 := HKL.out
      omega
    obtain ⟨la, lcap, rfl⟩ : ∃ a c, lv1 = Value.slice a n c := by
      obtain ⟨a, c, h1, _⟩ := own_shape hC.row
      rw [hn] at h1
      exact ⟨a, c, h1⟩
    have kof : ∀ {A B : World}, Below A.heap.size A B → KeepsOthers A B := fun b => ⟨b.size, fun k o hk _ => (b.block k (Array.getElem?_eq_some_iff.1 hk).1).trans hk⟩
    have hon : ∀ (W3 W4 : World) {g3 cap3 : Nat}, Below V.heap.size V W3 → Coll w (w.heap.size + 2) (w.heap.size + 1) (kBs w.heap.size b T o lv) Ot (.slice (some ⟨g3, 0, none⟩) (n + 1) cap3) ((K2 ++ txtA ar pre) ++ [e.key]) O1 W4 → Upd W3 W4 (fun k => ¬ O1 k) → KeepsOthers W3 W4 → txtA ar (pre ++ [e]) = txtA ar pre ++ [e.key] → stepsOn O1 (fun pre W' => ∃ lv1, Coll w (w.heap.size + 2) (w.heap.size + 1) (kBs w.heap.size b T o lv) Ot lv1 (K2 ++ txtA ar pre) O1 W') (fun _ _ _ => False) (pre ++ [e]) V .normal ⟨#[], []⟩ W4 := fun W3 W4 g3 cap3 b3 c4 u4 ko4 e1 => ⟨(kof b3).trans ko4, (Upd.of_below_all b3).trans u4, _, by rw [e1, ← List.append_assoc]; exact c4⟩
    have hsk : ∀ (W3 : World), Below V.heap.size V W3 → txtA ar (pre ++ [e]) = txtA ar pre → stepsOn O1 (fun pre W' => ∃ lv1, Coll w (w.heap.size + 2) (w.heap.size + 1) (kBs w.heap.size b T o lv) Ot lv1 (K2 ++ txtA ar pre) O1 W') (fun _ _ _ => False) (pre ++ [e]) V .normal ⟨#[], []⟩ W3 := fun W3 b3 e1 => ⟨kof b3, Upd.of_below_all b3, _, by rw [e1]; exact hC.below b3⟩
    have hone := txtA_one ar pre e
    obtain ⟨k, hke⟩ : ∃ k, e.key = k := ⟨_, rfl⟩
    rw [hke] at hks hsz hkind hone hon k1
    obtain ⟨kk, k2, ks⟩ := k
    dsimp only at hks hsz hkind hone hon k1
    have c0 : V.cell? ⟨b1, 0, none⟩ = some (.int .i64 kk) := by rw [k1.cell]; rfl
    have lb1 := k1.lt
    rcases hkind with h7 | h8
    rotate_left
    · subst h8
      have hs8 : txtA ar (pre ++ [e]) = txtA ar pre := by rw [hone, if_neg (by simp), List.append_nil]
      have HSK := Lib.hid (fun (W3 : World) (b3 : Below V.heap.size V W3) => hsk W3 b3 hs8)
      have tk : ((8 : Int) == 7) = false := by decide
      clear hon hsk hone hks hsz hgr hC k1 hke hpre hs8 hn kof
      gi_wp2_with (refine ⟨trivial, ?_⟩)
      exact HSK.out _ (Below.refl _ _)
    · subst h7
      have tk : ((7 : Int) == 7) = true := by decide
      cases ar with
      | true =>
        have hc1 := HCA.out.1 rfl
        have tc : (clv == 1) = true := by rw [hc1]; decide
        have hs7 : txtA true (pre ++ [e]) = txtA true pre ++ [e.key] := by rw [hone, if_pos (by simp), hke]
        have HON := Lib.hid (fun (W3 W4 : World) {g3 cap3 : Nat} b3 c4 u4 ko4 => hon W3 W4 (g3 := g3) (cap3 := cap3) b3 c4 u4 ko4 (by rw [hs7, hke]))
        have xp : V.cell? ⟨p, 0, none⟩ = some (.pointer (some ⟨b, 0, none⟩)) := by rw [← hp, (hC.bs _ (List.mem_cons_self)).1.cell]; rfl
        have hbb := (hC.bs _ (List.mem_cons_of_mem _ List.mem_cons_self)).1
        have xc : V.cell? ⟨b, 0, none⟩ = some (.int .i64 clv) := by rw [hbb.cell, ← HCL.out.2.2]; rfl
        have lbb := hbb.lt
        obtain ⟨W3, hW3⟩ : ∃ W3, W3 = V := ⟨_, rfl⟩
        subst hW3
        have C3 := hC
        have k3 := k1
        have bV3 := Below.refl W3.heap.size W3
        have hlen := hn
        clear hon hsk hone hks hsz hgr hC k1 hke hpre hs7 hn kof hc1 hbb
        clear c0 lb1
        obtain ⟨S2, hS2⟩ : ∃ S2, W3.heap.size = S2 := ⟨_, rfl⟩
        have lD := C3.box.lt
        have lD' : p + 1 < S2 := by rw [← hS2, ← hp]; exact lD
        have c0 : W3.cell? ⟨b1, 0, none⟩ = some (.int .i64 7) := by rw [k3.cell]; rfl
        have c1 : W3.cell? ⟨b1, 1, none⟩ = some (.int .i64 k2) := by rw [k3.cell]; rfl
        have c2 : W3.cell? ⟨b1, 2, none⟩ = some (.string ks) := by rw [k3.cell]; rfl
        have lb1 := k3.lt
        have l3 : W3.cell? ⟨p + 1, 0, none⟩ = some (.slice la n lcap) := by rw [← hp, C3.box.cell]; rfl
        have hr3 : W3.ownsRow p 34 3 (.slice la n lcap) n (valsC (K2 ++ txtA true pre)) := by have := C3.row; rw [hlen, hp] at this; exact this
        have hnews := World.news_of_block (cs := #[.int .i64 7, .int .i64 k2, .string ks]) (t := 34) (fr := (0, 0)) (heap_alloc_new W3 (.cells #[.int .i64 7, .int .i64 k2, .string ks] 34))
        rw [hS2] at hnews
        have H3 := Lib.hid (And.intro C3 (And.intro bV3 hlen))
        clear C3 k3 bV3 hlen lD
        gi_wp2_with (fail)
        refine ⟨trivial, ?_⟩
        gi_wp2_with (gi_at_builtin; refine wpListIn_more rfl _ _ 45 rfl p 34 i0 _ 3 32 Tryd.underlying45 hi hz0 hz1 hz2 rfl (by decide) _ _ _ rfl (hr3.alloc _) ⟨S2, 0, none⟩ 1 1 [.int .i64 7, .int .i64 k2, .string ks] rfl rfl hnews (by simp [Value.oneCell']) (by decide) (by unfold maxLen; omega) (by omega) (by simp; omega) _ rfl ?_)
        intro g3 cap3 w3 hown3 hgrow3 hat3 hlt3
        obtain ⟨C3, bV3, hlen⟩ := H3.out
        have h4 := C3.more (n := n) (7, k2, ks) hlen (by rw [hp]; exact hown3) hgrow3 (hat3.imp id (fun e => by omega))
        have f3 : w3.frozen? ⟨p + 1, 0, none⟩ = false := by rw [← hp]; exact h4.2.2.2.frozen 0
        have l3c : w3.cell? ⟨p + 1, 0, none⟩ = some (.slice la n lcap) := by rw [← hp, h4.2.2.2.cell]; rfl
        have l3l : p + 1 < w3.heap.size := by rw [← hp]; exact h4.2.2.2.lt
        have HF := Lib.hid (HON.out _ _ bV3 h4.1 h4.2.1 h4.2.2.1)
        rw [show (⟨w.heap.size + 1, 0, none⟩ : Addr) = ⟨p + 1, 0, none⟩ by rw [hp]] at HF
        clear h4 C3 bV3 hlen hown3 hgrow3 hat3 hlt3 hr3 hnews l3 H3 c0 c1 c2 lb1
        gi_wp2_with (fail)
        exact HF.out
      | false =>
        have hc1 := HCA.out.2 rfl
        have tc : (clv == 1) = false := by rw [hc1]; decide
        obtain ⟨iv, hiv⟩ : ∃ iv, plcV (7, k2, ks) = iv := ⟨_, rfl⟩
        have hix : ∀ W, Calls Tryd.prog 68 #[.string ks] W fun e w' => e = .returned (.int .i64 iv) ∧ Below W.heap.size W w' := fun W => by
          have h1 : Tx.indexOf ks = iv := by
            unfold plcV at hiv
            rw [if_pos rfl] at hiv
            exact hiv
          have h2 := Tx.index_any ks W (by omega)
          rw [h1] at h2
          exact h2.mono (by rintro e w' ⟨rfl, q, rfl⟩; exact ⟨rfl, below_drw (Below.refl _ _) q⟩)
        have HIX := Lib.hid hix
        rw [hiv] at hone
        have xp : V.cell? ⟨p, 0, none⟩ = some (.pointer (some ⟨b, 0, none⟩)) := by rw [← hp, (hC.bs _ (List.mem_cons_self)).1.cell]; rfl
        have hbb := (hC.bs _ (List.mem_cons_of_mem _ List.mem_cons_self)).1
        have xc : V.cell? ⟨b, 0, none⟩ = some (.int .i64 clv) := by rw [hbb.cell, ← HCL.out.2.2]; rfl
        have lbb := hbb.lt
        have c2 : V.cell? ⟨b1, 2, none⟩ = some (.string ks) := by rw [k1.cell]; rfl
        have HQ := Lib.hid (And.intro hC (And.intro k1 hn))
        cases hneg : decide (iv < 0) with
        | true =>
          have hs7 : txtA false (pre ++ [e]) = txtA false pre ++ [(7, k2, ks)] := by rw [hone, if_pos (by simpa using hneg)]
          have HON := Lib.hid (fun (W3 W4 : World) {g3 cap3 : Nat} b3 c4 u4 ko4 => hon W3 W4 (g3 := g3) (cap3 := cap3) b3 c4 u4 ko4 hs7)
          clear hon hsk hone hks hsz hgr hC k1 hke hpre hs7 hn kof hc1 hbb hiv hix
          gi_wp2_with (fail)
          refine ⟨trivial, ?_⟩
          refine (callsIn_wide.2 (HIX.out _)).mono ?_
          rintro e1 W3 ⟨rfl, bV3⟩
          obtain ⟨hC, k1, hlen⟩ := HQ.out
          have C3 := hC.below bV3
          have k3 := k1.below bV3 k1.lt
          clear hC k1 c0 c2 lb1 xp xc lbb
          obtain ⟨S2, hS2⟩ : ∃ S2, W3.heap.size = S2 := ⟨_, rfl⟩
          have lD := C3.box.lt
          have lD' : p + 1 < S2 := by rw [← hS2, ← hp]; exact lD
          have c0 : W3.cell? ⟨b1, 0, none⟩ = some (.int .i64 7) := by rw [k3.cell]; rfl
          have c1 : W3.cell? ⟨b1, 1, none⟩ = some (.int .i64 k2) := by rw [k3.cell]; rfl
          have c2 : W3.cell? ⟨b1, 2, none⟩ = some (.string ks) := by rw [k3.cell]; rfl
          have lb1 := k3.lt
          have l3 : W3.cell? ⟨p + 1, 0, none⟩ = some (.slice la n lcap) := by rw [← hp, C3.box.cell]; rfl
          have hr3 : W3.ownsRow p 34 3 (.slice la n lcap) n (valsC (K2 ++ txtA false pre)) := by have := C3.row; rw [hlen, hp] at this; exact this
          have hnews := World.news_of_block (cs := #[.int .i64 7, .int .i64 k2, .string ks]) (t := 34) (fr := (0, 0)) (heap_alloc_new W3 (.cells #[.int .i64 7, .int .i64 k2, .string ks] 34))
          rw [hS2] at hnews
          have H3 := Lib.hid (And.intro C3 (And.intro bV3 hlen))
          clear C3 k3 bV3 hlen lD
          gi_wp2_with (gi_at_builtin; refine wpListIn_more rfl _ _ 45 rfl p 34 i0 _ 3 32 Tryd.underlying45 hi hz0 hz1 hz2 rfl (by decide) _ _ _ rfl (hr3.alloc _) ⟨S2, 0, none⟩ 1 1 [.int .i64 7, .int .i64 k2, .string ks] rfl rfl hnews (by simp [Value.oneCell']) (by decide) (by unfold maxLen; omega) (by omega) (by simp; omega) _ rfl ?_)
          intro g3 cap3 w3 hown3 hgrow3 hat3 hlt3
          obtain ⟨C3, bV3, hlen⟩ := H3.out
          have h4 := C3.more (n := n) (7, k2, ks) hlen (by rw [hp]; exact hown3) hgrow3 (hat3.imp id (fun e => by omega))
          have f3 : w3.frozen? ⟨p + 1, 0, none⟩ = false := by rw [← hp]; exact h4.2.2.2.frozen 0
          have l3c : w3.cell? ⟨p + 1, 0, none⟩ = some (.slice la n lcap) := by rw [← hp, h4.2.2.2.cell]; rfl
          have l3l : p + 1 < w3.heap.size := by rw [← hp]; exact h4.2.2.2.lt
          have HF := Lib.hid (HON.out _ _ bV3 h4.1 h4.2.1 h4.2.2.1)
          rw [show (⟨w.heap.size + 1, 0, none⟩ : Addr) = ⟨p + 1, 0, none⟩ by rw [hp]] at HF
          clear h4 C3 bV3 hlen hown3 hgrow3 hat3 hlt3 hr3 hnews l3 H3 c0 c1 c2 lb1
          gi_wp2_with (fail)
          exact HF.out
        | false =>
          have hs7 : txtA false (pre ++ [e]) = txtA false pre := by rw [hone, if_neg (by simpa using hneg), List.append_nil]
          have HSK := Lib.hid (fun (W3 : World) (b3 : Below V.heap.size V W3) => hsk W3 b3 hs7)
          clear hon hsk hone hks hsz hgr hC k1 hke hpre hs7 hn kof hc1 hbb hiv hix HQ
          gi_wp2_with (fail)
          refine ⟨trivial, ?_⟩
          refine (callsIn_wide.2 (HIX.out _)).mono ?_
          rintro e1 W3 ⟨rfl, bV3⟩
          have HF := Lib.hid (HSK.out _ bV3)
          clear bV3 c0 c2 lb1 xp xc lbb HSK
          gi_wp2_with (fail)
          exact HF.out
  case donea =>
    intro O1 D1 V hD hnD hF hI hk
    obtain ⟨D', O3, hTF, hsub, _, hlen⟩ := hF
    obtain rfl : D' = [] := List.length_eq_zero_iff.1 (by simpa using hlen)
    obtain ⟨lv1, hC⟩ := hI
    have hK3 : KC o b T lv Ot w lv1 (K2 ++ txtA ar o.A) O3 V := ⟨hC.turn (Upd.refl _ _) (fun k hk => .inl (hsub k hk)) (fun k hk => hC.lt k (hsub k hk)), hTF⟩
    have hnD3 : ¬ O3 D1 := fun e => hnD (hsub _ e)
    have hDw : w.heap.size ≤ D1 := by have := HRa.out.1.upd.size; omega
    have HV := Lib.hid (And.intro hK3 (And.intro hk (And.intro hnD3 hDw)))
    obtain ⟨K3l, hK3l⟩ : ∃ l, (K2 ++ txtA ar o.A) ++ (if ar = true then [lenK] else []) = l := ⟨_, rfl⟩
    have HK3 := Lib.hid hK3l
    obtain ⟨tw, htw⟩ : ∃ tw, (clv == 1) = tw := ⟨_, rfl⟩
    have y0 : V.cell? ⟨p, 0, none⟩ = some (.pointer (some ⟨b, 0, none⟩)) := by rw [← hp, hK3.kp.cell]; rfl
    have y1 : V.cell? ⟨b, 0, none⟩ = some (.int .i64 clv) := by rw [hK3.kb.cell, ← HCL.out.2.2]; rfl
    have lb := hK3.kb.lt
    clear hD hnD hk hTF hsub hlen hC hK3 hnD3 hDw hK3l
    go_upto_if 68 with fail
    go_cut [] from 69 to 72 (fun wx => Hid (∃ v3, KC o b T lv Ot w v3 K3l O3 wx ∧ wx.heap[D1]? = some (.deferred (some []))))
    case first =>
      obtain ⟨hK3, hk, hnD3, hDw⟩ := HV.out
      cases ar with
      | false =>
        have hc0 := HCA.out.2 rfl
        obtain rfl : false = tw := by rw [← htw, hc0]; rfl
        have HF : Hid (∃ v3, KC o b T lv Ot w v3 K3l O3 V ∧ V.heap[D1]? = some (.deferred (some []))) := Lib.hid ⟨lv1, by rw [← HK3.out, if_neg (by decide), List.append_nil]; exact hK3, hk⟩
        clear hc0 hK3 hk hnD3 hDw
        go_wp2_with fail
        go_meet
        exact HF
      | true =>
        have hc0 := HCA.out.1 rfl
        obtain rfl : true = tw := by rw [← htw, hc0]; rfl
        obtain ⟨n, hn⟩ : ∃ n, (K2 ++ txtA true o.A).length = n := ⟨_, rfl⟩
        have hn9 : n ≤ 10000 := by
          have h2 := H.out.2.2.1
          have h3 : (txtA true o.A).length ≤ o.A.length := by
            unfold txtA
            rw [List.length_map]
            exact List.length_filter_le _ _
          rw [← hn, List.length_append]
          have h4 := HKL.out
          omega
        obtain ⟨la, lcap, rfl⟩ : ∃ a c, lv1 = Value.slice a n c := by
          obtain ⟨a, c, h1, _⟩ := own_shape hK3.c.row
          rw [hn] at h1
          exact ⟨a, c, h1⟩
        have hL1 := H.out.2.2.2.1.upd hK3.c.upd H.out.2.2.2.2.1
        obtain ⟨kk, hkk⟩ : ∃ kk, lenK = kk := ⟨_, rfl⟩
        unfold Lg at hL1
        rw [hkk] at hL1
        obtain ⟨g1, g2, g3⟩ := hL1
        have HKK := Lib.hid hkk
        have x1 : V.cell? ⟨p + 1, 0, none⟩ = some (.slice la n lcap) := by rw [← hp, hK3.c.box.cell]; rfl
        have hrow : V.ownsRow w.heap.size 34 3 (.slice la n lcap) n (valsC (K2 ++ txtA true o.A)) := by have := hK3.c.row; rw [hn] at this; exact this
        have hz : w.heap.size ≤ V.heap.size := hK3.c.upd.size
        have HK4 := Lib.hid (And.intro hK3 (And.intro hk (And.intro hDw (And.intro hn hnD3))))
        clear hK3 hk hnD3 hDw hkk hc0 hn
        go_wp2_with (at_builtin; refine wpList_append_lies _ rfl _ _ 45 rfl w.heap.size 34 i0 _ 3 32 Tryd.underlying45 hi hz0 hz1 hz2 rfl (by decide) _ _ _ rfl (hrow.alloc _) ⟨V.heap.size, 0, none⟩ 1 1 [.int .i64 kk.1, .int .i64 kk.2.1, .string kk.2.2] rfl rfl (World.news_of_block (cs := #[.int .i64 kk.1, .int .i64 kk.2.1, .string kk.2.2]) (t := 34) (fr := (0, 0)) (heap_alloc_new V _)) (by simp [Value.oneCell']) (by decide) (by unfold maxLen; omega) (by omega) (by simp; omega) _ rfl ?_)
        intro g4 cap4 w4 hown4 hgrow4 hat4 hlt4
        obtain ⟨hK3, hk, hDw, hn, hnD3⟩ := HK4.out
        have h4 := hK3.c.more (n := n) kk hn (by rw [hp]; exact hown4) hgrow4 (hat4.imp id (fun e => by omega))
        have f4 : w4.frozen? ⟨p + 1, 0, none⟩ = false := by rw [← hp]; exact h4.2.2.2.frozen 0
        have x4 : w4.cell? ⟨p + 1, 0, none⟩ = some (.slice la n lcap) := by rw [← hp, h4.2.2.2.cell]; rfl
        have l4 : p + 1 < w4.heap.size := by rw [← hp]; exact h4.2.2.2.lt
        have hfin : ∃ v3, KC o b T lv Ot w v3 K3l O3 (w4.setCell ⟨w.heap.size + 1, 0, none⟩ (.slice (some ⟨g4, 0, none⟩) (n + 1) cap4)) ∧ (w4.setCell ⟨w.heap.size + 1, 0, none⟩ (.slice (some ⟨g4, 0, none⟩) (n + 1) cap4)).heap[D1]? = some (.deferred (some [])) := by
          refine ⟨.slice (some ⟨g4, 0, none⟩) (n + 1) cap4, ⟨?_, hK3.t.upd h4.2.1 (fun k hk hn => hn hk)⟩, h4.2.2.1.same _ _ hk rfl⟩
          rw [← HK3.out, if_pos (by trivial), HKK.out]
          exact h4.1
        have HF := Lib.hid hfin
        rw [show (⟨w.heap.size + 1, 0, none⟩ : Addr) = ⟨p + 1, 0, none⟩ by rw [hp]] at HF
        clear h4 hfin hK3 hk hDw hn hnD3 hown4 hgrow4 hat4 hlt4 hrow HK4 g1 g2 g3 x1
        go_wp2_with fail
        go_meet
        exact HF
    case rest =>
    obtain ⟨v3, hK4, hkD⟩ := hcut.out
    have hDA : DfA D1 O3 wc := ⟨hkD, HV.out.2.2.1⟩
    have hDw := HV.out.2.2.2
    have hKl : K3l.length ≤ 9000 := by
      have h1 := HKL.out
      have h2 := H.out.2.2.1
      have h3 : (txtA ar o.A).length ≤ o.A.length := by
        unfold txtA
        rw [List.length_map]
        exact List.length_filter_le _ _
      have h4 : (if ar = true then [lenK] else []).length ≤ 1 := by split <;> simp
      rw [← HK3.out, List.length_append, List.length_append]
      omega
    have HKL := Lib.hid hKl
    have y0 : wc.cell? ⟨p, 0, none⟩ = some (.pointer (some ⟨b, 0, none⟩)) := by rw [← hp, hK4.kp.cell]; rfl
    have y3 : wc.cell? ⟨b, 3, none⟩ = some (.pointer (some ⟨T, 0, none⟩)) := by rw [hK4.kb.cell]; rfl
    have lb := hK4.kb.lt
    obtain ⟨Z, hZ⟩ : ∃ Z, wc.heap.size = Z := ⟨_, rfl⟩
    have bZ : Below wc.heap.size wc (wc.alloc (.cells #[.pointer (some ⟨T, 0, none⟩)] 44)) := (Below.refl _ _).alloc (Nat.le_refl _) _
    have kZ := Blk.new wc 44 #[.pointer (some ⟨T, 0, none⟩)]
    rw [hZ] at kZ
    have hK5 := hK4.below bZ
    have hZs : (wc.alloc (.cells #[.pointer (some ⟨T, 0, none⟩)] 44)).heap.size = Z + 1 := by rw [World.size_alloc, hZ]
    have hDA2 := hDA.up (Upd.of_below_all bZ) (fun k hk => .inl hk)
    have HRb := Lib.hid (And.intro hK5.c (And.intro kZ hK5.t))
    have HDb := Lib.hid (And.intro hDA2 hDA2.lt)
    have HZS := Lib.hid hZs
    have HDW := Lib.hid (And.intro hDw (And.intro hDA.lt hZ))
    clear hK4 hK5 kZ bZ hKl hcut hZs hDA hDA2 hkD HV hDw
    go_wp2_with (go_at_call 55; refine (all_fn T _).mono ?_; rintro e w2 ⟨rfl, rfl⟩)
    generalize (wc.alloc (.cells #[.pointer (some ⟨T, 0, none⟩)] 44)) = W3 at *
    clear y0 y3 lb hZ
    refine wpIn_wide.1 (wpIn_range_b (F := Fence.wide) (n := 9) rfl (by decide) (gf := 77) (argsOf := fun l => #[.func (.yield l) #[] #[], .pointer (some ⟨Z, 0, none⟩)]) ?resb (encs := fun x : Ent => #[VK x.key, VK x.val]) (fun _ => rfl) o.A False O3 ?lt0b (AllFin T o.A []) ?seqb (fun O1 W' l o hF hl => hF.put hl o)
      (fun O1 pre W' => ∃ lv1, Coll w (w.heap.size + 2) (w.heap.size + 1) (kBs w.heap.size b T o lv) Ot lv1 (K3l ++ symA pre) O1 W' ∧ DfA D1 O1 W') (fun _ _ _ _ => False) (fun _ _ _ _ h => h) ?iupb ?igrb (fun _ _ _ _ _ h _ => h) ?iputb (fun _ _ _ _ _ _ _ h _ _ _ => h) ?h0b
      (fun O1 pre e a' W' => ∃ b1, a' = ⟨#[.pointer (some ⟨b, 0, none⟩), .pointer (some ⟨p, 0, none⟩), .slice none 0 0, .pointer (some ⟨p + 1, 0, none⟩), u4, u5, undef, .pointer (some ⟨b1, 0, none⟩), .pointer (some ⟨b, 0, none⟩), .pointer (some ⟨b, 0, none⟩), .pointer (some ⟨b, 4, none⟩), .slice ea j ecap, .int .i64 (j : Int), .int .i64 (j : Int), .bool false, u15, u16, u17, u18, u19, u20, u21, u22, u23, u24, u25, u26, u27, .pointer (some ⟨b, 0, none⟩), .pointer (some ⟨b, 0, none⟩), .pointer (some ⟨b, 0, none⟩), .int .i64 clv, .bool tv, u33, u34, u35, u36, .pointer (some ⟨b, 0, none⟩), .pointer (some ⟨b, 0, none⟩), .pointer (some ⟨b, 3, none⟩), .pointer (some ⟨T, 0, none⟩), .func (.func 77) #[] #[.pointer (some ⟨Y, 0, none⟩)], undef, undef, undef, undef, undef, undef, undef, undef, undef, undef, undef, undef, undef, undef, undef, undef, undef, undef, undef, undef, undef, undef, .pointer (some ⟨b, 0, none⟩), .pointer (some ⟨b, 0, none⟩), .pointer (some ⟨b, 0, none⟩), .int .i64 clv, .bool tw, u69, u70, u71, u72, .pointer (some ⟨b, 0, none⟩), .pointer (some ⟨b, 0, none⟩), .pointer (some ⟨b, 3, none⟩), .pointer (some ⟨T, 0, none⟩), .func (.func 77) #[] #[.pointer (some ⟨Z, 0, none⟩)], VK e.key, VK e.val, undef, undef, undef, undef, undef, undef, undef, undef], []⟩ ∧ Blk W' b1 34 #[.int .i64 e.key.1, .int .i64 e.key.2.1, .string e.key.2.2]) ?axb ?assignb ?bodyb ?doneb (fun _ _ _ _ _ _ _ _ h _ => h.elim))
    case resb => exact fun l W => ⟨({ target := .fn (.func 77) #[.pointer (some ⟨Z, 0, none⟩)], args := #[.func (.yield l) #[] #[]] } : Deferred), by kernel_rfl, fun _ _ => trivial, by kernel_rfl⟩
    case lt0b => exact fun k hk => HRb.out.1.lt k hk
    case seqb => exact fun l W' u => all_b 8 (by decide) l T o.A [] O3 False W' Z (u.blk HRb.out.2.1 (fun h => h)) (HRb.out.2.2.upd u (fun _ _ h => h)) (by have := H.out.2.2.1; omega) (by simp)
    case iupb => exact fun O1 pre V V' ⟨lv1, h, hd⟩ u => ⟨lv1, h.turn u (fun k hk => .inl hk) (fun k hk => Nat.lt_of_lt_of_le (h.lt k hk) u.size), hd.up u (fun k hk => .inl hk)⟩
    case igrb => exact fun O1 O1' pre V V' ⟨lv1, h, hd⟩ u g1 g2 g3 => ⟨lv1, h.turn u g2 g3, hd.up u g2⟩
    case iputb => exact fun O1 pre V l' o o' ⟨lv1, h, hd⟩ hl hk ho' => ⟨lv1, h.put o' hk ho' (by have := HRb.out.1.upd.size; omega), hd.put (by have := HDb.out.2; omega)⟩
    case h0b =>
      intro O1 V u hsz hO1 hlt
      exact ⟨_, by rw [show symA [] = [] from rfl, List.append_nil]; exact HRb.out.1.turn u hO1 hlt, HDb.out.1.up u hO1⟩
    case axb =>
      rintro O1 pre e a' V l' o o' ⟨b1, rfl, k1⟩ hl hk ho'
      have nb : ∀ {g : Nat} {t : TypeId} {xs : Array Value}, Blk V g t xs → ¬ g = l' := fun hb e => by subst e; rw [show V.heap[_]? = _ from hb] at hk; cases hk; cases ho'
      exact ⟨b1, rfl, (Upd.put V l' o').blk k1 (nb k1)⟩
    case assignb =>
      intro l' O1 pre e V K1 hI1 _ hK1
      gi_wp2
      have b1 := ((Below.refl V.heap.size V).alloc (Nat.le_refl _) (.cells #[.int .i64 e.key.1, .int .i64 e.key.2.1, .string e.key.2.2] 34))
      obtain ⟨lv1, hc, hd⟩ := hI1
      exact hK1 _ _ (KeepsOthers.alloc _ _) (Upd.of_below_all b1) ⟨lv1, hc.below b1, hd.up (Upd.of_below_all b1) (fun k hk => .inl hk)⟩ ⟨_, rfl, Blk.new V _ _⟩
    case bodyb =>
      rintro l' O1 pre e a' V ⟨lv1, hC, hDf⟩ ⟨b1, rfl, k1⟩ hpre
      obtain ⟨hks, hgr, -, -⟩ := H.out.2.1.ks e (hpre.subset (by simp))
      have hsz : e.key.2.2.size ≤ 4000 := ks_size hks
      have hkind := ks_kind hks
      obtain ⟨n, hn⟩ : ∃ n, (K3l ++ symA pre).length = n := ⟨_, rfl⟩
      have hn9 : n ≤ 20000 := by
        have h1 := hpre.length_le
        have h2 := H.out.2.2.1
        rw [List.length_append, List.length_singleton] at h1
        have h3 : (symA pre).length ≤ pre.length := by
          unfold symA
          rw [List.length_map]
          exact List.length_filter_le _ _
        rw [← hn, List.length_append]
        have h4 := HKL.out
        omega
      obtain ⟨la, lcap, rfl⟩ : ∃ a c, lv1 = Value.slice a n c := by
        obtain ⟨a, c, h1, _⟩ := own_shape hC.row
        rw [hn] at h1
        exact ⟨a, c, h1⟩
      have kof : ∀ {A B : World}, Below A.heap.size A B → KeepsOthers A B := fun b => ⟨b.size, fun k o hk _ => (b.block k (Array.getElem?_eq_some_iff.1 hk).1).trans hk⟩
      have hon : ∀ (W3 W4 : World) {g3 cap3 : Nat}, Below V.heap.size V W3 → Coll w (w.heap.size + 2) (w.heap.size + 1) (kBs w.heap.size b T o lv) Ot (.slice (some ⟨g3, 0, none⟩) (n + 1) cap3) ((K3l ++ symA pre) ++ [e.key]) O1 W4 → Upd W3 W4 (fun k => ¬ O1 k) → KeepsOthers W3 W4 → symA (pre ++ [e]) = symA pre ++ [e.key] → stepsOn O1 (fun pre W' => ∃ lv1, Coll w (w.heap.size + 2) (w.heap.size + 1) (kBs w.heap.size b T o lv) Ot lv1 (K3l ++ symA pre) O1 W' ∧ DfA D1 O1 W') (fun _ _ _ => False) (pre ++ [e]) V .normal ⟨#[], []⟩ W4 := fun W3 W4 g3 cap3 b3 c4 u4 ko4 e1 => ⟨(kof b3).trans ko4, (Upd.of_below_all b3).trans u4, _, by rw [e1, ← List.append_assoc]; exact c4, hDf.keep ((kof b3).trans ko4)⟩
      have hsk : ∀ (W3 : World), Below V.heap.size V W3 → symA (pre ++ [e]) = symA pre → stepsOn O1 (fun pre W' => ∃ lv1, Coll w (w.heap.size + 2) (w.heap.size + 1) (kBs w.heap.size b T o lv) Ot lv1 (K3l ++ symA pre) O1 W' ∧ DfA D1 O1 W') (fun _ _ _ => False) (pre ++ [e]) V .normal ⟨#[], []⟩ W3 := fun W3 b3 e1 => ⟨kof b3, Upd.of_below_all b3, _, by rw [e1]; exact hC.below b3, hDf.keep (kof b3)⟩
      have hone := symA_one pre e
      obtain ⟨k, hke⟩ : ∃ k, e.key = k := ⟨_, rfl⟩
      rw [hke] at hks hsz hkind hone hon k1
      obtain ⟨kk, k2, ks⟩ := k
      dsimp only at hks hsz hkind hone hon k1
      have c0 : V.cell? ⟨b1, 0, none⟩ = some (.int .i64 kk) := by rw [k1.cell]; rfl
      have lb1 := k1.lt
      rcases hkind with h7 | h8
      · subst h7
        have hs8 : symA (pre ++ [e]) = symA pre := by rw [hone, if_neg (by decide), List.append_nil]
        have HSK := Lib.hid (fun (W3 : World) (b3 : Below V.heap.size V W3) => hsk W3 b3 hs8)
        have tk : ((7 : Int) == 8) = false := by decide
        clear hon hsk hone hks hsz hgr hC k1 hke hpre hs8 hn kof hDf
        gi_wp2_with (fail)
        exact HSK.out _ (Below.refl _ _)
      · subst h8
        have tk : ((8 : Int) == 8) = true := by decide
        have hs7 : symA (pre ++ [e]) = symA pre ++ [(8, k2, ks)] := by rw [hone, if_pos rfl]
        have HON := Lib.hid (fun (W3 W4 : World) {g3 cap3 : Nat} b3 c4 u4 ko4 => hon W3 W4 (g3 := g3) (cap3 := cap3) b3 c4 u4 ko4 hs7)
        obtain ⟨W3, hW3⟩ : ∃ W3, W3 = V := ⟨_, rfl⟩
        subst hW3
        have C3 := hC
        have k3 := k1
        have bV3 := Below.refl W3.heap.size W3
        have hlen := hn
        clear hon hsk hone hks hsz hgr hC k1 hke hpre hs7 hn kof hDf
        clear c0 lb1
        obtain ⟨S2, hS2⟩ : ∃ S2, W3.heap.size = S2 := ⟨_, rfl⟩
        have lD := C3.box.lt
        have lD' : p + 1 < S2 := by rw [← hS2, ← hp]; exact lD
        have c0 : W3.cell? ⟨b1, 0, none⟩ = some (.int .i64 8) := by rw [k3.cell]; rfl
        have c1 : W3.cell? ⟨b1, 1, none⟩ = some (.int .i64 k2) := by rw [k3.cell]; rfl
        have c2 : W3.cell? ⟨b1, 2, none⟩ = some (.string ks) := by rw [k3.cell]; rfl
        have lb1 := k3.lt
        have l3 : W3.cell? ⟨p + 1, 0, none⟩ = some (.slice la n lcap) := by rw [← hp, C3.box.cell]; rfl
        have hr3 : W3.ownsRow p 34 3 (.slice la n lcap) n (valsC (K3l ++ symA pre)) := by have := C3.row; rw [hlen, hp] at this; exact this
        have hnews := World.news_of_block (cs := #[.int .i64 8, .int .i64 k2, .string ks]) (t := 34) (fr := (0, 0)) (heap_alloc_new W3 (.cells #[.int .i64 8, .int .i64 k2, .string ks] 34))
        rw [hS2] at hnews
        have H3 := Lib.hid (And.intro C3 (And.intro bV3 hlen))
        clear C3 k3 bV3 hlen lD
        gi_wp2_with (gi_at_builtin; refine wpListIn_more rfl _ _ 45 rfl p 34 i0 _ 3 32 Tryd.underlying45 hi hz0 hz1 hz2 rfl (by decide) _ _ _ rfl (hr3.alloc _) ⟨S2, 0, none⟩ 1 1 [.int .i64 8, .int .i64 k2, .string ks] rfl rfl hnews (by simp [Value.oneCell']) (by decide) (by unfold maxLen; omega) (by omega) (by simp; omega) _ rfl ?_)
        intro g3 cap3 w3 hown3 hgrow3 hat3 hlt3
        obtain ⟨C3, bV3, hlen⟩ := H3.out
        have h4 := C3.more (n := n) (8, k2, ks) hlen (by rw [hp]; exact hown3) hgrow3 (hat3.imp id (fun e => by omega))
        have f3 : w3.frozen? ⟨p + 1, 0, none⟩ = false := by rw [← hp]; exact h4.2.2.2.frozen 0
        have l3c : w3.cell? ⟨p + 1, 0, none⟩ = some (.slice la n lcap) := by rw [← hp, h4.2.2.2.cell]; rfl
        have l3l : p + 1 < w3.heap.size := by rw [← hp]; exact h4.2.2.2.lt
        have HF := Lib.hid (HON.out _ _ bV3 h4.1 h4.2.1 h4.2.2.1)
        rw [show (⟨w.heap.size + 1, 0, none⟩ : Addr) = ⟨p + 1, 0, none⟩ by rw [hp]] at HF
        clear h4 C3 bV3 hlen hown3 hgrow3 hat3 hlt3 hr3 hnews l3 H3 c0 c1 c2 lb1
        gi_wp2_with (fail)
        exact HF.out
    case doneb =>
      intro O5 D2 V hD hnD hF hI hk
      obtain ⟨D', O6, hTF, hsub, _, hlen⟩ := hF
      obtain rfl : D' = [] := List.length_eq_zero_iff.1 (by simpa using hlen)
      obtain ⟨lv1, hC, hDA⟩ := hI
      have hkeys : K3l ++ symA o.A = o.keys := by
        rw [← HK3.out, ← HK2.out]
        unfold PO.keys
        have har := H.out.2.2.2.2.2.2.2.2
        by_cases ha : o.arr = true
        · rw [if_pos ha, if_pos ha, ← har, if_pos ha, ha]
        · rw [if_neg ha, if_neg ha, ← har, if_neg ha, List.append_nil]
          rw [Bool.not_eq_true] at ha
          rw [ha]
      have hrow : V.ownsRow w.heap.size 34 3 lv1 o.keys.length (valsC o.keys) := by have := hC.row; rw [hkeys] at this; exact this
      have x1 : V.cell? ⟨p + 1, 0, none⟩ = some lv1 := by rw [← hp, hC.box.cell]; rfl
      have hD12 : D2 ≠ D1 := by have := HDb.out.2; omega
      have hgn : ∀ D, V.heap[D]? = some (.deferred (some [])) → ∀ g, lv1.ownBlock = some g → g ≠ D := fun D hk g hg e => by
        obtain ⟨c, f, h1⟩ := own_kind hC.row g hg
        rw [e] at h1
        rw [h1] at hk
        cases hk
      have hDw2 : w.heap.size ≤ D2 := by have := HRb.out.1.upd.size; omega
      have HF := Lib.hid (And.intro hC (And.intro hrow (And.intro hTF (And.intro hsub (And.intro hk (And.intro hnD (And.intro hDA (And.intro (hgn D2 hk) (And.intro (hgn D1 hDA.1) (And.intro hDw2 hD12))))))))))
      clear hC hrow hTF hsub hk hnD hDA hgn hDw2 hD12 hlen hD hkeys
      go_wp2_with (fail)
      obtain ⟨hC, hrow, hTF, hsub, hk, hnD, hDA, hg2, hg1, hDw2, hD12⟩ := HF.out
      refine marksOf (I := fun V1 => V1.ownsRow w.heap.size 34 3 lv1 o.keys.length (valsC o.keys) ∧ TabA V1 T o.A [] O6 ∧ Upd w V1 Ot) [D2, D1] ?_ ?_ [D2, D1] V (fun _ h => h) (by simp [hD12]) ?_ ⟨hrow, hTF, hC.upd⟩
      · intro V1 E o1 h1 hE
        have u := Upd.put V1 E o1
        have hEn : (∀ g, lv1.ownBlock = some g → g ≠ E) ∧ ¬ O6 E ∧ w.heap.size ≤ E := by
          rcases List.mem_cons.1 hE with rfl | hE
          · exact ⟨hg2, fun e => hnD (hsub _ e), hDw2⟩
          · rw [List.mem_singleton] at hE
            subst hE
            exact ⟨hg1, fun e => hDA.2 (hsub _ e), HDW.out.1⟩
        exact ⟨u.own h1.1 (fun k hk e => hEn.1 k hk e), h1.2.1.upd u (fun k hk e => hEn.2.1 (e ▸ hk)), Upd.join h1.2.2 (u.mono fun k _ e => .inr (by rw [e]; exact hEn.2.2))⟩
      · intro V1 h1
        exact ⟨lv1, by simp [results, Tryd.results36, go_sem], lv1, O6, rfl, h1.1, h1.2.1, fun k hk => hC.o k (hsub k hk), h1.2.2, fun g hg e => hC.nr g hg (hsub g e)⟩
      · intro E hE
        rcases List.mem_cons.1 hE with rfl | hE
        · exact hk
        · rw [List.mem_singleton] at hE
          subst hE
          exact hDA.1
end Go.Proofs.YtmimnaaofpkndaaDoor.Hp
