/- HsQ: several texts in one. -/
import Derived.Test.YtmimnaaofpkndaaDoorHsO
/- HeapRuns: the document's Freeze. -/
set_option linter.unusedVariables false
set_option linter.unusedSimpArgs false
namespace Go.Proofs.YtmimnaaofpkndaaDoor.Hp
open Go.RowKit Go.Proofs.YtmimnaaofpkndaaDoor Go.Shelf Go.Sort
attribute [local go_sem] Oper.semAt_some
def frzR (x : Ent) : Ent := { x with flags := bits .and .i64 x.flags 10 }
theorem frz_all : ((List.range 16).all fun a => bits .andNot .i64 (a : Int) 5 == bits .and .i64 (a : Int) 10) = true := by kernel_rfl
theorem frz_eq {A : List Ent} (h : ∀ x ∈ A, 0 ≤ x.flags ∧ x.flags < 16) : A.map frzR = A.map frzE := by
  refine List.map_congr_left fun x hx => ?_
  obtain ⟨h0, h1⟩ := h x hx
  have ha := frz_all
  rw [List.all_eq_true] at ha
  have h2 := ha x.flags.toNat (List.mem_range.2 (by omega))
  rw [show ((x.flags.toNat : Nat) : Int) = x.flags by omega] at h2
  unfold frzR frzE
  rw [eq_of_beq h2]
/-- The first so many are frozen. -/
def frA (A : List Ent) (i : Nat) : List Ent := (A.take i).map frzR ++ A.drop i
theorem frA_len (A : List Ent) (i : Nat) : (frA A i).length = A.length := by
  unfold frA
  rw [List.length_append, List.length_map, List.length_take, List.length_drop]; omega
theorem frA_at {A : List Ent} {i : Nat} {x : Ent} (h : A[i]? = some x) : (frA A i)[i]? = some x := by
  have hi := (List.getElem?_eq_some_iff.1 h).1
  have hl : ((A.take i).map frzR).length = i := by rw [List.length_map, List.length_take]; omega
  unfold frA
  rw [List.getElem?_append_right (by omega), hl, Nat.sub_self, List.getElem?_drop, Nat.add_zero, h]
theorem frA_set {A : List Ent} {i : Nat} {x : Ent} (h : A[i]? = some x) : (frA A i).set i (frzR x) = frA A (i + 1) := by
  have hi := (List.getElem?_eq_some_iff.1 h).1
  have hx := (List.getElem?_eq_some_iff.1 h).2
  have hl : ((A.take i).map frzR).length = i := by rw [List.length_map, List.length_take]; omega
  unfold frA
  rw [List.set_append_right _ _ (by omega), hl, Nat.sub_self, List.drop_eq_getElem_cons hi, List.set_cons_zero, List.take_succ_eq_append_getElem hi, hx]
  simp
theorem RO.close {o : PO} {q : Nat} {pv ev : Value} {W : World} (h : RO o q pv ev W) : RO { o with clo := true } q pv ev ((W.setCell ⟨q, 1, none⟩ (.bool true)).setCell ⟨q, 2, none⟩ (.bool true)) ∧ Upd W ((W.setCell ⟨q, 1, none⟩ (.bool true)).setCell ⟨q, 2, none⟩ (.bool true)) (fun k => k = q) := by
  have u : Upd W ((W.setCell ⟨q, 1, none⟩ (.bool true)).setCell ⟨q, 2, none⟩ (.bool true)) (fun k => k = q) := ((Upd.refl W (fun k => k = q)).set q 1 _ rfl).set q 2 _ rfl
  exact ⟨⟨(h.ob.set_ 1 _).set_ 2 _, u.own h.rp (fun k hk e => h.np (e ▸ hk)), u.own h.re (fun k hk e => h.ne (e ▸ hk)), h.sep⟩, u⟩
set_option maxRecDepth 100000 in
set_option maxHeartbeats 8000000 in
theorem rfreeze_any {o : PO} {q : Nat} {pv ev : Value} {w : World} (h : RO o q pv ev w) (hO : o.Ok) (hA : o.A.length ≤ 4000) :
    Calls Tryd.prog 65 #[.pointer (some ⟨q, 0, none⟩)] w fun e w' => (∃ v, e = .returned v) ∧ LeftR o q pv ev w o.freeze w' := by
  have H := Lib.hid (And.intro h (And.intro hO hA))
  have x1 : w.cell? ⟨q, 1, none⟩ = some (.bool o.clo) := by rw [h.ob.cell]; rfl
  have x2 : w.cell? ⟨q, 2, none⟩ = some (.bool o.clo) := by rw [h.ob.cell]; rfl
  have f1 := h.ob.frozen 1
  have f2 := h.ob.frozen 2
  have lq := h.ob.lt
  have hC := h.close
  have HC := Lib.hid hC
  generalize o.clo = cl at x1 x2
  clear h hO hA hC
  go_enter Tryd.func65, Tryd.ntmps65
  go_wp2_with fail
  obtain ⟨W1, hW1⟩ : ∃ W1, (w.setCell ⟨q, 1, none⟩ (.bool true)).setCell ⟨q, 2, none⟩ (.bool true) = W1 := ⟨_, rfl⟩
  rw [hW1] at HC ⊢
  clear hW1 x1 x2 f1 f2 lq
  obtain ⟨n, hn⟩ : ∃ n, o.A.length = n := ⟨_, rfl⟩
  have HN := Lib.hid hn
  clear hn
  go_loopw [2] (fun v wr => ∃ i : Nat, i ≤ n ∧ v = .int .i64 (i : Int) ∧ Hid (RO { o with clo := true, A := frA o.A i } q pv ev wr ∧ Upd w wr (roB q pv ev))) (fun v _ => n - (intOf v).toNat)
  case atStart =>
    refine ⟨0, Nat.zero_le _, rfl, Lib.hid ⟨?_, HC.out.2.mono (fun k _ e => .inl e)⟩⟩
    have := HC.out.1
    rw [show frA o.A 0 = o.A by simp [frA]]
    exact this
  case round =>
    obtain ⟨i, hi, rfl, HS⟩ := hrel
    obtain ⟨hR, hu⟩ := HS.out
    have hA := H.out.2.2
    rw [HN.out] at hA
    have hln : (frA o.A i).length = n := by rw [frA_len, HN.out]
    have hrow : wr.ownsRow 1 127 7 pv (frA o.A i).length (propsC (frA o.A i)) := hR.rp
    rw [hln] at hrow
    obtain ⟨pa, pcap, hpv, hpa⟩ := own_shape hrow
    have x4 : wr.cell? ⟨q, 4, none⟩ = some (.slice pa n pcap) := by rw [hR.ob.cell, ← hpv]; rfl
    have lq := hR.ob.lt
    by_cases hlt : i < n
    · have t1 : decide ((i : Int) < (n : Int)) = true := by rw [decide_eq_true_eq]; omega
      have ak : IntKind.i64.wrap ((i : Int) + 1) = ((i + 1 : Nat) : Int) := by rw [IntWalk.i64_in _ (by omega)]; rfl
      obtain ⟨g, rfl⟩ := hpa (by omega)
      obtain ⟨x, hx⟩ : ∃ x, o.A[i]? = some x := ⟨_, List.getElem?_eq_getElem (by rw [HN.out]; exact hlt)⟩
      have hx2 := frA_at hx
      have e6 : wr.cell? ⟨g, i * 7 + 6, none⟩ = some (.int .i64 x.flags) := by
        have := hrow
        rw [hpv] at this
        exact (this.cellAt (i * 7 + 6) (by omega)).trans (propsC_get _ i x hx2 6 (by decide))
      have f6 : wr.frozen? ⟨g, i * 7 + 6, none⟩ = false := by
        have := hrow
        rw [hpv] at this
        exact this.frozenAt (i * 7 + 6)
      have lg := World.block_lt_of_cell? wr _ e6
      have z0 : (0 : Int) ≤ (i : Int) := by omega
      have z1 : (i : Int) < (n : Int) := by omega
      have hF : RO { o with clo := true, A := frA o.A (i + 1) } q pv ev (wr.setCell ⟨g, i * 7 + 6, none⟩ (.int .i64 (bits .and .i64 x.flags 10))) ∧ Upd wr (wr.setCell ⟨g, i * 7 + 6, none⟩ (.int .i64 (bits .and .i64 x.flags 10))) (fun k => k = g) := by
        have hR2 := hR
        rw [hpv] at hR2
        have := hR2.setFlag (i := i) (x := x) (bits .and .i64 x.flags 10) hln hx2
        rw [← hpv] at this
        refine ⟨?_, this.2⟩
        have h1 := this.1
        dsimp only at h1
        rw [show (frA o.A i).set i { x with flags := bits .and .i64 x.flags 10 } = frA o.A (i + 1) from frA_set hx] at h1
        exact h1
      have HF := Lib.hid (And.intro hF.1 (hu.trans (hF.2.mono (fun k _ e => .inr (.inl (by rw [e, hpv]; rfl))))))
      obtain ⟨xf, hxf⟩ : ∃ y, x.flags = y := ⟨_, rfl⟩
      rw [hxf] at e6 HF
      clear hF hx hx2 hrow hR hu HS hpa hpv hln hxf
      go_wp2_with fail
      go_roundw
      case rel => exact ⟨i + 1, by omega, rfl, HF⟩
      case measure => simp only [intOf]; omega
    · obtain rfl : i = n := by omega
      have t1 : decide ((i : Int) < (i : Int)) = false := by simp
      clear hrow hpa hR hu hpv hln
      go_wp2
      go_end0
      refine ⟨⟨_, rfl⟩, ?_⟩
      have hfr : frA o.A i = o.A.map frzE := by
        unfold frA
        rw [← HN.out, List.take_length, List.drop_length, List.append_nil, frz_eq (fun x hx => (H.out.2.1.ks x hx).2.2)]
      have h1 := HS.out.1
      rw [hfr] at h1
      exact ⟨HS.out.2, pv, ev, h1, fun k hk => .inl hk⟩
end Go.Proofs.YtmimnaaofpkndaaDoor.Hp

/- HeapRuns: the document's heap: Obj, Make. -/
set_option linter.unusedVariables false
set_option linter.unusedSimpArgs false
namespace Go.Proofs.YtmimnaaofpkndaaDoor.Hp
open Go.RowKit Go.Proofs.YtmimnaaofpkndaaDoor Go.Shelf Go.Sort
attribute [local go_sem] Oper.semAt_some
def ptrC (qs : List Nat) : List Value := qs.map fun q => .pointer (some ⟨q, 0, none⟩)
theorem infoPR : (Tryd.prog.info? 84).map (fun i => (i.zero, i.size, i.bytes)) = some (some (.pointer none), 1, 8) := by kernel_rfl
/-- The document's heap: its list of objects. -/
structure RHp (w : World) (Q : Nat) (lv : Value) (qs : List Nat) : Prop where
  hb : Blk w Q 78 #[lv]
  row : w.ownsRow 1 84 1 lv qs.length (ptrC qs)
theorem RHp.upd {w w' : World} {Q : Nat} {lv : Value} {qs : List Nat} {M : Nat → Prop} (h : RHp w Q lv qs) (u : Upd w w' M) (h0 : ¬ M Q) (h1 : ∀ g, lv.ownBlock = some g → ¬ M g) : RHp w' Q lv qs := ⟨u.blk h.hb h0, u.own h.row h1⟩
theorem RHp.below {w w' : World} {Q : Nat} {lv : Value} {qs : List Nat} (h : RHp w Q lv qs) (b : Below w.heap.size w w') : RHp w' Q lv qs := h.upd (M := fun _ => False) (Upd.of_below_all b) (fun e => e) (fun _ _ e => e)
def robjV (qs : List Nat) (r : Int) : Value := if 1 ≤ r ∧ r ≤ qs.length then .pointer (some ⟨qs.getD (r - 1).toNat 0, 0, none⟩) else .pointer none
set_option maxRecDepth 100000 in
set_option maxHeartbeats 4000000 in
theorem robj_any {w : World} {Q : Nat} {lv : Value} {qs : List Nat} (r : Int) (h : RHp w Q lv qs) (hl : qs.length ≤ 1000) :
    Calls Tryd.prog 37 #[.pointer (some ⟨Q, 0, none⟩), .int .i64 r] w fun e w' => e = .returned (robjV qs r) ∧ w' = w := by
  obtain ⟨n, hn⟩ : ∃ n, qs.length = n := ⟨_, rfl⟩
  have hrow := h.row
  rw [hn] at hrow hl
  obtain ⟨la, lcap, rfl, hla⟩ := own_shape hrow
  have x0 : w.cell? ⟨Q, 0, none⟩ = some (.slice la n lcap) := by rw [h.hb.cell]; rfl
  have lq := h.hb.lt
  unfold robjV
  rw [hn]
  by_cases h1 : r < 1
  · have t1 : decide (r < 1) = true := by simpa using h1
    rw [if_neg (by omega)]
    clear hrow hla h
    go_enter Tryd.func37, Tryd.ntmps37
    go_wp2
    go_ret
    exact ⟨rfl, rfl⟩
  · have t1 : decide (r < 1) = false := by simp; omega
    by_cases h2 : (n : Int) < r
    · have t2 : decide ((n : Int) < r) = true := by simpa using h2
      rw [if_neg (by omega)]
      clear hrow hla h
      go_enter Tryd.func37, Tryd.ntmps37
      go_wp2
      go_ret
      exact ⟨rfl, rfl⟩
    · have t2 : decide ((n : Int) < r) = false := by simp; omega
      rw [if_pos (by omega)]
      obtain ⟨i, hi⟩ : ∃ i : Nat, r = (i : Int) + 1 := ⟨(r - 1).toNat, by omega⟩
      subst hi
      obtain ⟨g, rfl⟩ := hla (by omega)
      have e0 : w.cell? ⟨g, i, none⟩ = some (.pointer (some ⟨qs.getD i 0, 0, none⟩)) := by
        rw [hrow.cellAt i (by omega)]
        unfold ptrC
        rw [List.getElem?_map, List.getD_eq_getElem?_getD, List.getElem?_eq_getElem (by omega)]
        rfl
      have a1 : IntKind.i64.wrap ((i : Int) + 1 - 1) = (i : Int) := by rw [IntWalk.i64_in _ (by omega)]; omega
      have z0 : (0 : Int) ≤ (i : Int) := by omega
      have z1 : (i : Int) < (n : Int) := by omega
      rw [show ((i : Int) + 1 - 1).toNat = i by omega]
      generalize qs.getD i 0 = b at *
      clear hrow hla h
      go_enter Tryd.func37, Tryd.ntmps37
      go_wp2
      go_ret
      exact ⟨rfl, rfl⟩
/-- A new object of the document's. -/
def newO (arr : Bool) (pr : Nat) : PO := ⟨arr, false, pr, [], []⟩
set_option maxRecDepth 100000 in
set_option maxHeartbeats 4000000 in
theorem rmake_any {w : World} {Q : Nat} {lv : Value} {qs : List Nat} (arr : Bool) (pr : Nat) (h : RHp w Q lv qs) (hl : qs.length ≤ 1000) :
    Calls Tryd.prog 58 #[.pointer (some ⟨Q, 0, none⟩), .bool arr, .int .i64 (pr : Int)] w fun e w' => e = .returned (.int .i64 ((qs.length + 1 : Nat) : Int)) ∧
      ∃ lv', RHp w' Q lv' (qs ++ [w.heap.size]) ∧ RO (newO arr pr) w.heap.size nilS nilS w' ∧ Upd w w' (fun k => k = Q ∨ lv.ownBlock = some k) ∧ (∀ g, lv'.ownBlock = some g → lv.ownBlock = some g ∨ w.heap.size < g) := by
  obtain ⟨i0, hi, hz0, hz1, hz2⟩ := info_parts infoPR
  obtain ⟨n, hn⟩ : ∃ n, qs.length = n := ⟨_, rfl⟩
  have hrow := h.row
  rw [hn] at hrow hl
  obtain ⟨la, lcap, rfl, hla⟩ := own_shape hrow
  have x0 : w.cell? ⟨Q, 0, none⟩ = some (.slice la n lcap) := by rw [h.hb.cell]; rfl
  have lq := h.hb.lt
  have f0 := h.hb.frozen 0
  have hnq : (Value.slice la n lcap).ownBlock ≠ some Q := own_blk_ne hrow h.hb (by decide)
  obtain ⟨W1, hW1⟩ : ∃ W1, w.alloc (.cells #[.bool arr, .bool false, .bool false, .int .i64 (pr : Int), .slice none 0 0, .slice none 0 0] 133) = W1 := ⟨_, rfl⟩
  have b1 : Below w.heap.size w W1 := by rw [← hW1]; exact (Below.refl _ _).alloc (Nat.le_refl _) _
  have kb : Blk W1 w.heap.size 133 #[.bool arr, .bool false, .bool false, .int .i64 (pr : Int), .slice none 0 0, .slice none 0 0] := by rw [← hW1]; exact Blk.new w _ _
  have sz1 : W1.heap.size = w.heap.size + 1 := by rw [← hW1, World.size_alloc]
  have h1 := h.below b1
  have hrow1 := h1.row
  rw [hn] at hrow1
  have H := Lib.hid (And.intro h1 (And.intro kb (And.intro b1 (And.intro sz1 (And.intro hnq (And.intro hn hrow1))))))
  have ht : IntKind.i64.wrap ((n : Int) + 1) = ((n + 1 : Nat) : Int) := by rw [IntWalk.i64_in _ (by omega)]; rfl
  have hnw : ∀ j u, ([.pointer (some ⟨w.heap.size, 0, none⟩)] : List Value)[j]? = some u → (W1.alloc (.cells #[.pointer (some ⟨w.heap.size, 0, none⟩)] 84)).cell? ((⟨w.heap.size + 1, 0, none⟩ : Addr).add j) = some u := by
    rw [← sz1]
    exact World.news_of_block (cs := #[.pointer (some ⟨w.heap.size, 0, none⟩)]) (t := 84) (fr := (0, 0)) (heap_alloc_new W1 _)
  have HNW := Lib.hid hnw
  clear hrow h b1 kb h1 hla hnq hnw
  go_enter Tryd.func58, Tryd.ntmps58
  have HW := Lib.hid hW1
  go_wp2_with (at_builtin; refine wpList_append_lies _ rfl _ _ 76 rfl 1 84 i0 _ 1 8 Tryd.underlying76 hi hz0 hz1 hz2 rfl (by decide) _ _ _ rfl (hrow1.alloc _) ⟨w.heap.size + 1, 0, none⟩ 1 1 [.pointer (some ⟨w.heap.size, 0, none⟩)] rfl rfl HNW.out (by simp [Value.oneCell']) (by decide) (by unfold maxLen; omega) (by omega) (by first | (simp; done) | (simp; omega)) _ rfl ?_)
  intro g cap w8 hown8 hgr8 hat8 hlt8
  obtain ⟨h1, kb, b1, sz1, hnq, hn, -⟩ := H.out
  have hb8 := (h1.hb.alloc _).grown hgr8 (fun e => hnq e.symm)
  have u : Upd W1 (w8.setCell ⟨Q, 0, none⟩ (.slice (some ⟨g, 0, none⟩) (n + 1) cap)) (fun k => k = Q ∨ (Value.slice la n lcap).ownBlock = some k) := (((Upd.refl W1 _).alloc _).grown hgr8 (fun k e => .inr e)).set Q 0 _ (.inl rfl)
  have hq1 : ¬ (w.heap.size = Q ∨ (Value.slice la n lcap).ownBlock = some w.heap.size) := by
    rintro (e | e)
    · omega
    · exact own_blk_ne h1.row kb (by decide) e
  have hR : RHp (w8.setCell ⟨Q, 0, none⟩ (.slice (some ⟨g, 0, none⟩) (n + 1) cap)) Q (.slice (some ⟨g, 0, none⟩) (n + 1) cap) (qs ++ [w.heap.size]) := by
    refine ⟨hb8.set_ 0 _, ?_⟩
    have := own_set hown8 hb8 (by decide) 0 (.slice (some ⟨g, 0, none⟩) (n + 1) cap)
    unfold ptrC at this ⊢
    rw [List.length_append, hn, List.map_append]
    exact this
  have hO : RO (newO arr pr) w.heap.size nilS nilS (w8.setCell ⟨Q, 0, none⟩ (.slice (some ⟨g, 0, none⟩) (n + 1) cap)) :=
    ⟨u.blk kb hq1, World.ownsRow_nil _ _ _ _, World.ownsRow_nil _ _ _ _, fun g' hg' => (by simp [Value.ownBlock] at hg')⟩
  have HF := Lib.hid (And.intro hR (And.intro hO (And.intro ((Upd.of_below_all (M := fun k => k = Q ∨ (Value.slice la n lcap).ownBlock = some k) b1).trans u) (hat8.imp id (fun e => (show w.heap.size < g by omega))))))
  have x8 : w8.cell? ⟨Q, 0, none⟩ = some (.slice la n lcap) := by rw [hb8.cell]; rfl
  have f8 := hb8.frozen 0
  have l8 := hb8.lt
  have HN := Lib.hid hn
  clear hown8 hgr8 hat8 hlt8 hb8 u hq1 hR hO h1 kb b1 hnq hn hrow1 H HW hW1
  go_wp2
  go_ret
  refine ⟨by rw [HN.out]; rfl, _, HF.out.1, HF.out.2.1, HF.out.2.2.1, fun g' hg' => ?_⟩
  obtain rfl : g = g' := by simpa [Value.ownBlock] using hg'
  exact HF.out.2.2.2
end Go.Proofs.YtmimnaaofpkndaaDoor.Hp
