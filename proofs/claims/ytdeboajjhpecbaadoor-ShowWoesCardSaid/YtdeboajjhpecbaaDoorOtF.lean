/- Contract of Delete. -/
import Derived.Test.YtdeboajjhpecbaaDoorOtE
set_option linter.unusedVariables false
set_option linter.unusedSimpArgs false
namespace Go.Proofs.YtdeboajjhpecbaaDoor
open Go.RowKit Go.Sort

theorem cp_cp (l : List Ent) : cp (cp l) = cp l := by simp [cp, List.filter_filter]
theorem cnt_cp (l : List Ent) (n : Nat) (h : n ≤ (cp l).length) : cnt (cp l) n = n := by
  unfold cnt
  have : cp ((cp l).take n) = (cp l).take n := by
    rw [cp, List.filter_eq_self]
    intro e he
    have := (mem_cp (List.mem_of_mem_take he)).2
    simp [this]
  rw [this, List.length_take]; omega
theorem TabV.setLive {w : World} {T : Nat} {lv sv cv : Value} {es : List Ent} {sl : List Nat} {live : Nat} {cs : List (Nat × Nat)} {O : Nat → Prop} (h : TabV w T lv sv cv es sl live cs O) (n : Nat) : TabV (w.setCell ⟨T, 2, none⟩ (.int .i64 (n : Int))) T lv sv cv es sl n cs O :=
  ⟨h.blk.set_ 2 _, own_set h.ents h.blk (by decide) _ _, own_set h.slots h.blk (by decide) _ _, own_set h.curs h.blk (by decide) _ _, fun c hc => (h.cur c hc).far ((h.cur c hc).ne_ h.blk (by decide)) _, h.nodup, h.oT, h.oL, h.oS, h.oC, h.oc, fun k hk => by have := h.oLt k hk; simpa using this⟩

/-- What rehash comes to, as a table. -/
theorem reh_tab {w w' : World} {T : Nat} {cv : Value} {es : List Ent} {cs : List (Nat × Nat)} {O : Nat → Prop} {e : Ending} (hks : ∀ e ∈ es, e.key.2.2.size ≤ 4000) (h : RehP T cv es (cp es).length cs O w e w') :
    e = .returned (.tuple #[]) ∧ (∃ lv sv sl, TabS w' T lv sv cv (cp es) sl (cs.map (curF es)) (Og O w w') ∧ 4 * ((cp es).length + 1) ≤ sl.length) ∧ (cs.map (curF es)).map (curF (cp es)) = cs.map (curF es) ∧ Upd w w' O := by
  obtain ⟨lv, sv, sl, he, ht, hc, hn, h4, h5, hu⟩ := h
  refine ⟨he, ⟨lv, sv, sl, ⟨by rw [cp_cp]; exact ht, hc, hn, by omega, by rw [cp_cp]; omega, fun c hc => ?_, fun e he => hks e (mem_cp he).1⟩, h4⟩, ?_, hu⟩
  · obtain ⟨d, hd, rfl⟩ := List.mem_map.1 hc
    exact cnt_le _ _
  · rw [List.map_map]
    apply List.map_congr_left
    intro c _
    show ((curF es c).1, cnt (cp es) (curF es c).2) = curF es c
    exact congrArg (fun n => (c.1, n)) (cnt_cp es _ (cnt_le es c.2))

def delA (k : K3) (A : List Ent) : List Ent := A.filter (fun e => !isKey k e)
def delD (k : K3) (A : List Ent) (c : Nat × Nat) : Nat × Nat := (c.1, (delA k (A.take c.2)).length)
theorem del_cp {es : List Ent} {sl : List Nat} (c : Core es sl) {k : K3} {j : Nat} {e : Ent} (he : es[j]? = some e) (hk : isKey k e = true) :
    cp (es.set j grave0) = delA k (cp es) ∧ ∀ x : Nat × Nat, curF (es.set j grave0) x = delD k (cp es) (curF es x) := by
  have h := cp_del c.dst k j e grave0 he hk rfl
  refine ⟨?_, fun x => ?_⟩
  · have h2 := h es.length
    rw [List.take_length] at h2
    rw [List.take_of_length_le (by rw [List.length_set]; exact Nat.le_refl _)] at h2
    exact h2
  · show (x.1, cnt (es.set j grave0) x.2) = (x.1, (delA k ((cp es).take (cnt es x.2))).length)
    rw [← cp_take, cnt, h]; rfl

theorem del_len {es : List Ent} {j : Nat} {e : Ent} (he : es[j]? = some e) (hg : e.grave = false) : (cp (es.set j grave0)).length + 1 = (cp es).length := by
  obtain ⟨hj, he'⟩ := List.getElem?_eq_some_iff.1 he
  have hs : es = es.take j ++ e :: es.drop (j + 1) := by rw [← he', ← List.drop_eq_getElem_cons hj, List.take_append_drop]
  have h1 : cp (es.set j grave0) = cp (es.take j) ++ cp (es.drop (j + 1)) := by
    rw [List.set_eq_take_append_cons_drop, if_pos hj, cp_append]; rfl
  have h2 : cp es = cp (es.take j) ++ (e :: cp (es.drop (j + 1))) := by
    conv => lhs; rw [hs, cp_append]
    simp [cp, hg]
  rw [h1, h2, List.length_append, List.length_append, List.length_cons]; omega

theorem mkA {w : World} {T : Nat} {lv sv cv : Value} {es A : List Ent} {sl : List Nat} {cs D : List (Nat × Nat)} {O : Nat → Prop} (h : TabS w T lv sv cv es sl cs O) (h1 : cp es = A) (h2 : cs.map (curF es) = D) : TabA w T A D O := ⟨_, _, _, _, _, _, h, h1, h2⟩

def DelP (T : Nat) (k : K3) (A : List Ent) (D : List (Nat × Nat)) (O : Nat → Prop) (w : World) (e : Ending) (w' : World) : Prop :=
  (e = .returned (.bool false) ∧ (∀ x ∈ A, isKey k x = false) ∧ Below w.heap.size w w') ∨
  (e = .returned (.bool true) ∧ (∃ x ∈ A, isKey k x = true) ∧ TabA w' T (delA k A) (D.map (delD k A)) (Og O w w') ∧ Upd w w' O)

set_option maxHeartbeats 4000000 in
set_option maxRecDepth 100000 in
theorem delete_any (T : Nat) (A : List Ent) (D : List (Nat × Nat)) (O : Nat → Prop) (k : K3) (w : World) (h : TabA w T A D O) (hk : k.2.2.size ≤ 4000) (hA : A.length ≤ 5000) (hD : D.length ≤ 100000) :
    Calls Tryd.prog 41 #[.pointer (some ⟨T, 0, none⟩), VK k] w (DelP T k A D O w) := by
  obtain ⟨lv, sv, cv, es, sl, cs, hs, rfl, rfl⟩ := h
  have ht := hs.tab
  have hb1 : Below w.heap.size w (w.alloc (SC k.1 k.2.1 k.2.2)) := (Below.refl _ _).alloc (Nat.le_refl _) _
  have ht1 := ht.below hb1
  go_enter Tryd.func41, Tryd.ntmps41
  go_wp2_with fail
  generalize (w.alloc (SC k.1 k.2.1 k.2.2)) = w1 at *
  refine (find_any T lv sv cv es sl _ cs O k w1 ht1 hs.core hs.slotN (load_find hs.load) hk).mono ?_
  rintro e w2 ⟨i, s, rfl, hf, b2⟩
  have ht2 := ht1.below b2
  have hb2 := hb1.trans (b2.mono hb1.size)
  rcases findR_cases hf hs.load with ⟨rfl, hno⟩ | ⟨j, x, rfl, hx, hkx⟩
  · have hno2 : ∀ x ∈ cp es, isKey k x = false := fun x hx => by
      obtain ⟨i, hi⟩ := List.getElem?_of_mem (mem_cp hx).1
      exact hno i x hi
    have HN := Lib.hid hno2
    have HB := Lib.hid hb2
    clear hf hno hno2 ht ht1 ht2 hs hb1 hb2 b2
    go_wp2
    go_ret
    exact .inl ⟨rfl, HN.out, HB.out⟩
  · obtain ⟨A0, c0, rfl, hA0⟩ := own_shape ht.ents
    have hj := (List.getElem?_eq_some_iff.1 hx).1
    obtain ⟨g, rfl⟩ := hA0 (by omega)
    have hmem : x ∈ cp es := List.mem_filter.2 ⟨List.mem_of_getElem? hx, by simp [(isKey_true.1 hkx).1]⟩
    have hlv : 1 ≤ (cp es).length := List.length_pos_of_mem hmem
    have x0 : w2.cell? ⟨T, 0, none⟩ = some (.slice (some ⟨g, 0, none⟩) es.length c0) := by rw [ht2.blk.cell]; rfl
    have e0 : w2.cell? ⟨g, j * 8, none⟩ = some (.int .i64 x.key.1) := ht2.ent j x hx 0 (by decide)
    have e1 : w2.cell? ⟨g, j * 8 + 1, none⟩ = some (.int .i64 x.key.2.1) := ht2.ent j x hx 1 (by decide)
    have e2 : w2.cell? ⟨g, j * 8 + 2, none⟩ = some (.string x.key.2.2) := ht2.ent j x hx 2 (by decide)
    have e3 : w2.cell? ⟨g, j * 8 + 3, none⟩ = some (.int .i64 x.val.1) := ht2.ent j x hx 3 (by decide)
    have e4 : w2.cell? ⟨g, j * 8 + 4, none⟩ = some (.int .i64 x.val.2.1) := ht2.ent j x hx 4 (by decide)
    have e5 : w2.cell? ⟨g, j * 8 + 5, none⟩ = some (.string x.val.2.2) := ht2.ent j x hx 5 (by decide)
    have e6 : w2.cell? ⟨g, j * 8 + 6, none⟩ = some (.int .i64 x.flags) := ht2.ent j x hx 6 (by decide)
    have e7 : w2.cell? ⟨g, j * 8 + 7, none⟩ = some (.bool x.grave) := ht2.ent j x hx 7 (by decide)
    have f0 := World.ownsRow.frozenAt ht2.ents (j * 8)
    have f1 := World.ownsRow.frozenAt ht2.ents (j * 8 + 1)
    have f2 := World.ownsRow.frozenAt ht2.ents (j * 8 + 2)
    have f3 := World.ownsRow.frozenAt ht2.ents (j * 8 + 3)
    have f4 := World.ownsRow.frozenAt ht2.ents (j * 8 + 4)
    have f5 := World.ownsRow.frozenAt ht2.ents (j * 8 + 5)
    have f6 := World.ownsRow.frozenAt ht2.ents (j * 8 + 6)
    have f7 := World.ownsRow.frozenAt ht2.ents (j * 8 + 7)
    have hset := ht2.setEnt (r := 0) (e' := grave0) (l := [.int .i64 0, .int .i64 0, .string ⟨#[]⟩, .int .i64 0, .int .i64 0, .string ⟨#[]⟩, .int .i64 0, .bool true]) hx (by decide) rfl
    have hup := setsAt_upd w2 g (j * 8 + 0) [.int .i64 0, .int .i64 0, .string ⟨#[]⟩, .int .i64 0, .int .i64 0, .string ⟨#[]⟩, .int .i64 0, .bool true]
    obtain ⟨n, hn⟩ : ∃ n, es.length = n := ⟨_, rfl⟩
    have HN := Lib.hid hn
    rw [hn] at hj x0
    have j0 : (0 : Int) ≤ (j : Int) := by omega
    have j1 : (j : Int) < (n : Int) := by omega
    have HX := Lib.hid hx
    have HK := Lib.hid hkx
    clear hx hkx hn hA0 hf
    go_upto_region 7 with fail
    simp only [setsAt, Nat.add_zero, Nat.add_assoc, Nat.reduceAdd] at hset hup
    generalize ((((((((w2.setCell ⟨g, j * 8, none⟩ (.int .i64 0)).setCell ⟨g, j * 8 + 1, none⟩ (.int .i64 0)).setCell ⟨g, j * 8 + 2, none⟩ (.string ⟨#[]⟩)).setCell ⟨g, j * 8 + 3, none⟩ (.int .i64 0)).setCell ⟨g, j * 8 + 4, none⟩ (.int .i64 0)).setCell ⟨g, j * 8 + 5, none⟩ (.string ⟨#[]⟩)).setCell ⟨g, j * 8 + 6, none⟩ (.int .i64 0)).setCell ⟨g, j * 8 + 7, none⟩ (.bool true)) = w3 at *
    clear e0 e1 e2 e3 e4 e5 e6 e7 f0 f1 f2 f3 f4 f5 f6 f7 x0
    have hcx := del_cp hs.core HX.out HK.out
    have hdl := del_len HX.out (isKey_true.1 HK.out).1
    obtain ⟨m, hm⟩ : ∃ m, (cp (es.set j grave0)).length = m := ⟨_, rfl⟩
    rw [hm] at hdl
    have hcore := hs.core.del j grave0 rfl
    have y2 : w3.cell? ⟨T, 2, none⟩ = some (.int .i64 ((m : Int) + 1)) := by rw [hset.blk.cell, ← hdl]; rfl
    have z2 := hset.blk.frozen 2
    have hs4 := hset.setLive m
    have hu4 : Upd w (w3.setCell ⟨T, 2, none⟩ (.int .i64 (m : Int))) O := ((Upd.of_below_all (M := O) hb2).trans (hup.mono (fun k _ hk => by subst hk; exact ht2.oL _ rfl))).set T 2 _ ht2.oT
    have hsz4 : w.heap.size ≤ w2.heap.size := hb2.size
    have hroom := hs.room
    have hload := hs.load
    have hlen := HN.out
    rw [hlen] at hroom hload
    have hks2 : ∀ e ∈ es.set j grave0, e.key.2.2.size ≤ 4000 := by
      intro e he
      rcases List.mem_or_eq_of_mem_set he with h | rfl
      · exact hs.keyS e h
      · exact Nat.zero_le _
    have hat2 : ∀ c ∈ cs, c.2 ≤ (es.set j grave0).length := fun c hc => by rw [List.length_set]; exact hs.at_ c hc
    have HM := Lib.hid hm
    have HCX := Lib.hid hcx
    have hm5 : m ≤ 5000 := by omega
    clear hset hup hcx hm ht ht1 ht2 hb1 b2 hmem hlen
    go_upto_region 8 with fail
    generalize (w3.setCell ⟨T, 2, none⟩ (.int .i64 (m : Int))) = w4 at *
    have x0 : w4.cell? ⟨T, 0, none⟩ = some (.slice (some ⟨g, 0, none⟩) n c0) := by rw [hs4.blk.cell, ← HN.out]; rfl
    have x2 : w4.cell? ⟨T, 2, none⟩ = some (.int .i64 (m : Int)) := by rw [hs4.blk.cell]; rfl
    clear y2 z2
    have hDm : cs.map (curF (es.set j grave0)) = (cs.map (curF es)).map (delD k (cp es)) := by
      rw [List.map_map]
      exact List.map_congr_left (fun c _ => HCX.out.2 c)
    have hyes : ∃ y ∈ cp es, isKey k y = true := ⟨x, List.mem_filter.2 ⟨List.mem_of_getElem? HX.out, by simp [(isKey_true.1 HK.out).1]⟩, HK.out⟩
    have hstay : n ≤ max (8 + m) (4 * m + 4) → ∀ q, DelP T k (cp es) (cs.map (curF es)) O w (.returned (.bool true)) (w4.drewN q) := by
      intro hr q
      have hq : Upd w4 (w4.drewN q) (fun _ => False) := Upd.of_below_all (below_drewN (Below.refl _ _) q)
      have hsz5 := (hu4.trans (hq.mono (fun _ _ h => h.elim))).size
      refine .inr ⟨rfl, hyes, ⟨.slice (some ⟨g, 0, none⟩) es.length c0, sv, cv, es.set j grave0, sl, cs, ⟨?_, hcore, hs.slotN, by rw [List.length_set, HN.out]; exact hload, by rw [List.length_set, HN.out, HM.out]; exact hr, hat2, hks2⟩, HCX.out.1, hDm⟩, hu4.trans (hq.mono (fun _ _ h => h.elim))⟩
      rw [HM.out]
      have hl : es.length = (es.set j grave0).length := by rw [List.length_set]
      exact (hs4.upd hq (fun _ _ h => h)).widen (fun k hk => .inl hk) (fun k hk => by
        rcases hk with hk | ⟨_, hk⟩
        · exact Nat.lt_of_lt_of_le (hs4.oLt k hk) hq.size
        · exact hk)
    have Hstay := Lib.hid hstay
    have Hyes := Lib.hid hyes
    have HDm := Lib.hid hDm
    have w1' : IntKind.i64.wrap ((m : Int) + 1) = (m : Int) + 1 := IntWalk.i64_in _ (by omega)
    have w2' : IntKind.i64.wrap (4 * ((m : Int) + 1)) = 4 * ((m : Int) + 1) := IntWalk.i64_in _ (by omega)
    by_cases h8 : 8 < n
    · have t8 : decide ((8 : Int) < (n : Int)) = true := by simp; omega
      by_cases h4 : 4 * (m + 1) < n
      · have t4 : decide (4 * ((m : Int) + 1) < (n : Int)) = true := by simp; omega
        clear hstay hyes hDm
        have hreh := fun q => rehash_any T _ sv cv (es.set j grave0) sl m cs O (w4.drewN q) ((hs4.upd (M := fun _ => False) (Upd.of_below_all (below_drewN (Below.refl w4.heap.size w4) q)) (fun _ _ h => h))) hcore (by rw [List.length_set, HN.out]; omega) (by rw [HM.out]; omega) hat2 (by rw [List.length_map] at hD; exact hD) hks2
        have HRE := Lib.hid hreh
        clear hreh
        go_quiet (fail)
        clear w1' w2'
        go_wp2_with fail
        refine (HRE.out _).mono ?_
        intro e5 w5 hr5
        have hm7 := HM.out
        rw [← hm7] at hr5
        have hr6 := hr5
        clear hm7
        obtain ⟨rfl, ⟨lv5, sv5, sl5, ht5, _⟩, hD5, hu5⟩ := reh_tab hks2 hr6
        have hfin : DelP T k (cp es) (cs.map (curF es)) O w (.returned (.bool true)) w5 := by
          refine .inr ⟨rfl, Hyes.out, ?_, (hu4.then_below (below_drewN (Below.refl _ _) _)).trans hu5⟩
          have hA5 := mkA ht5 (cp_cp _) hD5
          rw [HCX.out.1, HDm.out] at hA5
          refine hA5.widen (fun k hk => ?_) (fun k hk => ?_)
          · rcases hk with hk | ⟨h1, h2⟩
            · exact .inl hk
            · exact .inr ⟨Nat.le_trans hu4.size (Nat.le_trans (below_drewN (Below.refl w4.heap.size w4) _).size h1), h2⟩
          · rcases hk with hk | ⟨h1, h2⟩
            · exact hA5.lt k (.inl hk)
            · exact h2
        have HF := Lib.hid hfin
        clear hfin ht5 hr5 hr6 hu5 hD5
        go_wp2
        go_ret
        exact HF.out
      · have t4 : decide (4 * ((m : Int) + 1) < (n : Int)) = false := by simp; omega
        have HF := Lib.hid (hstay (by omega))
        clear hstay hyes hDm
        go_quiet (fail)
        clear w1' w2'
        go_wp2
        go_ret
        exact HF.out _
    · have t8 : decide ((8 : Int) < (n : Int)) = false := by simp; omega
      have HF := Lib.hid (hstay (by omega))
      clear hstay hyes hDm
      go_quiet (fail)
      clear w1' w2'
      go_wp2
      go_ret
      exact HF.out _
end Go.Proofs.YtdeboajjhpecbaaDoor
