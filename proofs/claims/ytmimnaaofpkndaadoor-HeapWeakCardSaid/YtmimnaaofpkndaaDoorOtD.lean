/- What a table has, told by what is there; contracts of the small methods. -/
import Derived.Test.YtmimnaaofpkndaaDoorOtC
set_option linter.unusedVariables false
set_option linter.unusedSimpArgs false
namespace Go.Proofs.YtmimnaaofpkndaaDoor
open Go.RowKit Go.Sort

/-- A table whose slots serve, with room in bounds. -/
structure TabS (w : World) (T : Nat) (lv sv cv : Value) (es : List Ent) (sl : List Nat) (cs : List (Nat × Nat)) (O : Nat → Prop) : Prop where
  tab : TabV w T lv sv cv es sl (cp es).length cs O
  core : Core es sl
  slotN : SlotN sl.length
  load : 2 * es.length ≤ sl.length
  room : es.length ≤ max (8 + (cp es).length) (4 * (cp es).length + 4)
  at_ : ∀ c ∈ cs, c.2 ≤ es.length
  keyS : ∀ e ∈ es, e.key.2.2.size ≤ 4000

/-- A table as its entries in order (A) and its open cursors, each with how many entries it has passed (D). -/
def TabA (w : World) (T : Nat) (A : List Ent) (D : List (Nat × Nat)) (O : Nat → Prop) : Prop :=
  ∃ lv sv cv es sl cs, TabS w T lv sv cv es sl cs O ∧ cp es = A ∧ cs.map (curF es) = D

theorem TabS.upd {w w' : World} {T : Nat} {lv sv cv : Value} {es : List Ent} {sl : List Nat} {cs : List (Nat × Nat)} {O M : Nat → Prop} (h : TabS w T lv sv cv es sl cs O) (u : Upd w w' M) (hM : ∀ k, O k → ¬ M k) : TabS w' T lv sv cv es sl cs O :=
  ⟨h.tab.upd u hM, h.core, h.slotN, h.load, h.room, h.at_, h.keyS⟩
theorem TabA.upd {w w' : World} {T : Nat} {A : List Ent} {D : List (Nat × Nat)} {O M : Nat → Prop} (h : TabA w T A D O) (u : Upd w w' M) (hM : ∀ k, O k → ¬ M k) : TabA w' T A D O := by
  obtain ⟨lv, sv, cv, es, sl, cs, hs, h1, h2⟩ := h
  exact ⟨lv, sv, cv, es, sl, cs, hs.upd u hM, h1, h2⟩
theorem TabA.below {w w' : World} {T : Nat} {A : List Ent} {D : List (Nat × Nat)} {O : Nat → Prop} (h : TabA w T A D O) (b : Below w.heap.size w w') : TabA w' T A D O := by
  obtain ⟨lv, sv, cv, es, sl, cs, hs, h1, h2⟩ := h
  exact ⟨lv, sv, cv, es, sl, cs, ⟨hs.tab.below b, hs.core, hs.slotN, hs.load, hs.room, hs.at_, hs.keyS⟩, h1, h2⟩
theorem TabA.lt {w : World} {T : Nat} {A : List Ent} {D : List (Nat × Nat)} {O : Nat → Prop} (h : TabA w T A D O) : ∀ k, O k → k < w.heap.size := by
  obtain ⟨lv, sv, cv, es, sl, cs, hs, h1, h2⟩ := h
  exact hs.tab.oLt
theorem TabA.widen {w : World} {T : Nat} {A : List Ent} {D : List (Nat × Nat)} {O O' : Nat → Prop} (h : TabA w T A D O) (h1 : ∀ k, O k → O' k) (h2 : ∀ k, O' k → k < w.heap.size) : TabA w T A D O' := by
  obtain ⟨lv, sv, cv, es, sl, cs, hs, g1, g2⟩ := h
  exact ⟨lv, sv, cv, es, sl, cs, ⟨hs.tab.widen h1 h2, hs.core, hs.slotN, hs.load, hs.room, hs.at_, hs.keyS⟩, g1, g2⟩

set_option maxHeartbeats 1000000 in
theorem new_any (w : World) : Calls Tryd.prog 28 #[] w fun e w' => e = .returned (.pointer (some ⟨w.heap.size, 0, none⟩)) ∧ Below w.heap.size w w' ∧ TabA w' w.heap.size [] [] (fun k => k = w.heap.size) := by
  go_enter Tryd.func28, Tryd.ntmps28
  go_wp2
  go_ret
  refine ⟨rfl, (Below.refl _ _).alloc (Nat.le_refl _) _, .slice none 0 0, .slice none 0 0, .slice none 0 0, [], [], [], ⟨?_, by simpa using Core.nil 0, .inl rfl, Nat.le_refl _, Nat.zero_le _, fun c hc => (by cases hc), fun e he => (by cases he)⟩, rfl, rfl⟩
  exact ⟨Blk.new w _ _, World.ownsRow_nil _ _ _ _, World.ownsRow_nil _ _ _ _, World.ownsRow_nil _ _ _ _, fun c hc => (by cases hc), List.nodup_nil, rfl, fun g hg => (by simp [Value.ownBlock] at hg), fun g hg => (by simp [Value.ownBlock] at hg), fun g hg => (by simp [Value.ownBlock] at hg), fun c hc => (by cases hc), fun k hk => (by subst hk; simp)⟩

set_option maxHeartbeats 1000000 in
theorem tlen_any (T : Nat) (A : List Ent) (D : List (Nat × Nat)) (O : Nat → Prop) (w : World) (h : TabA w T A D O) : Calls Tryd.prog 33 #[.pointer (some ⟨T, 0, none⟩)] w fun e w' => e = .returned (.int .i64 (A.length : Int)) ∧ w = w' := by
  obtain ⟨lv, sv, cv, es, sl, cs, hs, rfl, h2⟩ := h
  have x2 : w.cell? ⟨T, 2, none⟩ = some (.int .i64 ((cp es).length : Int)) := by rw [hs.tab.blk.cell]; rfl
  go_enter Tryd.func33, Tryd.ntmps33
  go_wp2
  go_ret
  exact ⟨rfl, rfl⟩

/-- What Storage tells. -/
def StoP (A : List Ent) (D : List (Nat × Nat)) (w : World) (e : Ending) (w' : World) : Prop := ∃ n : Nat, e = .returned (.int .i64 (n : Int)) ∧ n ≤ max (8 + A.length) (4 * A.length + 4) + D.length ∧ ∃ m, w' = w.drewN m
theorem infoPC : (Tryd.prog.info? 46).map (fun i => (i.zero, i.size, i.bytes)) = some (some (.pointer none), 1, 8) := by kernel_rfl

theorem next_news (w : World) (o : Obj) (x : Value) (t : TypeId) : ∀ j u, [x][j]? = some u → ((w.alloc o).alloc (.cells #[x] t)).cell? ((⟨w.heap.size + 1, 0, none⟩ : Addr).add j) = some u := by
  have h : ((w.alloc o).alloc (.cells #[x] t)).heap[w.heap.size + 1]? = some (.cells #[x] t (0, 0)) := by
    have := heap_alloc_new (w.alloc o) (.cells #[x] t)
    rwa [World.size_alloc] at this
  exact World.news_of_block (cs := #[x]) (t := t) (fr := (0, 0)) h

/-- The cursors' row anew. -/
theorem tab_setCv {W : World} {T : Nat} {lv sv cv cv' : Value} {es : List Ent} {sl : List Nat} {live : Nat} {cs' : List (Nat × Nat)} {O' : Nat → Prop} (hb : Blk W T 117 #[lv, sv, .int .i64 (live : Int), cv])
    (he : W.ownsRow 0 121 8 lv es.length (entsC es)) (hs : W.ownsRow 0 3 1 sv sl.length (sl.map natC)) (hc : W.ownsRow 0 46 1 cv' cs'.length (cs'.map curC))
    (hcur : ∀ c ∈ cs', Blk W c.1 151 #[.pointer (some ⟨T, 0, none⟩), .int .i64 (c.2 : Int)]) (hn : (cs'.map Prod.fst).Nodup) (oT : O' T) (oL : ∀ g, lv.ownBlock = some g → O' g) (oS : ∀ g, sv.ownBlock = some g → O' g)
    (oC : ∀ g, cv'.ownBlock = some g → O' g) (oc : ∀ c ∈ cs', O' c.1) (oLt : ∀ k, O' k → k < W.heap.size) : TabV (W.setCell ⟨T, 3, none⟩ cv') T lv sv cv' es sl live cs' O' :=
  ⟨hb.set_ 3 _, own_set he hb (by decide) _ _, own_set hs hb (by decide) _ _, own_set hc hb (by decide) _ _, fun c hc' => (hcur c hc').far ((hcur c hc').ne_ hb (by decide)) _, hn, oT, oL, oS, oC, oc, fun k hk => by have := oLt k hk; simpa using this⟩

/-- What Cursor comes to. -/
def CurP (T : Nat) (A : List Ent) (D : List (Nat × Nat)) (O : Nat → Prop) (w : World) (e : Ending) (w' : World) : Prop :=
  e = .returned (.pointer (some ⟨w.heap.size, 0, none⟩)) ∧ TabA w' T A (D ++ [(w.heap.size, 0)]) (Og O w w') ∧ Upd w w' O ∧ w.heap.size < w'.heap.size

set_option maxHeartbeats 4000000 in
theorem cursor_any (T : Nat) (A : List Ent) (D : List (Nat × Nat)) (O : Nat → Prop) (w : World) (h : TabA w T A D O) (hD : D.length ≤ 100000) : Calls Tryd.prog 78 #[.pointer (some ⟨T, 0, none⟩)] w (CurP T A D O w) := by
  obtain ⟨lv, sv, cv, es, sl, cs, hs, rfl, rfl⟩ := h
  obtain ⟨i0, hi, hz0, hz1, hz2⟩ := info_parts infoPC
  rw [List.length_map] at hD
  have ht := hs.tab
  obtain ⟨AC, capC, rfl, hAC⟩ := own_shape ht.curs
  have hsz : Below w.heap.size w (w.alloc (.cells #[.pointer (some ⟨T, 0, none⟩), .int .i64 0] 151)) := (Below.refl _ _).alloc (Nat.le_refl _) _
  have ht1 := ht.below hsz
  have hb1 := Blk.new w 151 #[.pointer (some ⟨T, 0, none⟩), .int .i64 0]
  have x3 : (w.alloc (.cells #[.pointer (some ⟨T, 0, none⟩), .int .i64 0] 151)).cell? ⟨T, 3, none⟩ = some (.slice AC cs.length capC) := by rw [ht1.blk.cell]; rfl
  go_enter Tryd.func78, Tryd.ntmps78
  go_wp2_with (at_builtin; refine wpList_append_lies _ rfl _ _ 115 rfl 0 46 i0 _ 1 8 Tryd.underlying115 hi hz0 hz1 hz2 rfl (by decide) _ _ _ rfl (ht1.curs.alloc _) ⟨w.heap.size + 1, 0, none⟩ 1 1 [.pointer (some ⟨w.heap.size, 0, none⟩)] rfl rfl (next_news w _ _ _) (by simp [Value.oneCell']) (by decide) (by unfold maxLen; omega) (by omega) (Nat.zero_le _) _ rfl ?_)
  intro g cap w2 hown hgrow hat hlt
  have u : Upd w w2 (fun k => (Value.slice AC cs.length capC).ownBlock = some k) := (((Upd.refl w _).alloc _).alloc _).grown hgrow (fun k hk => hk)
  have hbT := u.blk ht.blk (own_blk_ne ht.curs ht.blk (by decide))
  have hE := u.own ht.ents (fun k hk e => own_own_ne ht.ents ht.curs (by decide) e hk)
  have hS := u.own ht.slots (fun k hk e => own_own_ne ht.slots ht.curs (by decide) e hk)
  have hcc : ∀ c ∈ cs, Blk w2 c.1 151 #[.pointer (some ⟨T, 0, none⟩), .int .i64 (c.2 : Int)] := fun c hc => u.blk (ht.cur c hc) (own_blk_ne ht.curs (ht.cur c hc) (by decide))
  have hnew : Blk w2 w.heap.size 151 #[.pointer (some ⟨T, 0, none⟩), .int .i64 0] := (hb1.alloc _).grown hgrow (fun e => own_blk_ne ht1.curs hb1 (by decide) e.symm)
  have hz2 : w.heap.size + 2 ≤ w2.heap.size := by have := hgrow.size; simpa using this
  have hgl : ∀ k, (Value.slice (some ⟨g, 0, none⟩) (cs.length + 1) cap).ownBlock = some k → Og O w w2 k := by
    intro k hk
    have hk2 := hown.lt k hk
    rcases hat with e | e
    · exact .inl (ht.oC k (by rw [← hk]; exact e))
    · have hgk : g = k := by simpa [Value.ownBlock] using hk
      exact .inr ⟨by omega, hk2.2⟩
  have hlen : (cs ++ [(w.heap.size, 0)]).length = cs.length + 1 := by simp
  have hTab : TabV (w2.setCell ⟨T, 3, none⟩ (.slice (some ⟨g, 0, none⟩) (cs.length + 1) cap)) T lv sv (.slice (some ⟨g, 0, none⟩) (cs.length + 1) cap) es sl (cp es).length (cs ++ [(w.heap.size, 0)]) (Og O w w2) := by
    refine tab_setCv hbT hE hS (by rw [hlen, List.map_append]; exact hown) ?_ ?_ (.inl ht.oT) (fun g hg => .inl (ht.oL g hg)) (fun g hg => .inl (ht.oS g hg)) hgl ?_ ?_
    · intro c hc
      rcases List.mem_append.1 hc with hc | hc
      · exact hcc c hc
      · obtain rfl := List.mem_singleton.1 hc; exact hnew
    · rw [List.map_append, List.nodup_append]
      refine ⟨ht.nodup, by simp, fun a ha b hb e => ?_⟩
      obtain ⟨c, hc, rfl⟩ := List.mem_map.1 ha
      simp at hb
      have := ht.oLt _ (ht.oc c hc)
      omega
    · intro c hc
      rcases List.mem_append.1 hc with hc | hc
      · exact .inl (ht.oc c hc)
      · obtain rfl := List.mem_singleton.1 hc; exact .inr ⟨Nat.le_refl _, by show w.heap.size < _; omega⟩
    · intro k hk
      rcases hk with hk | ⟨_, hk⟩
      · exact Nat.lt_of_lt_of_le (ht.oLt k hk) (by omega)
      · exact hk
  have hres : CurP T (cp es) (cs.map (curF es)) O w (.returned (.pointer (some ⟨w.heap.size, 0, none⟩))) (w2.setCell ⟨T, 3, none⟩ (.slice (some ⟨g, 0, none⟩) (cs.length + 1) cap)) := by
    refine ⟨rfl, ⟨lv, sv, _, es, sl, _, ⟨hTab.widen (fun k hk => ?_) (fun k hk => ?_), hs.core, hs.slotN, hs.load, hs.room, fun c hc => ?_, hs.keyS⟩, rfl, by rw [List.map_append]; rfl⟩, (u.mono (fun k _ hk => ht.oC k hk)).set T 3 _ ht.oT, by simp; omega⟩
    · rcases hk with hk | ⟨h1, h2⟩
      · exact .inl hk
      · exact .inr ⟨h1, by simpa using h2⟩
    · rcases hk with hk | ⟨h1, h2⟩
      · have := ht.oLt k hk; simp; omega
      · exact h2
    · rcases List.mem_append.1 hc with hc | hc
      · exact hs.at_ c hc
      · obtain rfl := List.mem_singleton.1 hc; exact Nat.zero_le _
  have HR := Lib.hid hres
  have y3 : w2.cell? ⟨T, 3, none⟩ = some (.slice AC cs.length capC) := by rw [hbT.cell]; rfl
  have z3 := hbT.frozen 3
  clear hres hTab hgl hcc hE hS u ht ht1 hown hgrow hat hs x3
  go_wp2
  go_ret
  exact HR.out
end Go.Proofs.YtmimnaaofpkndaaDoor
