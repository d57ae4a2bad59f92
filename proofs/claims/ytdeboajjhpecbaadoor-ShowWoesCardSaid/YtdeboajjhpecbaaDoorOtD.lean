/- What a table has, told by what is there; contracts of the small methods. -/
import Derived.Test.YtdeboajjhpecbaaDoorOtC
set_option linter.unusedVariables false
set_option linter.unusedSimpArgs false
namespace Go.Proofs.YtdeboajjhpecbaaDoor
open Go.RowKit Go.Sort

/-- A table whose slots serve, with room in bounds. -/
structure TabS (w : World) (T : Nat) (lv sv cv : Value) (es : List Ent) (sl : List Nat) (cs : List (Nat × Nat)) (O : Nat → Prop) : Prop where
  tab : TabV w T lv sv cv es sl (cp es).length cs O
  core : Core es sl
  slotN : SlotN sl.length
  load : 2 * es.length ≤ sl.length
  room : es.length ≤ max (8 + (cp es).length) (4 * (cp es).length + 4)
  at_ : ∀ c ∈ cs, c.2 ≤ es.length
  keyS : ∀ e ∈ es, e.key.2.2.size ≤ 4000

/-- A table as its entries in order (A) and its open cursors, each with how many entries it has passed (D). -/
def TabA (w : World) (T : Nat) (A : List Ent) (D : List (Nat × Nat)) (O : Nat → Prop) : Prop :=
  ∃ lv sv cv es sl cs, TabS w T lv sv cv es sl cs O ∧ cp es = A ∧ cs.map (curF es) = D

theorem TabS.upd {w w' : World} {T : Nat} {lv sv cv : Value} {es : List Ent} {sl : List Nat} {cs : List (Nat × Nat)} {O M : Nat → Prop} (h : TabS w T lv sv cv es sl cs O) (u : Upd w w' M) (hM : ∀ k, O k → ¬ M k) : TabS w' T lv sv cv es sl cs O :=
  ⟨h.tab.upd u hM, h.core, h.slotN, h.load, h.room, h.at_, h.keyS⟩
theorem TabA.upd {w w' : World} {T : Nat} {A : List Ent} {D : List (Nat × Nat)} {O M : Nat → Prop} (h : TabA w T A D O) (u : Upd w w' M) (hM : ∀ k, O k → ¬ M k) : TabA w' T A D O := by
  obtain ⟨lv, sv, cv, es, sl, cs, hs, h1, h2⟩ := h
  exact ⟨lv, sv, cv, es, sl, cs, hs.upd u hM, h1, h2⟩
theorem TabA.below {w w' : World} {T : Nat} {A : List Ent} {D : List (Nat × Nat)} {O : Nat → Prop} (h : TabA w T A D O) (b : Below w.heap.size w w') : TabA w' T A D O := by
  obtain ⟨lv, sv, cv, es, sl, cs, hs, h1, h2⟩ := h
  exact ⟨lv, sv, cv, es, sl, cs, ⟨hs.tab.below b, hs.core, hs.slotN, hs.load, hs.room, hs.at_, hs.keyS⟩, h1, h2⟩
theorem TabA.lt {w : World} {T : Nat} {A : List Ent} {D : List (Nat × Nat)} {O : Nat → Prop} (h : TabA w T A D O) : ∀ k, O k → k < w.heap.size := by
  obtain ⟨lv, sv, cv, es, sl, cs, hs, h1, h2⟩ := h
  exact hs.tab.oLt
theorem TabA.widen {w : World} {T : Nat} {A : List Ent} {D : List (Nat × Nat)} {O O' : Nat → Prop} (h : TabA w T A D O) (h1 : ∀ k, O k → O' k) (h2 : ∀ k, O' k → k < w.heap.size) : TabA w T A D O' := by
  obtain ⟨lv, sv, cv, es, sl, cs, hs, g1, g2⟩ := h
  exact ⟨lv, sv, cv, es, sl, cs, ⟨hs.tab.widen h1 h2, hs.core, hs.slotN, hs.load, hs.room, hs.at_, hs.keyS⟩, g1, g2⟩

set_option maxHeartbeats 1000000 in
theorem new_any (w : World) : Calls Tryd.prog 25 #[] w fun e w' => e = .returned (.pointer (some ⟨w.heap.size, 0, none⟩)) ∧ Below w.heap.size w w' ∧ TabA w' w.heap.size [] [] (fun k => k = w.heap.size) := by
  go_enter Tryd.func25, Tryd.ntmps25
  go_wp2
  go_ret
  refine ⟨rfl, (Below.refl _ _).alloc (Nat.le_refl _) _, .slice none 0 0, .slice none 0 0, .slice none 0 0, [], [], [], ⟨?_, by simpa using Core.nil 0, .inl rfl, Nat.le_refl _, Nat.zero_le _, fun c hc => (by cases hc), fun e he => (by cases he)⟩, rfl, rfl⟩
  exact ⟨Blk.new w _ _, World.ownsRow_nil _ _ _ _, World.ownsRow_nil _ _ _ _, World.ownsRow_nil _ _ _ _, fun c hc => (by cases hc), List.nodup_nil, rfl, fun g hg => (by simp [Value.ownBlock] at hg), fun g hg => (by simp [Value.ownBlock] at hg), fun g hg => (by simp [Value.ownBlock] at hg), fun c hc => (by cases hc), fun k hk => (by subst hk; simp)⟩

/-- What Storage tells. -/
def StoP (A : List Ent) (D : List (Nat × Nat)) (w : World) (e : Ending) (w' : World) : Prop := ∃ n : Nat, e = .returned (.int .i64 (n : Int)) ∧ n ≤ max (8 + A.length) (4 * A.length + 4) + D.length ∧ ∃ m, w' = w.drewN m
theorem infoPC : (Tryd.prog.info? 30).map (fun i => (i.zero, i.size, i.bytes)) = some (some (.pointer none), 1, 8) := by kernel_rfl

theorem next_news (w : World) (o : Obj) (x : Value) (t : TypeId) : ∀ j u, [x][j]? = some u → ((w.alloc o).alloc (.cells #[x] t)).cell? ((⟨w.heap.size + 1, 0, none⟩ : Addr).add j) = some u := by
  have h : ((w.alloc o).alloc (.cells #[x] t)).heap[w.heap.size + 1]? = some (.cells #[x] t (0, 0)) := by
    have := heap_alloc_new (w.alloc o) (.cells #[x] t)
    rwa [World.size_alloc] at this
  exact World.news_of_block (cs := #[x]) (t := t) (fr := (0, 0)) h

/-- The cursors' row anew. -/
theorem tab_setCv {W : World} {T : Nat} {lv sv cv cv' : Value} {es : List Ent} {sl : List Nat} {live : Nat} {cs' : List (Nat × Nat)} {O' : Nat → Prop} (hb : Blk W T 117 #[lv, sv, .int .i64 (live : Int), cv])
    (he : W.ownsRow 0 126 8 lv es.length (entsC es)) (hs : W.ownsRow 0 3 1 sv sl.length (sl.map natC)) (hc : W.ownsRow 0 30 1 cv' cs'.length (cs'.map curC))
    (hcur : ∀ c ∈ cs', Blk W c.1 143 #[.pointer (some ⟨T, 0, none⟩), .int .i64 (c.2 : Int)]) (hn : (cs'.map Prod.fst).Nodup) (oT : O' T) (oL : ∀ g, lv.ownBlock = some g → O' g) (oS : ∀ g, sv.ownBlock = some g → O' g)
    (oC : ∀ g, cv'.ownBlock = some g → O' g) (oc : ∀ c ∈ cs', O' c.1) (oLt : ∀ k, O' k → k < W.heap.size) : TabV (W.setCell ⟨T, 3, none⟩ cv') T lv sv cv' es sl live cs' O' :=
  ⟨hb.set_ 3 _, own_set he hb (by decide) _ _, own_set hs hb (by decide) _ _, own_set hc hb (by decide) _ _, fun c hc' => (hcur c hc').far ((hcur c hc').ne_ hb (by decide)) _, hn, oT, oL, oS, oC, oc, fun k hk => by have := oLt k hk; simpa using this⟩

/-- What Cursor comes to. -/
def CurP (T : Nat) (A : List Ent) (D : List (Nat × Nat)) (O : Nat → Prop) (w : World) (e : Ending) (w' : World) : Prop :=
  e = .returned (.pointer (some ⟨w.heap.size, 0, none⟩)) ∧ TabA w' T A (D ++ [(w.heap.size, 0)]) (Og O w w') ∧ Upd w w' O ∧ w.heap.size < w'.heap.size

end Go.Proofs.YtdeboajjhpecbaaDoor
