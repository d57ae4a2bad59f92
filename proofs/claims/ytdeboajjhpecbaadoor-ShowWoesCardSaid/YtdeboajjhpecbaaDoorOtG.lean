/- Contract of Put. -/
import Derived.Test.YtdeboajjhpecbaaDoorOtF
import Derived.Deep.RegionLaw
set_option linter.unusedVariables false
set_option linter.unusedSimpArgs false
namespace Go.Proofs.YtdeboajjhpecbaaDoor
open Go.RowKit Go.Sort

def putA (k v : K3) (f : Int) (A : List Ent) : List Ent := if A.any (isKey k) then A.map (updE k v f) else A ++ [⟨norm k, v, f, false⟩]
def PutP (T : Nat) (k v : K3) (f : Int) (A : List Ent) (D : List (Nat × Nat)) (O : Nat → Prop) (w : World) (e : Ending) (w' : World) : Prop :=
  e = .returned (.tuple #[]) ∧ TabA w' T (putA k v f A) D (Og O w w') ∧ Upd w w' O

theorem put_old {w : World} {T : Nat} {lv sv cv : Value} {es : List Ent} {sl : List Nat} {cs : List (Nat × Nat)} {O : Nat → Prop} {k v : K3} {f : Int} {j : Nat} {x : Ent} (hx : es[j]? = some x) (hk : isKey k x = true) (hs : TabS w T lv sv cv es sl cs O)
    {w' : World} {O' : Nat → Prop} (ht : TabV w' T lv sv cv (es.set j { x with val := v, flags := f }) sl (cp es).length cs O') : TabA w' T (putA k v f (cp es)) (cs.map (curF es)) O' := by
  have hset := set_upd hs.core.dst k v f j x hx hk
  have hlen : (cp (es.map (updE k v f))).length = (cp es).length := by rw [cp_upd, List.length_map]
  rw [hset] at ht
  have hmem : x ∈ cp es := List.mem_filter.2 ⟨List.mem_of_getElem? hx, by simp [(isKey_true.1 hk).1]⟩
  refine ⟨lv, sv, cv, es.map (updE k v f), sl, cs, ⟨by rw [hlen]; exact ht, ?_, hs.slotN, by rw [List.length_map]; exact hs.load, by rw [List.length_map, hlen]; exact hs.room, fun c hc => by rw [List.length_map]; exact hs.at_ c hc, fun e he => ?_⟩, ?_, ?_⟩
  · rw [← hset]; exact hs.core.put j x _ hx rfl (fun h => h)
  · obtain ⟨y, hy, rfl⟩ := List.mem_map.1 he
    have := hs.keyS y hy
    unfold updE; split <;> exact this
  · rw [cp_upd, putA, if_pos (List.any_eq_true.2 ⟨x, hmem, hk⟩)]
  · apply List.map_congr_left
    intro c _
    unfold curF cnt
    rw [← List.map_take, cp_upd, List.length_map]

theorem PutP.drew {T : Nat} {k v : K3} {f : Int} {A : List Ent} {D : List (Nat × Nat)} {O : Nat → Prop} {w : World} {e : Ending} {w' : World} (h : PutP T k v f A D O w e w') : PutP T k v f A D O w e w'.drew :=
  ⟨h.1, h.2.1.upd (Upd.drew (Upd.refl w' (fun _ => False))) (fun _ _ h => h), h.2.2.drew⟩

theorem findR_free {es : List Ent} {sl : List Nat} {k : K3} {i : Int} {s : Nat} (h : FindR es sl k i s) (hl : 2 * (es.length + 1) ≤ sl.length) (hno : ∀ x ∈ es, isKey k x = false) :
    ∃ d, d < sl.length ∧ s = pr sl.length (hs (norm k)) d ∧ sl.getD s 0 = 0 ∧ ∀ d', d' < d → sl.getD (pr sl.length (hs (norm k)) d') 0 ≠ 0 := by
  cases h with
  | none0 h0 => omega
  | none d h1 h2 h3 h4 => exact ⟨d, h1, rfl, h2, h3⟩
  | some s j e h1 h2 => rw [hno e (List.mem_of_getElem? h1)] at h2; cases h2

theorem put_mid {w6 w7 : World} {T n : Nat} {lv sv lc cv : Value} {xs : List Value} {o : Obj} (hb : Blk w6 T 117 #[lv, sv, lc, cv]) (ho : w6.ownsRow 0 126 8 lv n xs) (hg : (w6.alloc o).grownBy w7 lv.ownBlock) :
    w7.cell? ⟨T, 0, none⟩ = some lv ∧ w7.frozen? ⟨T, 0, none⟩ = false := by
  have kb : Blk w7 T 117 #[lv, sv, lc, cv] := Blk.grown (hb.alloc o) hg (fun e => own_blk_ne ho hb (by decide) e.symm)
  exact ⟨by rw [kb.cell]; rfl, kb.frozen 0⟩

/-- The entries' row anew, with one more. -/
theorem put_row {w6 w7 : World} {T gq capq : Nat} {lv sv cv : Value} {es : List Ent} {sl : List Nat} {live : Nat} {cs : List (Nat × Nat)} {O : Nat → Prop} {E : Ent} {o : Obj} (ht : TabV w6 T lv sv cv es sl live cs O) (hg : (w6.alloc o).grownBy w7 lv.ownBlock)
    (hown : w7.ownsRow 0 126 8 (.slice (some ⟨gq, 0, none⟩) (es.length + 1) capq) (es.length + 1) (entsC es ++ entC E)) (hat : lv.ownBlock = some gq ∨ gq = w6.heap.size + 1) :
    TabV (w7.setCell ⟨T, 0, none⟩ (.slice (some ⟨gq, 0, none⟩) (es.length + 1) capq)) T (.slice (some ⟨gq, 0, none⟩) (es.length + 1) capq) sv cv (es ++ [E]) sl live cs (Og O w6 w7) ∧ Upd w6 (w7.setCell ⟨T, 0, none⟩ (.slice (some ⟨gq, 0, none⟩) (es.length + 1) capq)) O := by
  have u : Upd w6 w7 (fun k => lv.ownBlock = some k) := ((Upd.refl w6 _).alloc o).grown hg (fun k hk => hk)
  have hbT := u.blk ht.blk (own_blk_ne ht.ents ht.blk (by decide))
  have hS := u.own ht.slots (fun k hk e => own_own_ne ht.ents ht.slots (by decide) hk e)
  have hC := u.own ht.curs (fun k hk e => own_own_ne ht.ents ht.curs (by decide) hk e)
  have hcc : ∀ c ∈ cs, Blk w7 c.1 143 #[.pointer (some ⟨T, 0, none⟩), .int .i64 (c.2 : Int)] := fun c hc => u.blk (ht.cur c hc) (own_blk_ne ht.ents (ht.cur c hc) (by decide))
  have hlen : (es ++ [E]).length = es.length + 1 := by simp
  have hrow : w7.ownsRow 0 126 8 (.slice (some ⟨gq, 0, none⟩) (es.length + 1) capq) (es ++ [E]).length (entsC (es ++ [E])) := by
    rw [hlen, entsC_append]
    simpa [entsC] using hown
  have hz : w6.heap.size + 1 ≤ w7.heap.size := by have := hg.size; simpa using this
  refine ⟨⟨hbT.set_ 0 _, own_set hrow hbT (by decide) _ _, own_set hS hbT (by decide) _ _, own_set hC hbT (by decide) _ _, fun c hc => (hcc c hc).far ((hcc c hc).ne_ hbT (by decide)) _, ht.nodup, .inl ht.oT, fun k hk => ?_, fun g hg => .inl (ht.oS g hg), fun g hg => .inl (ht.oC g hg), fun c hc => .inl (ht.oc c hc), fun k hk => ?_⟩, (u.mono (fun k _ hk => ht.oL k hk)).set T 0 _ ht.oT⟩
  · have hk2 := hown.lt k hk
    rcases hat with e | e
    · exact .inl (ht.oL k (by rw [← hk]; exact e))
    · have hgk : gq = k := by simpa [Value.ownBlock] using hk
      exact .inr ⟨by omega, hk2.2⟩
  · rcases hk with hk | ⟨_, hk⟩
    · have := ht.oLt k hk; simp; omega
    · simpa using hk

theorem kS_size (k : Int) (s : ByteArray) : (kS k s).size ≤ s.size := by
  unfold kS; split
  · exact Nat.zero_le _
  · exact Nat.le_refl _

/-- What the table is behind Put, where the key was not there. -/
theorem put_new {W : World} {T s : Nat} {lv sv cv : Value} {es A : List Ent} {sl : List Nat} {cs D : List (Nat × Nat)} {O : Nat → Prop} {k v : K3} {f : Int} {d : Nat} (hc : Core es sl) (hn : SlotN sl.length) (hA : cp es = A) (hD : cs.map (curF es) = D) (hl : 2 * (es.length + 1) ≤ sl.length) (hroom : es.length ≤ max (8 + (cp es).length) (4 * (cp es).length + 4)) (hat : ∀ c ∈ cs, c.2 ≤ es.length) (hks : ∀ e ∈ es, e.key.2.2.size ≤ 4000)
    (hk : k.2.2.size ≤ 4000) (hno : ∀ x ∈ es, isKey k x = false) (hd : d < sl.length) (hs_ : s = pr sl.length (hs (norm k)) d) (h0 : sl.getD s 0 = 0) (hb : ∀ d', d' < d → sl.getD (pr sl.length (hs (norm k)) d') 0 ≠ 0)
    (ht : TabV W T lv sv cv (es ++ [⟨norm k, v, f, false⟩]) (sl.set s (es.length + 1)) ((cp es).length + 1) cs O) : TabA W T (putA k v f A) D O := by
  subst hs_
  have hcp : cp (es ++ [⟨norm k, v, f, false⟩]) = cp es ++ [⟨norm k, v, f, false⟩] := by rw [cp_append]; rfl
  have hlen : (es ++ [(⟨norm k, v, f, false⟩ : Ent)]).length = es.length + 1 := by simp
  have hlc : (cp (es ++ [(⟨norm k, v, f, false⟩ : Ent)])).length = (cp es).length + 1 := by rw [hcp]; simp
  refine ⟨lv, sv, cv, _, _, cs, ⟨by rw [hlc]; exact ht, hc.add ⟨norm k, v, f, false⟩ rfl (norm_norm k) (fun i g hg hgg e => ?_) hd h0 hb, by rw [List.length_set]; exact hn, by rw [List.length_set, hlen]; exact hl, by rw [hlen, hlc]; omega, fun c hc => by have := hat c hc; rw [hlen]; omega, fun e he => ?_⟩, ?_, ?_⟩
  · have h1 := hno g (List.mem_of_getElem? hg)
    have h2 : isKey k g = true := isKey_true.2 ⟨hgg, by rw [hc.keys i g hg hgg]; exact e⟩
    rw [h1] at h2; cases h2
  · rcases List.mem_append.1 he with he | he
    · exact hks e he
    · obtain rfl := List.mem_singleton.1 he
      exact Nat.le_trans (kS_size _ _) hk
  · rw [hcp, hA, putA, if_neg]
    intro h
    obtain ⟨x, hx, hxk⟩ := List.any_eq_true.1 h
    rw [← hA] at hx
    rw [hno x (mem_cp hx).1] at hxk; cases hxk
  · rw [← hD]
    apply List.map_congr_left
    intro c hc
    unfold curF cnt
    rw [List.take_append_of_le_length (hat c hc)]

/-- Where Put stands when there is room for an entry more. -/
structure PutM (T : Nat) (k v : K3) (A : List Ent) (D : List (Nat × Nat)) (O : Nat → Prop) (w : World) (wx : World) : Prop where
  tab : ∃ lv sv cv es sl cs, TabS wx T lv sv cv es sl cs (Og O w wx) ∧ cp es = A ∧ cs.map (curF es) = D ∧ 2 * (es.length + 1) ≤ sl.length ∧ (∀ x ∈ es, isKey k x = false)
  upd : Upd w wx O
  kb : Blk wx w.heap.size 26 #[.int .i64 k.1, .int .i64 k.2.1, .string k.2.2]
  vb : Blk wx (w.heap.size + 1) 26 #[.int .i64 v.1, .int .i64 v.2.1, .string v.2.2]
  ltT : T < w.heap.size

/-- A call whose value is known, as one step of a region that draws. -/
theorem step_call_below {P : Program} {w : World} {ops : Array Oper} {o : Oper} {a : Act} {K : Act → World → Prop} {Q : Exit → Act → World → Prop} {E : Prop} (hgd : o.guard = none) (f : Nat) (x : Operand) (t : TypeId)
    (hop : o.op = Op.call { callee := Callee.value (Operand.func f), args := #[x], argTypes := #[t] }) (av v : Value) (hx : a.eval x = av) (hrun : (callFunc f #[av]).run P w = .ok (.enter f #[av]) w) (hC : Calls P f #[av] w (Ret v w)) (hK : ∀ w', Below w.heap.size w w' → K (a.put o.dst v) w') :
    if Region.wanted o (yielded ops a.tmps) = true then Oper.wp P o a w K Q else E := by
  have hw : Region.wanted o (yielded ops a.tmps) = true := by simp [Region.wanted, hgd]
  rw [if_pos hw]
  unfold Oper.wp
  simp [execOp, hop, resolve, invoke, hx, Result.andThen]
  rw [show a.eval (Operand.func f) = .func (.func f) #[] #[] from rfl]
  go_simp
  refine hC.mono ?_
  rintro e w' ⟨rfl, b⟩
  exact hK w' b

theorem put_key {w6 w8 : World} {T V : Nat} {v : K3} {n : Nat} {lv sv lc cv : Value} {xs : List Value} (hb : Blk w6 T 117 #[lv, sv, lc, cv]) (ho : w6.ownsRow 0 126 8 lv n xs) (hv : Blk w6 V 26 #[.int .i64 v.1, .int .i64 v.2.1, .string v.2.2]) (b : Below w6.heap.size w6 w8) :
    w8.cell? ⟨T, 0, none⟩ = some lv ∧ w8.cell? ⟨V, 0, none⟩ = some (.int .i64 v.1) ∧ w8.cell? ⟨V, 1, none⟩ = some (.int .i64 v.2.1) ∧ w8.cell? ⟨V, 2, none⟩ = some (.string v.2.2) ∧ w8.ownsRow 0 126 8 lv n xs ∧ Hid (Blk w8 T 117 #[lv, sv, lc, cv]) ∧ T < w8.heap.size := by
  have hv8 := hv.below b hv.lt
  have hb8 := hb.below b hb.lt
  exact ⟨by rw [hb8.cell]; rfl, by rw [hv8.cell]; rfl, by rw [hv8.cell]; rfl, by rw [hv8.cell]; rfl, (Upd.of_below_all (M := fun _ => False) b).own ho (fun _ _ h => h), Lib.hid hb8, hb8.lt⟩

theorem run_key (av : Value) (w : World) : (callFunc 48 #[av]).run Tryd.prog w = .ok (.enter 48 #[av]) w := by go_simp

theorem TabS.widen {w : World} {T : Nat} {lv sv cv : Value} {es : List Ent} {sl : List Nat} {cs : List (Nat × Nat)} {O O' : Nat → Prop} (h : TabS w T lv sv cv es sl cs O) (h1 : ∀ k, O k → O' k) (h2 : ∀ k, O' k → k < w.heap.size) : TabS w T lv sv cv es sl cs O' :=
  ⟨h.tab.widen h1 h2, h.core, h.slotN, h.load, h.room, h.at_, h.keyS⟩

theorem put_stay {w w2 : World} {T : Nat} {lv sv cv : Value} {es : List Ent} {sl : List Nat} {cs : List (Nat × Nat)} {O : Nat → Prop} {k v : K3} (h : TabS w T lv sv cv es sl cs O) (ht : TabV w2 T lv sv cv es sl (cp es).length cs O) (hu : Upd w w2 O) (hT : T < w.heap.size)
    (hl : 2 * (es.length + 1) ≤ sl.length) (hno : ∀ (j : Nat) (e : Ent), es[j]? = some e → isKey k e = false) (kb : Blk w2 w.heap.size 26 #[.int .i64 k.1, .int .i64 k.2.1, .string k.2.2]) (vb : Blk w2 (w.heap.size + 1) 26 #[.int .i64 v.1, .int .i64 v.2.1, .string v.2.2]) :
    PutM T k v (cp es) (cs.map (curF es)) O w w2 := by
  have hS : TabS w2 T lv sv cv es sl cs O := ⟨ht, h.core, h.slotN, h.load, h.room, h.at_, h.keyS⟩
  refine ⟨⟨lv, sv, cv, es, sl, cs, hS.widen (fun k hk => .inl hk) (fun k hk => ?_), rfl, rfl, hl, fun x hx => ?_⟩, hu, kb, vb, hT⟩
  · rcases hk with hk | ⟨_, hk⟩
    · exact ht.oLt k hk
    · exact hk
  · obtain ⟨i, hi⟩ := List.getElem?_of_mem hx
    exact hno i x hi

theorem put_reh {w w2 w5 : World} {T : Nat} {lv sv cv : Value} {es : List Ent} {sl : List Nat} {cs D : List (Nat × Nat)} {O : Nat → Prop} {k v : K3} (h : TabS w5 T lv sv cv (cp es) sl cs (Og O w2 w5)) (hl : 4 * ((cp es).length + 1) ≤ sl.length) (hD : cs.map (curF (cp es)) = D) (hu5 : Upd w2 w5 O) (hu : Upd w w2 O) (hT : T < w.heap.size)
    (hO : ∀ k, O k → k < w.heap.size) (hno : ∀ (j : Nat) (e : Ent), es[j]? = some e → isKey k e = false) (kb : Blk w2 w.heap.size 26 #[.int .i64 k.1, .int .i64 k.2.1, .string k.2.2]) (vb : Blk w2 (w.heap.size + 1) 26 #[.int .i64 v.1, .int .i64 v.2.1, .string v.2.2]) :
    PutM T k v (cp es) D O w w5 := by
  refine ⟨⟨lv, sv, cv, cp es, sl, cs, h.widen (fun k hk => ?_) (fun k hk => ?_), cp_cp es, hD, by omega, fun x hx => ?_⟩, hu.trans hu5, hu5.blk kb (fun h => by have := hO _ h; omega), hu5.blk vb (fun h => by have := hO _ h; omega), hT⟩
  · rcases hk with hk | ⟨h1, h2⟩
    · exact .inl hk
    · exact .inr ⟨Nat.le_trans hu.size h1, h2⟩
  · rcases hk with hk | ⟨_, hk⟩
    · exact h.tab.oLt k (.inl hk)
    · exact hk
  · obtain ⟨i, hi⟩ := List.getElem?_of_mem (mem_cp hx).1
    exact hno i x hi

theorem put_set {w wc w8 w7 W : World} {O : Nat → Prop} {g i : Nat} {u : Value} (h : Upd w W O) (hg : Og (Og O w wc) w8 w7 g) (h2 : w.heap.size ≤ w8.heap.size) : Upd w (W.setCell ⟨g, i, none⟩ u) O :=
  ((h.mono (fun k _ h => Or.inl (Or.inl h)) : Upd w W (Og (Og O w wc) w8 w7)).set g i u hg).mono (fun k hk hk2 => by
    rcases hk2 with (hk2 | ⟨h3, _⟩) | ⟨h3, _⟩
    · exact hk2
    · exact absurd hk (by omega)
    · exact absurd hk (by omega))

/-- Put's end, where the key was not there. -/
theorem put_end {w wc w8 w7 wx : World} {T : Nat} {A : List Ent} {D : List (Nat × Nat)} {O : Nat → Prop} {k v : K3} {f : Int} (h1 : w.heap.size ≤ wc.heap.size) (h2 : wc.heap.size ≤ w8.heap.size)
    (h : TabA wx T (putA k v f A) D (Og (Og O w wc) w8 w7)) (hu : Upd w wx O) (hO : ∀ k, O k → k < w.heap.size) : PutP T k v f A D O w (.returned (.tuple #[])) wx := by
  refine ⟨rfl, h.widen (fun k hk => ?_) (fun k hk => ?_), hu⟩
  · have := h.lt k hk
    rcases hk with (hk | ⟨h3, _⟩) | ⟨h3, _⟩
    · exact .inl hk
    · exact .inr ⟨h3, this⟩
    · exact .inr ⟨Nat.le_trans (Nat.le_trans h1 h2) h3, this⟩
  · rcases hk with hk | ⟨_, hk⟩
    · exact Nat.lt_of_lt_of_le (hO k hk) hu.size
    · exact hk

set_option maxHeartbeats 4000000 in
set_option maxRecDepth 100000 in
theorem put_any (T : Nat) (A : List Ent) (D : List (Nat × Nat)) (O : Nat → Prop) (k v : K3) (f : Int) (w : World) (h : TabA w T A D O) (hk : k.2.2.size ≤ 4000) (hA : A.length ≤ 4000) (hD : D.length ≤ 100000) :
    Calls Tryd.prog 27 #[.pointer (some ⟨T, 0, none⟩), VK k, VK v, .int .i64 f] w (PutP T k v f A D O w) := by
  obtain ⟨lv, sv, cv, es, sl, cs, hs, rfl, rfl⟩ := h
  have ht := hs.tab
  have hb1 : Below w.heap.size w ((w.alloc (SC k.1 k.2.1 k.2.2)).alloc (SC v.1 v.2.1 v.2.2)) := ((Below.refl _ _).alloc (Nat.le_refl _) _).alloc (by simp) _
  have ht1 := ht.below hb1
  have kb := (Blk.new w 26 #[.int .i64 k.1, .int .i64 k.2.1, .string k.2.2]).alloc (SC v.1 v.2.1 v.2.2)
  have vb := Blk.new (w.alloc (SC k.1 k.2.1 k.2.2)) 26 #[.int .i64 v.1, .int .i64 v.2.1, .string v.2.2]
  rw [World.size_alloc] at vb
  go_enter Tryd.func27, Tryd.ntmps27
  go_wp2_with fail
  generalize ((w.alloc (SC k.1 k.2.1 k.2.2)).alloc (SC v.1 v.2.1 v.2.2)) = w1 at *
  refine (find_any T lv sv cv es sl _ cs O k w1 ht1 hs.core hs.slotN (load_find hs.load) hk).mono ?_
  rintro e w2 ⟨i, s, rfl, hf, b2⟩
  have ht2 := ht1.below b2
  have hb2 := hb1.trans (b2.mono hb1.size)
  have kb2 := kb.below b2 kb.lt
  have vb2 := vb.below b2 vb.lt
  have v0 : w2.cell? ⟨w.heap.size + 1, 0, none⟩ = some (.int .i64 v.1) := by rw [vb2.cell]; rfl
  have v1 : w2.cell? ⟨w.heap.size + 1, 1, none⟩ = some (.int .i64 v.2.1) := by rw [vb2.cell]; rfl
  have v2 : w2.cell? ⟨w.heap.size + 1, 2, none⟩ = some (.string v.2.2) := by rw [vb2.cell]; rfl
  have hTl := ht.oLt T ht.oT
  obtain ⟨A0, c0, rfl, hA0⟩ := own_shape ht.ents
  obtain ⟨AS, cS, rfl, hAS⟩ := own_shape ht.slots
  rcases findR_cases hf hs.load with ⟨rfl, hno⟩ | ⟨j, x, rfl, hx, hkx⟩
  · obtain ⟨n, hn⟩ : ∃ n, es.length = n := ⟨_, rfl⟩
    obtain ⟨L, hL⟩ : ∃ L, sl.length = L := ⟨_, rfl⟩
    have x0 : w2.cell? ⟨T, 0, none⟩ = some (.slice A0 n c0) := by rw [ht2.blk.cell, ← hn]; rfl
    have x1 : w2.cell? ⟨T, 1, none⟩ = some (.slice AS L cS) := by rw [ht2.blk.cell, ← hL]; rfl
    have hroom := hs.room
    have hLN := slotN_le hs.slotN
    rw [hn] at hroom
    rw [hL] at hLN
    have a1 : IntKind.i64.wrap ((n : Int) + 1) = (n : Int) + 1 := IntWalk.i64_in _ (by omega)
    have a2 : IntKind.i64.wrap (2 * ((n : Int) + 1)) = 2 * ((n : Int) + 1) := IntWalk.i64_in _ (by omega)
    obtain ⟨b5, t50⟩ : ∃ b, decide ((L : Int) < 2 * ((n : Int) + 1)) = b := ⟨_, rfl⟩
    have hu2 : Upd w w2 O := Upd.of_below_all hb2
    have Hno := Lib.hid hno
    have Hf := Lib.hid hf
    have HA0 := Lib.hid hA0
    have HAS := Lib.hid hAS
    clear hf hno hA0 hAS v0 v1 v2 hb1 ht1 kb vb
    have hreh := fun q => rehash_any T _ _ cv es sl (cp es).length cs O (w2.drewN q) (ht2.upd (M := fun _ => False) (Upd.of_below_all (below_drewN (Below.refl w2.heap.size w2) q)) (fun _ _ h => h)) hs.core (by omega) (by omega) hs.at_ (by rw [List.length_map] at hD; exact hD) hs.keyS
    have HRE := Lib.hid hreh
    have hu2q : ∀ q, Upd w (w2.drewN q) O := fun q => hu2.drewN q
    have hk2q : ∀ q, Blk (w2.drewN q) w.heap.size 26 #[.int .i64 k.1, .int .i64 k.2.1, .string k.2.2] := fun q => kb2.drewN q
    have hv2q : ∀ q, Blk (w2.drewN q) (w.heap.size + 1) 26 #[.int .i64 v.1, .int .i64 v.2.1, .string v.2.2] := fun q => vb2.drewN q
    have HU := Lib.hid hu2q
    have HK := Lib.hid hk2q
    have HV := Lib.hid hv2q
    have HT := Lib.hid ht2
    have HH := Lib.hid hs
    have HD := Lib.hid hD
    have HTL := Lib.hid hTl
    clear hreh hu2q hk2q hv2q kb2 vb2 ht2 ht hs hu2 hb2 b2 hD
    go_upto_region 5 with fail
    go_quiet (fail)
    clear a1 a2
    go_upto_if 50 with fail
    go_cut [] (fun wx => PutM T k v (cp es) (cs.map (curF es)) O w wx)
    case first =>
      cases b5
      · have hle : 2 * (n + 1) ≤ L := by have := of_decide_eq_false t50; omega
        clear t50
        have hst : ∀ q, PutM T k v (cp es) (cs.map (curF es)) O w (w2.drewN q) := fun q => put_stay HH.out (HT.out.upd (M := fun _ => False) (Upd.of_below_all (below_drewN (Below.refl w2.heap.size w2) q)) (fun _ _ h => h)) (HU.out q) HTL.out (by rw [hn, hL]; exact hle) Hno.out (HK.out q) (HV.out q)
        have HST := Lib.hid hst
        clear hst
        go_wp2_with fail
        go_meet
        exact HST.out _
      · clear t50
        go_wp2_with fail
        refine (HRE.out _).mono ?_
        intro e5 w5 hr5
        obtain ⟨rfl, ⟨lv5, sv5, sl5, ht5, hl5⟩, hD5, hu5⟩ := reh_tab HH.out.keyS hr5
        have HT5 := Lib.hid ht5
        have HU5 := Lib.hid hu5
        have HD5 := Lib.hid hD5
        clear ht5 hu5 hD5 hr5
        go_wp2_with fail
        go_meet
        exact put_reh HT5.out hl5 HD5.out HU5.out (HU.out _) HTL.out HH.out.tab.oLt Hno.out (HK.out _) (HV.out _)
    case rest =>
    have hOw := HH.out.tab.oLt
    clear x0 x1 Hno Hf HA0 HAS HRE HU HK HV HT HH t50 hroom hLN hn hL
    obtain ⟨⟨lv5, sv5, cv5, es5, sl5, cs5, hs5, hA5, hD5, hl5, hno5⟩, u5, kb5, vb5, hT5⟩ := hcut
    have ht5 := hs5.tab
    have k0 : wc.cell? ⟨w.heap.size, 0, none⟩ = some (.int .i64 k.1) := by rw [kb5.cell]; rfl
    have k1 : wc.cell? ⟨w.heap.size, 1, none⟩ = some (.int .i64 k.2.1) := by rw [kb5.cell]; rfl
    have k2 : wc.cell? ⟨w.heap.size, 2, none⟩ = some (.string k.2.2) := by rw [kb5.cell]; rfl
    go_wp2_with fail
    clear k0 k1 k2
    refine (find_any T lv5 sv5 cv5 es5 sl5 _ cs5 _ k _ ht5 hs5.core hs5.slotN (load_find hs5.load) hk).mono ?_
    rintro e w6 ⟨i6, s6, rfl, hf6, b6⟩
    obtain ⟨d6, hd6, hs6, hz6, hp6⟩ := findR_free hf6 hl5 hno5
    have ht6 := ht5.below b6
    have kb6 := kb5.below b6 kb5.lt
    have vb6 := vb5.below b6 vb5.lt
    obtain ⟨A6, c6, rfl, hA6⟩ := own_shape ht6.ents
    obtain ⟨AS6, cS6, rfl, hAS6⟩ := own_shape ht6.slots
    obtain ⟨gs, rfl⟩ := hAS6 (by omega)
    obtain ⟨n6, hn6⟩ : ∃ n, es5.length = n := ⟨_, rfl⟩
    obtain ⟨L6, hL6⟩ : ∃ n, sl5.length = n := ⟨_, rfl⟩
    have x0 : w6.cell? ⟨T, 0, none⟩ = some (.slice A6 n6 c6) := by rw [ht6.blk.cell, ← hn6]; rfl
    have k0 : w6.cell? ⟨w.heap.size, 0, none⟩ = some (.int .i64 k.1) := by rw [kb6.cell]; rfl
    have k1 : w6.cell? ⟨w.heap.size, 1, none⟩ = some (.int .i64 k.2.1) := by rw [kb6.cell]; rfl
    have k2 : w6.cell? ⟨w.heap.size, 2, none⟩ = some (.string k.2.2) := by rw [kb6.cell]; rfl
    have v0 : w6.cell? ⟨w.heap.size + 1, 0, none⟩ = some (.int .i64 v.1) := by rw [vb6.cell]; rfl
    have v1 : w6.cell? ⟨w.heap.size + 1, 1, none⟩ = some (.int .i64 v.2.1) := by rw [vb6.cell]; rfl
    have v2 : w6.cell? ⟨w.heap.size + 1, 2, none⟩ = some (.string v.2.2) := by rw [vb6.cell]; rfl
    have hLN := slotN_le hs5.slotN
    rw [hL6] at hLN
    have hlT : T < w6.heap.size := ht6.blk.lt
    have hlK : w.heap.size < w6.heap.size := kb6.lt
    have hlV : w.heap.size + 1 < w6.heap.size := vb6.lt
    have hfree := hs5.load
    have HS6 := Lib.hid (And.intro hd6 (And.intro hs6 (And.intro hz6 hp6)))
    clear hd6 hs6 hz6 hp6
    have HOW := Lib.hid ht6
    have HE : Hid (w6.ownsRow 0 126 8 (.slice A6 n6 c6) n6 (entsC es5)) := Lib.hid (by rw [← hn6]; exact ht6.ents)
    have HB : Hid (Blk w6 T 117 #[.slice A6 n6 c6, .slice (some ⟨gs, 0, none⟩) L6 cS6, .int .i64 ((cp es5).length : Int), cv5]) := Lib.hid (by rw [← hn6, ← hL6]; exact ht6.blk)
    have HS := Lib.hid hs5
    have HV := Lib.hid vb6
    have H6 := Lib.hid b6
    have HU := Lib.hid u5
    have HN := Lib.hid hno5
    have hn6b : n6 ≤ 1048576 := by omega
    obtain ⟨iE, hiE, hE0, hE1, hE2⟩ := info_parts infoEnt
    clear hs5 ht5 ht6 kb5 vb5 kb6 vb6 b6 u5 hno5 hf6 hA6 hfree
    go_upto_region 8 with fail
    go_cut [] (fun wx => ∃ w8 gq capq w7, Below w6.heap.size w6 w8 ∧ (w8.alloc (.cells (entC ⟨norm k, v, f, false⟩).toArray 126)).grownBy w7 (Value.slice A6 n6 c6).ownBlock ∧ w7.ownsRow 0 126 8 (.slice (some ⟨gq, 0, none⟩) (n6 + 1) capq) (n6 + 1) (entsC es5 ++ entC ⟨norm k, v, f, false⟩) ∧ ((Value.slice A6 n6 c6).ownBlock = some gq ∨ gq = w8.heap.size + 1) ∧ wx = w7.setCell ⟨T, 0, none⟩ (.slice (some ⟨gq, 0, none⟩) (n6 + 1) capq))
    case first =>
      go_region_law (first
        | (refine step_call_below (by rfl) 48 _ _ (by rfl) _ _ (by rfl) (run_key _ _) (key_all k.1 k.2.1 k.2.2 _) ?_; intro w8 b8d; have b8 : Below w6.heap.size w6 w8 := ((Below.refl w6.heap.size w6).drew).trans b8d; obtain ⟨y0, u0, u1, u2, hown8, HB8, hlt8⟩ := put_key HB.out HE.out HV.out b8)
        | (refine step_append_lies _ (by rfl) _ _ _ (by rfl) 0 126 iE _ 8 80 Tryd.underlying114 hiE hE0 hE1 hE2 rfl (by omega) (.slice A6 n6 c6) n6 (entsC es5) (by rfl) (hown8.alloc _) ⟨w8.heap.size, 0, none⟩ 1 1 (entC ⟨norm k, v, f, false⟩) (by rfl) (by rfl) (World.news_of_block (cs := (entC ⟨norm k, v, f, false⟩).toArray) (t := 126) (fr := (0, 0)) (heap_alloc_new w8 _)) (by simp [Value.oneCell', entC, k3C]) (by omega) (by unfold maxLen; omega) (by omega) (Nat.zero_le _) (w8.heap.size + 1) (by simp) ?_; intro gq capq w7 hown7 hgrow hat hlt; obtain ⟨d9, e9⟩ := put_mid HB8.out hown8 hgrow))
      all_goals
        go_wp2_with fail
        go_meet
        exact ⟨w8, gq, capq, w7, b8, hgrow, hown7, hat, rfl⟩
    case rest =>
    obtain ⟨w8, gq, capq, w7, b8, hg7, hown7, hat7, rfl⟩ := hcut
    rw [← hn6] at hg7 hown7 hat7
    obtain ⟨hrow, hup⟩ := put_row (HOW.out.below b8) hg7 hown7 hat7
    rw [hn6] at hrow hup
    obtain ⟨m, hm⟩ : ∃ m, n6 + 1 = m := ⟨_, rfl⟩
    rw [hm] at hrow hup
    rw [hm]
    have huW : Upd w (w7.setCell ⟨T, 0, none⟩ (.slice (some ⟨gq, 0, none⟩) m capq)) O := (((((HU.out.then_below H6.out).then_below b8).mono (fun k _ hk => Or.inl hk)).trans hup) : Upd w _ (Og O w wc)).mono (fun k hk6 hk => by
      rcases hk with hk | ⟨h3, _⟩
      · exact hk
      · exact absurd hk6 (by omega))
    have hsz1 := HU.out.size
    have hsz2 := Nat.le_trans H6.out.size b8.size
    clear hup hg7 hown7 hat7 x0 k0 k1 k2 v0 v1 v2 HOW HE HB HV
    generalize (w7.setCell ⟨T, 0, none⟩ (.slice (some ⟨gq, 0, none⟩) m capq)) = W at *
    have x0 : W.cell? ⟨T, 0, none⟩ = some (.slice (some ⟨gq, 0, none⟩) m capq) := by rw [hrow.blk.cell]; rfl
    have x1 : W.cell? ⟨T, 1, none⟩ = some (.slice (some ⟨gs, 0, none⟩) L6 cS6) := by rw [hrow.blk.cell, ← hL6]; rfl
    have hsl : s6 < sl5.length := by rw [HS6.out.2.1]; exact pr_lt _ _ (by omega)
    have z0 := hrow.slot s6 hsl
    rw [HS6.out.2.2.1] at z0
    have zf := World.ownsRow.frozenAt hrow.slots s6
    have n1 : T ≠ gs := fun e => own_blk_ne hrow.slots hrow.blk (by decide) (by rw [e]; rfl)
    have n2 := n1.symm
    have hset := hrow.setSlot s6 m
    have huS : Upd w (W.setCell ⟨gs, s6, none⟩ (.int .i64 (m : Int))) O := put_set huW (hrow.oS gs rfl) (Nat.le_trans hsz1 hsz2)
    have z1 : (0 : Int) ≤ (s6 : Int) := by omega
    have z2 : (s6 : Int) < (L6 : Int) := by rw [← hL6]; omega
    have zr : Hid (Upd w W O) := Lib.hid huW
    have HSET := Lib.hid hset
    have HUS := Lib.hid huS
    clear hset huS huW hrow hsl
    go_upto_region 9 with fail
    go_cut [] (fun wx => TabV wx T (.slice (some ⟨gq, 0, none⟩) m capq) (.slice (some ⟨gs, 0, none⟩) sl5.length cS6) cv5 (es5 ++ [⟨norm k, v, f, false⟩]) (sl5.set s6 m) (cp es5).length cs5 (Og (Og O w wc) w8 w7) ∧ Upd w wx O)
    case first =>
      go_region
      all_goals
        go_wp2_with fail
        go_meet
        first | exact ⟨HSET.out, HUS.out⟩ | exact ⟨HSET.out.drew, HUS.out.drew⟩
    case rest =>
    obtain ⟨ht10, hu10⟩ := hcut
    obtain ⟨q, hq⟩ : ∃ q, (cp es5).length = q := ⟨_, rfl⟩
    have hqn : q ≤ 4000 := by rw [← hq, hA5]; exact hA
    have y2 : wc.cell? ⟨T, 2, none⟩ = some (.int .i64 (q : Int)) := by rw [ht10.blk.cell, ← hq]; rfl
    have yf := ht10.blk.frozen 2
    have yw : IntKind.i64.wrap ((q : Int) + 1) = (q : Int) + 1 := IntWalk.i64_in _ (by omega)
    have hset := ht10.setLive ((cp es5).length + 1)
    have huS : Upd w (wc.setCell ⟨T, 2, none⟩ (.int .i64 (((cp es5).length + 1 : Nat) : Int))) O := put_set hu10 ht10.oT (Nat.le_trans hsz1 hsz2)
    rw [← hm, ← hn6] at hset
    have hres := put_end hsz1 hsz2 (put_new HS.out.core HS.out.slotN hA5 hD5 hl5 HS.out.room HS.out.at_ HS.out.keyS hk HN.out HS6.out.1 HS6.out.2.1 HS6.out.2.2.1 HS6.out.2.2.2 hset) huS hOw
    rw [show (((cp es5).length + 1 : Nat) : Int) = (q : Int) + 1 from by omega] at hres
    have HR := Lib.hid hres
    clear hres huS hset ht10 hu10 HS HSET HUS
    go_wp2
    go_end0
    exact HR.out
  · have hj := (List.getElem?_eq_some_iff.1 hx).1
    obtain ⟨g, rfl⟩ := hA0 (by omega)
    have x0 : w2.cell? ⟨T, 0, none⟩ = some (.slice (some ⟨g, 0, none⟩) es.length c0) := by rw [ht2.blk.cell]; rfl
    have e3 : w2.cell? ⟨g, j * 8 + 3, none⟩ = some (.int .i64 x.val.1) := ht2.ent j x hx 3 (by decide)
    have e4 : w2.cell? ⟨g, j * 8 + 4, none⟩ = some (.int .i64 x.val.2.1) := ht2.ent j x hx 4 (by decide)
    have e5 : w2.cell? ⟨g, j * 8 + 5, none⟩ = some (.string x.val.2.2) := ht2.ent j x hx 5 (by decide)
    have e6 : w2.cell? ⟨g, j * 8 + 6, none⟩ = some (.int .i64 x.flags) := ht2.ent j x hx 6 (by decide)
    have f3 := World.ownsRow.frozenAt ht2.ents (j * 8 + 3)
    have f4 := World.ownsRow.frozenAt ht2.ents (j * 8 + 4)
    have f5 := World.ownsRow.frozenAt ht2.ents (j * 8 + 5)
    have f6 := World.ownsRow.frozenAt ht2.ents (j * 8 + 6)
    have n1 : T ≠ g := fun e => own_blk_ne ht2.ents ht2.blk (by decide) (by rw [e]; rfl)
    have n2 : g ≠ w.heap.size + 1 := fun e => own_blk_ne ht2.ents vb2 (by decide) (by rw [← e]; rfl)
    have n3 := n1.symm
    have n4 := n2.symm
    have hset := ht2.setEnt (r := 3) (e' := { x with val := v, flags := f }) (l := [.int .i64 v.1, .int .i64 v.2.1, .string v.2.2, .int .i64 f]) hx (by simp) rfl
    have hup := setsAt_upd w2 g (j * 8 + 3) [.int .i64 v.1, .int .i64 v.2.1, .string v.2.2, .int .i64 f]
    have hold := put_old hx hkx hs hset
    have hu : Upd w (setsAt w2 g (j * 8 + 3) [.int .i64 v.1, .int .i64 v.2.1, .string v.2.2, .int .i64 f]) O := (Upd.of_below_all (M := O) hb2).trans (hup.mono (fun k _ hk => by subst hk; exact ht2.oL _ rfl))
    have hres : PutP T k v f (cp es) (cs.map (curF es)) O w (.returned (.tuple #[])) (setsAt w2 g (j * 8 + 3) [.int .i64 v.1, .int .i64 v.2.1, .string v.2.2, .int .i64 f]) :=
      ⟨rfl, hold.widen (fun k hk => .inl hk) (fun k hk => by
        rcases hk with hk | ⟨_, hk⟩
        · exact hold.lt k hk
        · exact hk), hu⟩
    have hdre := hres.drew
    simp only [setsAt] at hres hdre
    obtain ⟨n, hn⟩ : ∃ n, es.length = n := ⟨_, rfl⟩
    rw [hn] at hj x0
    have j0 : (0 : Int) ≤ (j : Int) := by omega
    have j1 : (j : Int) < (n : Int) := by omega
    have HR := Lib.hid hres
    have HS := Lib.hid hdre
    clear hres hdre hu hold hset hup hx hkx hn hA0 hf hs ht ht1 ht2 hb1 hb2 b2 kb vb kb2 vb2 hAS
    go_wp2_with fail
    go_region
    all_goals
      go_wp2
      go_end0
      first | exact HR.out | exact HS.out
end Go.Proofs.YtdeboajjhpecbaaDoor
