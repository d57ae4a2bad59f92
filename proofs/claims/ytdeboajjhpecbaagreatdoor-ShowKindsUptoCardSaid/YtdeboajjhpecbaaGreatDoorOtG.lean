/- OtG: several texts in one. -/
import Derived.Test.YtdeboajjhpecbaaGreatDoorOtD
import Derived.Deep.RegionLaw
/- Contracts of Get and Delete. -/
set_option linter.unusedVariables false
set_option linter.unusedSimpArgs false
namespace Go.Proofs.YtdeboajjhpecbaaGreatDoor
open Go.RowKit Go.Sort

theorem load_find {es : List Ent} {sl : List Nat} (h : 2 * es.length ≤ sl.length) : sl.length = 0 ∨ es.length < sl.length := by omega

/-- What find tells of what is there. -/
theorem findR_cases {es : List Ent} {sl : List Nat} {k : K3} {i : Int} {s : Nat} (h : FindR es sl k i s) (hl : 2 * es.length ≤ sl.length) :
    (i = -1 ∧ ∀ (j : Nat) (e : Ent), es[j]? = some e → isKey k e = false) ∨ ∃ (j : Nat) (e : Ent), i = (j : Int) ∧ es[j]? = some e ∧ isKey k e = true := by
  cases h with
  | none0 h0 =>
    refine .inl ⟨rfl, fun j e he => ?_⟩
    have := (List.getElem?_eq_some_iff.1 he).1
    omega
  | none d h1 h2 h3 h4 => exact .inl ⟨rfl, h4⟩
  | some s j e h1 h2 => exact .inr ⟨j, e, rfl, h1, h2⟩

def GetP (A : List Ent) (k : K3) (w : World) (e : Ending) (w' : World) : Prop :=
  Below w.heap.size w w' ∧ ((∃ x ∈ A, isKey k x = true ∧ e = .returned (.tuple #[VK x.val, .int .i64 x.flags, .bool true])) ∨ ((∀ x ∈ A, isKey k x = false) ∧ e = .returned (.tuple #[VS 0 0 ⟨#[]⟩, .int .i64 0, .bool false])))

set_option maxHeartbeats 4000000 in
set_option maxRecDepth 100000 in
theorem get_any (T : Nat) (A : List Ent) (D : List (Nat × Nat)) (O : Nat → Prop) (k : K3) (w : World) (h : TabA w T A D O) (hk : k.2.2.size ≤ 4000) :
    Calls Tryz.prog 67 #[.pointer (some ⟨T, 0, none⟩), VK k] w (GetP A k w) := by
  obtain ⟨lv, sv, cv, es, sl, cs, hs, rfl, rfl⟩ := h
  have ht := hs.tab
  have hb1 : Below w.heap.size w ((w.alloc (SC k.1 k.2.1 k.2.2)).alloc (SC 0 0 ⟨#[]⟩)) := ((Below.refl _ _).alloc (Nat.le_refl _) _).alloc (by simp) _
  have ht1 := ht.below hb1
  have kb : Blk ((w.alloc (SC k.1 k.2.1 k.2.2)).alloc (SC 0 0 ⟨#[]⟩)) (w.heap.size + 1) 30 #[.int .i64 0, .int .i64 0, .string ⟨#[]⟩] := by
    have := Blk.new (w.alloc (SC k.1 k.2.1 k.2.2)) 30 #[.int .i64 0, .int .i64 0, .string ⟨#[]⟩]
    rwa [World.size_alloc] at this
  go_enter Tryz.func67, Tryz.ntmps67
  go_wp2_with fail
  generalize ((w.alloc (SC k.1 k.2.1 k.2.2)).alloc (SC 0 0 ⟨#[]⟩)) = w1 at *
  refine (find_any T lv sv cv es sl _ cs O k w1 ht1 hs.core hs.slotN (load_find hs.load) hk).mono ?_
  rintro e w2 ⟨i, s, rfl, hf, b2⟩
  have ht2 := ht1.below b2
  have kc := kb.below b2 kb.lt
  have hb2 := hb1.trans (b2.mono hb1.size)
  have r0 : w2.cell? ⟨w.heap.size + 1, 0, none⟩ = some (.int .i64 0) := by rw [kc.cell]; rfl
  have r1 : w2.cell? ⟨w.heap.size + 1, 1, none⟩ = some (.int .i64 0) := by rw [kc.cell]; rfl
  have r2 : w2.cell? ⟨w.heap.size + 1, 2, none⟩ = some (.string ⟨#[]⟩) := by rw [kc.cell]; rfl
  have f0 := kc.frozen 0
  have f1 := kc.frozen 1
  have f2 := kc.frozen 2
  have lc := kc.lt
  rcases findR_cases hf hs.load with ⟨rfl, hno⟩ | ⟨j, x, rfl, hx, hkx⟩
  · have hno2 : ∀ x ∈ cp es, isKey k x = false := fun x hx => by
      obtain ⟨i, hi⟩ := List.getElem?_of_mem (mem_cp hx).1
      exact hno i x hi
    have HN := Lib.hid hno2
    have HB := Lib.hid hb2
    clear hf hno hno2 ht ht1 ht2 hs hb1 hb2 b2 kb
    go_wp2
    refine bodyPost_ret (v := .tuple #[VS 0 0 ⟨#[]⟩, .int .i64 0, .bool false]) ?_ rfl ⟨?_, .inr ⟨HN.out, rfl⟩⟩
    · first | (simp [results, Tryz.results67, go_sem, r0, r1, r2, f0, f1, f2, lc]; done)
    · exact ((HB.out.setCell (p := ⟨w.heap.size + 1, 0, none⟩) (Nat.le_succ _) _).setCell (p := ⟨w.heap.size + 1, 1, none⟩) (Nat.le_succ _) _).setCell (p := ⟨w.heap.size + 1, 2, none⟩) (Nat.le_succ _) _
  · obtain ⟨A0, c0, rfl, hA0⟩ := own_shape ht.ents
    have hj := (List.getElem?_eq_some_iff.1 hx).1
    obtain ⟨g, rfl⟩ := hA0 (by omega)
    have x0 : w2.cell? ⟨T, 0, none⟩ = some (.slice (some ⟨g, 0, none⟩) es.length c0) := by rw [ht2.blk.cell]; rfl
    have e3 : w2.cell? ⟨g, j * 8 + 3, none⟩ = some (.int .i64 x.val.1) := ht2.ent j x hx 3 (by decide)
    have e4 : w2.cell? ⟨g, j * 8 + 4, none⟩ = some (.int .i64 x.val.2.1) := ht2.ent j x hx 4 (by decide)
    have e5 : w2.cell? ⟨g, j * 8 + 5, none⟩ = some (.string x.val.2.2) := ht2.ent j x hx 5 (by decide)
    have e6 : w2.cell? ⟨g, j * 8 + 6, none⟩ = some (.int .i64 x.flags) := ht2.ent j x hx 6 (by decide)
    have n1 : T ≠ w.heap.size + 1 := ht2.blk.ne_ kc (by decide)
    have n2 : g ≠ w.heap.size + 1 := fun e => own_blk_ne ht2.ents kc (by decide) (by rw [← e]; rfl)
    have n3 := n1.symm
    have n4 := n2.symm
    have hmem : x ∈ cp es := by
      refine List.mem_filter.2 ⟨List.mem_of_getElem? hx, ?_⟩
      simp [(isKey_true.1 hkx).1]
    have HM := Lib.hid hmem
    have HK := Lib.hid hkx
    have HB := Lib.hid hb2
    obtain ⟨n, hn⟩ : ∃ n, es.length = n := ⟨_, rfl⟩
    rw [hn] at hj x0
    have j0 : (0 : Int) ≤ (j : Int) := by omega
    have j1 : (j : Int) < (n : Int) := by omega
    clear hf ht ht1 ht2 hs hb1 hb2 b2 kb hx hmem hkx hn hA0
    go_wp2_with fail
    go_region
    all_goals
      go_wp2
      refine bodyPost_ret (v := .tuple #[VK x.val, .int .i64 x.flags, .bool true]) ?_ rfl ⟨?_, .inl ⟨x, HM.out, HK.out, rfl⟩⟩
      · first | (simp [results, Tryz.results67, go_sem, r0, r1, r2, f0, f1, f2, lc]; done)
      · first | exact (((HB.out.setCell (p := ⟨w.heap.size + 1, 0, none⟩) (Nat.le_succ _) _).setCell (p := ⟨w.heap.size + 1, 1, none⟩) (Nat.le_succ _) _).setCell (p := ⟨w.heap.size + 1, 2, none⟩) (Nat.le_succ _) _).drew

/-! ### An entry written over -/
def setsAt (w : World) (g : Nat) : Nat → List Value → World
  | _, [] => w
  | off, a :: l => setsAt (w.setCell ⟨g, off, none⟩ a) g (off + 1) l
def setsL (xs : List Value) : Nat → List Value → List Value
  | _, [] => xs
  | off, a :: l => setsL (xs.set off a) (off + 1) l
theorem setsL_eq (xs : List Value) (off : Nat) (l : List Value) (h : off + l.length ≤ xs.length) : setsL xs off l = xs.take off ++ l ++ xs.drop (off + l.length) := by
  induction l generalizing xs off with
  | nil => simp [setsL]
  | cons a l ih =>
    rw [List.length_cons] at h
    rw [setsL, ih _ _ (by rw [List.length_set]; omega)]
    have h1 : (xs.set off a).take (off + 1) = xs.take off ++ [a] := by
      rw [List.take_add_one, List.take_set_of_le (Nat.le_refl _), List.getElem?_set_self (by omega)]; rfl
    have h2 : (xs.set off a).drop (off + 1 + l.length) = xs.drop (off + (l.length + 1)) := by
      rw [List.drop_set_of_lt (by omega)]; congr 1; omega
    rw [h1, h2, List.length_cons]
    simp
theorem sets_ents {es : List Ent} {j r : Nat} {e e' : Ent} {l : List Value} (he : es[j]? = some e) (hl : r + l.length ≤ 8) (h : entC e' = (entC e).take r ++ l ++ (entC e).drop (r + l.length)) : setsL (entsC es) (j * 8 + r) l = entsC (es.set j e') := by
  obtain ⟨hj, he'⟩ := List.getElem?_eq_some_iff.1 he
  have hlen := entsC_length es
  rw [setsL_eq _ _ _ (by rw [hlen]; omega)]
  have hs : es = es.take j ++ e :: es.drop (j + 1) := by rw [← he', ← List.drop_eq_getElem_cons hj, List.take_append_drop]
  have hset : es.set j e' = es.take j ++ e' :: es.drop (j + 1) := by
    rw [List.set_eq_take_append_cons_drop, if_pos hj]
  have hE : entsC es = entsC (es.take j) ++ (entC e ++ entsC (es.drop (j + 1))) := by
    conv => lhs; rw [hs, entsC_append]
    rfl
  have hE' : entsC (es.set j e') = entsC (es.take j) ++ (entC e' ++ entsC (es.drop (j + 1))) := by
    rw [hset, entsC_append]; rfl
  have h1 : (entsC (es.take j)).length = j * 8 := by rw [entsC_length, List.length_take, Nat.min_eq_left (by omega)]
  have h2 := entC_length e
  rw [hE', hE, h]
  rw [List.take_append, h1, List.take_of_length_le (by omega), Nat.add_sub_cancel_left, List.take_append, h2, show r - 8 = 0 by omega, List.take_zero, List.append_nil]
  rw [List.drop_append, h1, List.drop_of_length_le (by omega), List.nil_append, show j * 8 + r + l.length - j * 8 = r + l.length by omega, List.drop_append, h2, show r + l.length - 8 = 0 by omega, List.drop_zero]
  simp
theorem setsAt_own {w : World} {base : Nat} {e : TypeId} {size g n cap : Nat} {xs : List Value} (h : w.ownsRow base e size (.slice (some ⟨g, 0, none⟩) n cap) n xs) (off : Nat) (l : List Value) : (setsAt w g off l).ownsRow base e size (.slice (some ⟨g, 0, none⟩) n cap) n (setsL xs off l) := by
  induction l generalizing w xs off with
  | nil => exact h
  | cons a l ih => exact ih (World.ownsRow.stored h off a).1 (off + 1)
theorem setsAt_upd (w : World) (g off : Nat) (l : List Value) : Upd w (setsAt w g off l) (fun k => k = g) := by
  induction l generalizing w off with
  | nil => exact Upd.refl _ _
  | cons a l ih => exact ((Upd.refl w (fun k => k = g)).set g off a rfl).trans ((ih _ _).mono (fun k _ h => h))

/-- An entry anew. -/
theorem TabV.setEnt {w : World} {T g cap : Nat} {sv cv : Value} {es : List Ent} {sl : List Nat} {live : Nat} {cs : List (Nat × Nat)} {O : Nat → Prop} (h : TabV w T (.slice (some ⟨g, 0, none⟩) es.length cap) sv cv es sl live cs O) {j r : Nat} {e e' : Ent} {l : List Value}
    (he : es[j]? = some e) (hl : r + l.length ≤ 8) (hc : entC e' = (entC e).take r ++ l ++ (entC e).drop (r + l.length)) :
    TabV (setsAt w g (j * 8 + r) l) T (.slice (some ⟨g, 0, none⟩) es.length cap) sv cv (es.set j e') sl live cs O := by
  have u := setsAt_upd w g (j * 8 + r) l
  have hg : (Value.slice (some ⟨g, 0, none⟩) es.length cap).ownBlock = some g := rfl
  refine ⟨u.blk h.blk (fun e => own_blk_ne h.ents h.blk (by decide) (by rw [hg, ← e])), ?_, u.own h.slots (fun k hk e => own_own_ne h.slots h.ents (by decide) hg (by rw [← e]; exact hk)), u.own h.curs (fun k hk e => own_own_ne h.curs h.ents (by decide) hg (by rw [← e]; exact hk)),
    fun c hc => u.blk (h.cur c hc) (fun e => own_blk_ne h.ents (h.cur c hc) (by decide) (by rw [hg, ← e])), h.nodup, h.oT, h.oL, h.oS, h.oC, h.oc, fun k hk => Nat.lt_of_lt_of_le (h.oLt k hk) u.size⟩
  rw [List.length_set, ← sets_ents he hl hc]
  exact setsAt_own h.ents _ _
end Go.Proofs.YtdeboajjhpecbaaGreatDoor

/- Contract of Delete. -/
set_option linter.unusedVariables false
set_option linter.unusedSimpArgs false
namespace Go.Proofs.YtdeboajjhpecbaaGreatDoor
open Go.RowKit Go.Sort

theorem cp_cp (l : List Ent) : cp (cp l) = cp l := by simp [cp, List.filter_filter]
theorem cnt_cp (l : List Ent) (n : Nat) (h : n ≤ (cp l).length) : cnt (cp l) n = n := by
  unfold cnt
  have : cp ((cp l).take n) = (cp l).take n := by
    rw [cp, List.filter_eq_self]
    intro e he
    have := (mem_cp (List.mem_of_mem_take he)).2
    simp [this]
  rw [this, List.length_take]; omega
theorem TabV.setLive {w : World} {T : Nat} {lv sv cv : Value} {es : List Ent} {sl : List Nat} {live : Nat} {cs : List (Nat × Nat)} {O : Nat → Prop} (h : TabV w T lv sv cv es sl live cs O) (n : Nat) : TabV (w.setCell ⟨T, 2, none⟩ (.int .i64 (n : Int))) T lv sv cv es sl n cs O :=
  ⟨h.blk.set_ 2 _, own_set h.ents h.blk (by decide) _ _, own_set h.slots h.blk (by decide) _ _, own_set h.curs h.blk (by decide) _ _, fun c hc => (h.cur c hc).far ((h.cur c hc).ne_ h.blk (by decide)) _, h.nodup, h.oT, h.oL, h.oS, h.oC, h.oc, fun k hk => by have := h.oLt k hk; simpa using this⟩

/-- What rehash comes to, as a table. -/
theorem reh_tab {w w' : World} {T : Nat} {cv : Value} {es : List Ent} {cs : List (Nat × Nat)} {O : Nat → Prop} {e : Ending} (hks : ∀ e ∈ es, e.key.2.2.size ≤ 4000) (h : RehP T cv es (cp es).length cs O w e w') :
    e = .returned (.tuple #[]) ∧ (∃ lv sv sl, TabS w' T lv sv cv (cp es) sl (cs.map (curF es)) (Og O w w') ∧ 4 * ((cp es).length + 1) ≤ sl.length) ∧ (cs.map (curF es)).map (curF (cp es)) = cs.map (curF es) ∧ Upd w w' O := by
  obtain ⟨lv, sv, sl, he, ht, hc, hn, h4, h5, hu⟩ := h
  refine ⟨he, ⟨lv, sv, sl, ⟨by rw [cp_cp]; exact ht, hc, hn, by omega, by rw [cp_cp]; omega, fun c hc => ?_, fun e he => hks e (mem_cp he).1⟩, h4⟩, ?_, hu⟩
  · obtain ⟨d, hd, rfl⟩ := List.mem_map.1 hc
    exact cnt_le _ _
  · rw [List.map_map]
    apply List.map_congr_left
    intro c _
    show ((curF es c).1, cnt (cp es) (curF es c).2) = curF es c
    exact congrArg (fun n => (c.1, n)) (cnt_cp es _ (cnt_le es c.2))

def delA (k : K3) (A : List Ent) : List Ent := A.filter (fun e => !isKey k e)
def delD (k : K3) (A : List Ent) (c : Nat × Nat) : Nat × Nat := (c.1, (delA k (A.take c.2)).length)
theorem del_cp {es : List Ent} {sl : List Nat} (c : Core es sl) {k : K3} {j : Nat} {e : Ent} (he : es[j]? = some e) (hk : isKey k e = true) :
    cp (es.set j grave0) = delA k (cp es) ∧ ∀ x : Nat × Nat, curF (es.set j grave0) x = delD k (cp es) (curF es x) := by
  have h := cp_del c.dst k j e grave0 he hk rfl
  refine ⟨?_, fun x => ?_⟩
  · have h2 := h es.length
    rw [List.take_length] at h2
    rw [List.take_of_length_le (by rw [List.length_set]; exact Nat.le_refl _)] at h2
    exact h2
  · show (x.1, cnt (es.set j grave0) x.2) = (x.1, (delA k ((cp es).take (cnt es x.2))).length)
    rw [← cp_take, cnt, h]; rfl

theorem del_len {es : List Ent} {j : Nat} {e : Ent} (he : es[j]? = some e) (hg : e.grave = false) : (cp (es.set j grave0)).length + 1 = (cp es).length := by
  obtain ⟨hj, he'⟩ := List.getElem?_eq_some_iff.1 he
  have hs : es = es.take j ++ e :: es.drop (j + 1) := by rw [← he', ← List.drop_eq_getElem_cons hj, List.take_append_drop]
  have h1 : cp (es.set j grave0) = cp (es.take j) ++ cp (es.drop (j + 1)) := by
    rw [List.set_eq_take_append_cons_drop, if_pos hj, cp_append]; rfl
  have h2 : cp es = cp (es.take j) ++ (e :: cp (es.drop (j + 1))) := by
    conv => lhs; rw [hs, cp_append]
    simp [cp, hg]
  rw [h1, h2, List.length_append, List.length_append, List.length_cons]; omega

theorem mkA {w : World} {T : Nat} {lv sv cv : Value} {es A : List Ent} {sl : List Nat} {cs D : List (Nat × Nat)} {O : Nat → Prop} (h : TabS w T lv sv cv es sl cs O) (h1 : cp es = A) (h2 : cs.map (curF es) = D) : TabA w T A D O := ⟨_, _, _, _, _, _, h, h1, h2⟩

def DelP (T : Nat) (k : K3) (A : List Ent) (D : List (Nat × Nat)) (O : Nat → Prop) (w : World) (e : Ending) (w' : World) : Prop :=
  (e = .returned (.bool false) ∧ (∀ x ∈ A, isKey k x = false) ∧ Below w.heap.size w w') ∨
  (e = .returned (.bool true) ∧ (∃ x ∈ A, isKey k x = true) ∧ TabA w' T (delA k A) (D.map (delD k A)) (Og O w w') ∧ Upd w w' O)

end Go.Proofs.YtdeboajjhpecbaaGreatDoor

/- Contract of Put. -/
set_option linter.unusedVariables false
set_option linter.unusedSimpArgs false
namespace Go.Proofs.YtdeboajjhpecbaaGreatDoor
open Go.RowKit Go.Sort

def putA (k v : K3) (f : Int) (A : List Ent) : List Ent := if A.any (isKey k) then A.map (updE k v f) else A ++ [⟨norm k, v, f, false⟩]
def PutP (T : Nat) (k v : K3) (f : Int) (A : List Ent) (D : List (Nat × Nat)) (O : Nat → Prop) (w : World) (e : Ending) (w' : World) : Prop :=
  e = .returned (.tuple #[]) ∧ TabA w' T (putA k v f A) D (Og O w w') ∧ Upd w w' O

theorem put_old {w : World} {T : Nat} {lv sv cv : Value} {es : List Ent} {sl : List Nat} {cs : List (Nat × Nat)} {O : Nat → Prop} {k v : K3} {f : Int} {j : Nat} {x : Ent} (hx : es[j]? = some x) (hk : isKey k x = true) (hs : TabS w T lv sv cv es sl cs O)
    {w' : World} {O' : Nat → Prop} (ht : TabV w' T lv sv cv (es.set j { x with val := v, flags := f }) sl (cp es).length cs O') : TabA w' T (putA k v f (cp es)) (cs.map (curF es)) O' := by
  have hset := set_upd hs.core.dst k v f j x hx hk
  have hlen : (cp (es.map (updE k v f))).length = (cp es).length := by rw [cp_upd, List.length_map]
  rw [hset] at ht
  have hmem : x ∈ cp es := List.mem_filter.2 ⟨List.mem_of_getElem? hx, by simp [(isKey_true.1 hk).1]⟩
  refine ⟨lv, sv, cv, es.map (updE k v f), sl, cs, ⟨by rw [hlen]; exact ht, ?_, hs.slotN, by rw [List.length_map]; exact hs.load, by rw [List.length_map, hlen]; exact hs.room, fun c hc => by rw [List.length_map]; exact hs.at_ c hc, fun e he => ?_⟩, ?_, ?_⟩
  · rw [← hset]; exact hs.core.put j x _ hx rfl (fun h => h)
  · obtain ⟨y, hy, rfl⟩ := List.mem_map.1 he
    have := hs.keyS y hy
    unfold updE; split <;> exact this
  · rw [cp_upd, putA, if_pos (List.any_eq_true.2 ⟨x, hmem, hk⟩)]
  · apply List.map_congr_left
    intro c _
    unfold curF cnt
    rw [← List.map_take, cp_upd, List.length_map]

theorem PutP.drew {T : Nat} {k v : K3} {f : Int} {A : List Ent} {D : List (Nat × Nat)} {O : Nat → Prop} {w : World} {e : Ending} {w' : World} (h : PutP T k v f A D O w e w') : PutP T k v f A D O w e w'.drew :=
  ⟨h.1, h.2.1.upd (Upd.drew (Upd.refl w' (fun _ => False))) (fun _ _ h => h), h.2.2.drew⟩

theorem findR_free {es : List Ent} {sl : List Nat} {k : K3} {i : Int} {s : Nat} (h : FindR es sl k i s) (hl : 2 * (es.length + 1) ≤ sl.length) (hno : ∀ x ∈ es, isKey k x = false) :
    ∃ d, d < sl.length ∧ s = pr sl.length (hs (norm k)) d ∧ sl.getD s 0 = 0 ∧ ∀ d', d' < d → sl.getD (pr sl.length (hs (norm k)) d') 0 ≠ 0 := by
  cases h with
  | none0 h0 => omega
  | none d h1 h2 h3 h4 => exact ⟨d, h1, rfl, h2, h3⟩
  | some s j e h1 h2 => rw [hno e (List.mem_of_getElem? h1)] at h2; cases h2

theorem put_mid {w6 w7 : World} {T n : Nat} {lv sv lc cv : Value} {xs : List Value} {o : Obj} (hb : Blk w6 T 117 #[lv, sv, lc, cv]) (ho : w6.ownsRow 0 173 8 lv n xs) (hg : (w6.alloc o).grownBy w7 lv.ownBlock) :
    w7.cell? ⟨T, 0, none⟩ = some lv ∧ w7.frozen? ⟨T, 0, none⟩ = false := by
  have kb : Blk w7 T 117 #[lv, sv, lc, cv] := Blk.grown (hb.alloc o) hg (fun e => own_blk_ne ho hb (by decide) e.symm)
  exact ⟨by rw [kb.cell]; rfl, kb.frozen 0⟩

/-- The entries' row anew, with one more. -/
theorem put_row {w6 w7 : World} {T gq capq : Nat} {lv sv cv : Value} {es : List Ent} {sl : List Nat} {live : Nat} {cs : List (Nat × Nat)} {O : Nat → Prop} {E : Ent} {o : Obj} (ht : TabV w6 T lv sv cv es sl live cs O) (hg : (w6.alloc o).grownBy w7 lv.ownBlock)
    (hown : w7.ownsRow 0 173 8 (.slice (some ⟨gq, 0, none⟩) (es.length + 1) capq) (es.length + 1) (entsC es ++ entC E)) (hat : lv.ownBlock = some gq ∨ gq = w6.heap.size + 1) :
    TabV (w7.setCell ⟨T, 0, none⟩ (.slice (some ⟨gq, 0, none⟩) (es.length + 1) capq)) T (.slice (some ⟨gq, 0, none⟩) (es.length + 1) capq) sv cv (es ++ [E]) sl live cs (Og O w6 w7) ∧ Upd w6 (w7.setCell ⟨T, 0, none⟩ (.slice (some ⟨gq, 0, none⟩) (es.length + 1) capq)) O := by
  have u : Upd w6 w7 (fun k => lv.ownBlock = some k) := ((Upd.refl w6 _).alloc o).grown hg (fun k hk => hk)
  have hbT := u.blk ht.blk (own_blk_ne ht.ents ht.blk (by decide))
  have hS := u.own ht.slots (fun k hk e => own_own_ne ht.ents ht.slots (by decide) hk e)
  have hC := u.own ht.curs (fun k hk e => own_own_ne ht.ents ht.curs (by decide) hk e)
  have hcc : ∀ c ∈ cs, Blk w7 c.1 241 #[.pointer (some ⟨T, 0, none⟩), .int .i64 (c.2 : Int)] := fun c hc => u.blk (ht.cur c hc) (own_blk_ne ht.ents (ht.cur c hc) (by decide))
  have hlen : (es ++ [E]).length = es.length + 1 := by simp
  have hrow : w7.ownsRow 0 173 8 (.slice (some ⟨gq, 0, none⟩) (es.length + 1) capq) (es ++ [E]).length (entsC (es ++ [E])) := by
    rw [hlen, entsC_append]
    simpa [entsC] using hown
  have hz : w6.heap.size + 1 ≤ w7.heap.size := by have := hg.size; simpa using this
  refine ⟨⟨hbT.set_ 0 _, own_set hrow hbT (by decide) _ _, own_set hS hbT (by decide) _ _, own_set hC hbT (by decide) _ _, fun c hc => (hcc c hc).far ((hcc c hc).ne_ hbT (by decide)) _, ht.nodup, .inl ht.oT, fun k hk => ?_, fun g hg => .inl (ht.oS g hg), fun g hg => .inl (ht.oC g hg), fun c hc => .inl (ht.oc c hc), fun k hk => ?_⟩, (u.mono (fun k _ hk => ht.oL k hk)).set T 0 _ ht.oT⟩
  · have hk2 := hown.lt k hk
    rcases hat with e | e
    · exact .inl (ht.oL k (by rw [← hk]; exact e))
    · have hgk : gq = k := by simpa [Value.ownBlock] using hk
      exact .inr ⟨by omega, hk2.2⟩
  · rcases hk with hk | ⟨_, hk⟩
    · have := ht.oLt k hk; simp; omega
    · simpa using hk

theorem kS_size (k : Int) (s : ByteArray) : (kS k s).size ≤ s.size := by
  unfold kS; split
  · exact Nat.zero_le _
  · exact Nat.le_refl _

/-- What the table is behind Put, where the key was not there. -/
theorem put_new {W : World} {T s : Nat} {lv sv cv : Value} {es A : List Ent} {sl : List Nat} {cs D : List (Nat × Nat)} {O : Nat → Prop} {k v : K3} {f : Int} {d : Nat} (hc : Core es sl) (hn : SlotN sl.length) (hA : cp es = A) (hD : cs.map (curF es) = D) (hl : 2 * (es.length + 1) ≤ sl.length) (hroom : es.length ≤ max (8 + (cp es).length) (4 * (cp es).length + 4)) (hat : ∀ c ∈ cs, c.2 ≤ es.length) (hks : ∀ e ∈ es, e.key.2.2.size ≤ 4000)
    (hk : k.2.2.size ≤ 4000) (hno : ∀ x ∈ es, isKey k x = false) (hd : d < sl.length) (hs_ : s = pr sl.length (hs (norm k)) d) (h0 : sl.getD s 0 = 0) (hb : ∀ d', d' < d → sl.getD (pr sl.length (hs (norm k)) d') 0 ≠ 0)
    (ht : TabV W T lv sv cv (es ++ [⟨norm k, v, f, false⟩]) (sl.set s (es.length + 1)) ((cp es).length + 1) cs O) : TabA W T (putA k v f A) D O := by
  subst hs_
  have hcp : cp (es ++ [⟨norm k, v, f, false⟩]) = cp es ++ [⟨norm k, v, f, false⟩] := by rw [cp_append]; rfl
  have hlen : (es ++ [(⟨norm k, v, f, false⟩ : Ent)]).length = es.length + 1 := by simp
  have hlc : (cp (es ++ [(⟨norm k, v, f, false⟩ : Ent)])).length = (cp es).length + 1 := by rw [hcp]; simp
  refine ⟨lv, sv, cv, _, _, cs, ⟨by rw [hlc]; exact ht, hc.add ⟨norm k, v, f, false⟩ rfl (norm_norm k) (fun i g hg hgg e => ?_) hd h0 hb, by rw [List.length_set]; exact hn, by rw [List.length_set, hlen]; exact hl, by rw [hlen, hlc]; omega, fun c hc => by have := hat c hc; rw [hlen]; omega, fun e he => ?_⟩, ?_, ?_⟩
  · have h1 := hno g (List.mem_of_getElem? hg)
    have h2 : isKey k g = true := isKey_true.2 ⟨hgg, by rw [hc.keys i g hg hgg]; exact e⟩
    rw [h1] at h2; cases h2
  · rcases List.mem_append.1 he with he | he
    · exact hks e he
    · obtain rfl := List.mem_singleton.1 he
      exact Nat.le_trans (kS_size _ _) hk
  · rw [hcp, hA, putA, if_neg]
    intro h
    obtain ⟨x, hx, hxk⟩ := List.any_eq_true.1 h
    rw [← hA] at hx
    rw [hno x (mem_cp hx).1] at hxk; cases hxk
  · rw [← hD]
    apply List.map_congr_left
    intro c hc
    unfold curF cnt
    rw [List.take_append_of_le_length (hat c hc)]

/-- Where Put stands when there is room for an entry more. -/
structure PutM (T : Nat) (k v : K3) (A : List Ent) (D : List (Nat × Nat)) (O : Nat → Prop) (w : World) (wx : World) : Prop where
  tab : ∃ lv sv cv es sl cs, TabS wx T lv sv cv es sl cs (Og O w wx) ∧ cp es = A ∧ cs.map (curF es) = D ∧ 2 * (es.length + 1) ≤ sl.length ∧ (∀ x ∈ es, isKey k x = false)
  upd : Upd w wx O
  kb : Blk wx w.heap.size 30 #[.int .i64 k.1, .int .i64 k.2.1, .string k.2.2]
  vb : Blk wx (w.heap.size + 1) 30 #[.int .i64 v.1, .int .i64 v.2.1, .string v.2.2]
  ltT : T < w.heap.size

/-- A call whose value is known, as one step of a region that draws. -/
theorem step_call_below {P : Program} {w : World} {ops : Array Oper} {o : Oper} {a : Act} {K : Act → World → Prop} {Q : Exit → Act → World → Prop} {E : Prop} (hgd : o.guard = none) (f : Nat) (x : Operand) (t : TypeId)
    (hop : o.op = Op.call { callee := Callee.value (Operand.func f), args := #[x], argTypes := #[t] }) (av v : Value) (hx : a.eval x = av) (hrun : (callFunc f #[av]).run P w = .ok (.enter f #[av]) w) (hC : Calls P f #[av] w (Ret v w)) (hK : ∀ w', Below w.heap.size w w' → K (a.put o.dst v) w') :
    if Region.wanted o (yielded ops a.tmps) = true then Oper.wp P o a w K Q else E := by
  have hw : Region.wanted o (yielded ops a.tmps) = true := by simp [Region.wanted, hgd]
  rw [if_pos hw]
  unfold Oper.wp
  simp [execOp, hop, resolve, invoke, hx, Result.andThen]
  rw [show a.eval (Operand.func f) = .func (.func f) #[] #[] from rfl]
  go_simp
  refine hC.mono ?_
  rintro e w' ⟨rfl, b⟩
  exact hK w' b

theorem put_key {w6 w8 : World} {T V : Nat} {v : K3} {n : Nat} {lv sv lc cv : Value} {xs : List Value} (hb : Blk w6 T 117 #[lv, sv, lc, cv]) (ho : w6.ownsRow 0 173 8 lv n xs) (hv : Blk w6 V 30 #[.int .i64 v.1, .int .i64 v.2.1, .string v.2.2]) (b : Below w6.heap.size w6 w8) :
    w8.cell? ⟨T, 0, none⟩ = some lv ∧ w8.cell? ⟨V, 0, none⟩ = some (.int .i64 v.1) ∧ w8.cell? ⟨V, 1, none⟩ = some (.int .i64 v.2.1) ∧ w8.cell? ⟨V, 2, none⟩ = some (.string v.2.2) ∧ w8.ownsRow 0 173 8 lv n xs ∧ Hid (Blk w8 T 117 #[lv, sv, lc, cv]) ∧ T < w8.heap.size := by
  have hv8 := hv.below b hv.lt
  have hb8 := hb.below b hb.lt
  exact ⟨by rw [hb8.cell]; rfl, by rw [hv8.cell]; rfl, by rw [hv8.cell]; rfl, by rw [hv8.cell]; rfl, (Upd.of_below_all (M := fun _ => False) b).own ho (fun _ _ h => h), Lib.hid hb8, hb8.lt⟩

theorem run_key (av : Value) (w : World) : (callFunc 97 #[av]).run Tryz.prog w = .ok (.enter 97 #[av]) w := by go_simp

theorem TabS.widen {w : World} {T : Nat} {lv sv cv : Value} {es : List Ent} {sl : List Nat} {cs : List (Nat × Nat)} {O O' : Nat → Prop} (h : TabS w T lv sv cv es sl cs O) (h1 : ∀ k, O k → O' k) (h2 : ∀ k, O' k → k < w.heap.size) : TabS w T lv sv cv es sl cs O' :=
  ⟨h.tab.widen h1 h2, h.core, h.slotN, h.load, h.room, h.at_, h.keyS⟩

theorem put_stay {w w2 : World} {T : Nat} {lv sv cv : Value} {es : List Ent} {sl : List Nat} {cs : List (Nat × Nat)} {O : Nat → Prop} {k v : K3} (h : TabS w T lv sv cv es sl cs O) (ht : TabV w2 T lv sv cv es sl (cp es).length cs O) (hu : Upd w w2 O) (hT : T < w.heap.size)
    (hl : 2 * (es.length + 1) ≤ sl.length) (hno : ∀ (j : Nat) (e : Ent), es[j]? = some e → isKey k e = false) (kb : Blk w2 w.heap.size 30 #[.int .i64 k.1, .int .i64 k.2.1, .string k.2.2]) (vb : Blk w2 (w.heap.size + 1) 30 #[.int .i64 v.1, .int .i64 v.2.1, .string v.2.2]) :
    PutM T k v (cp es) (cs.map (curF es)) O w w2 := by
  have hS : TabS w2 T lv sv cv es sl cs O := ⟨ht, h.core, h.slotN, h.load, h.room, h.at_, h.keyS⟩
  refine ⟨⟨lv, sv, cv, es, sl, cs, hS.widen (fun k hk => .inl hk) (fun k hk => ?_), rfl, rfl, hl, fun x hx => ?_⟩, hu, kb, vb, hT⟩
  · rcases hk with hk | ⟨_, hk⟩
    · exact ht.oLt k hk
    · exact hk
  · obtain ⟨i, hi⟩ := List.getElem?_of_mem hx
    exact hno i x hi

theorem put_reh {w w2 w5 : World} {T : Nat} {lv sv cv : Value} {es : List Ent} {sl : List Nat} {cs D : List (Nat × Nat)} {O : Nat → Prop} {k v : K3} (h : TabS w5 T lv sv cv (cp es) sl cs (Og O w2 w5)) (hl : 4 * ((cp es).length + 1) ≤ sl.length) (hD : cs.map (curF (cp es)) = D) (hu5 : Upd w2 w5 O) (hu : Upd w w2 O) (hT : T < w.heap.size)
    (hO : ∀ k, O k → k < w.heap.size) (hno : ∀ (j : Nat) (e : Ent), es[j]? = some e → isKey k e = false) (kb : Blk w2 w.heap.size 30 #[.int .i64 k.1, .int .i64 k.2.1, .string k.2.2]) (vb : Blk w2 (w.heap.size + 1) 30 #[.int .i64 v.1, .int .i64 v.2.1, .string v.2.2]) :
    PutM T k v (cp es) D O w w5 := by
  refine ⟨⟨lv, sv, cv, cp es, sl, cs, h.widen (fun k hk => ?_) (fun k hk => ?_), cp_cp es, hD, by omega, fun x hx => ?_⟩, hu.trans hu5, hu5.blk kb (fun h => by have := hO _ h; omega), hu5.blk vb (fun h => by have := hO _ h; omega), hT⟩
  · rcases hk with hk | ⟨h1, h2⟩
    · exact .inl hk
    · exact .inr ⟨Nat.le_trans hu.size h1, h2⟩
  · rcases hk with hk | ⟨_, hk⟩
    · exact h.tab.oLt k (.inl hk)
    · exact hk
  · obtain ⟨i, hi⟩ := List.getElem?_of_mem (mem_cp hx).1
    exact hno i x hi

theorem put_set {w wc w8 w7 W : World} {O : Nat → Prop} {g i : Nat} {u : Value} (h : Upd w W O) (hg : Og (Og O w wc) w8 w7 g) (h2 : w.heap.size ≤ w8.heap.size) : Upd w (W.setCell ⟨g, i, none⟩ u) O :=
  ((h.mono (fun k _ h => Or.inl (Or.inl h)) : Upd w W (Og (Og O w wc) w8 w7)).set g i u hg).mono (fun k hk hk2 => by
    rcases hk2 with (hk2 | ⟨h3, _⟩) | ⟨h3, _⟩
    · exact hk2
    · exact absurd hk (by omega)
    · exact absurd hk (by omega))

/-- Put's end, where the key was not there. -/
theorem put_end {w wc w8 w7 wx : World} {T : Nat} {A : List Ent} {D : List (Nat × Nat)} {O : Nat → Prop} {k v : K3} {f : Int} (h1 : w.heap.size ≤ wc.heap.size) (h2 : wc.heap.size ≤ w8.heap.size)
    (h : TabA wx T (putA k v f A) D (Og (Og O w wc) w8 w7)) (hu : Upd w wx O) (hO : ∀ k, O k → k < w.heap.size) : PutP T k v f A D O w (.returned (.tuple #[])) wx := by
  refine ⟨rfl, h.widen (fun k hk => ?_) (fun k hk => ?_), hu⟩
  · have := h.lt k hk
    rcases hk with (hk | ⟨h3, _⟩) | ⟨h3, _⟩
    · exact .inl hk
    · exact .inr ⟨h3, this⟩
    · exact .inr ⟨Nat.le_trans (Nat.le_trans h1 h2) h3, this⟩
  · rcases hk with hk | ⟨_, hk⟩
    · exact Nat.lt_of_lt_of_le (hO k hk) hu.size
    · exact hk

end Go.Proofs.YtdeboajjhpecbaaGreatDoor
