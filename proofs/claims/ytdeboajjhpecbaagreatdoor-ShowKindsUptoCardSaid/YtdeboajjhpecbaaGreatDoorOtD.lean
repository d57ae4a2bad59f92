/- OtD: several texts in one. -/
import Derived.Test.YtdeboajjhpecbaaGreatDoorOtB
import Derived.BigRegion
import Derived.Lib.SmallJoins
import Derived.ChangeAlike
/- Contract of rehash: without graves, with room for as many again. -/
set_option linter.unusedVariables false
set_option linter.unusedSimpArgs false
namespace Go.Proofs.YtdeboajjhpecbaaGreatDoor
open Go.RowKit

theorem infoEnt : (Tryz.prog.info? 173).map (fun i => (i.zero, i.size, i.bytes)) = some (some (.agg #[.int .i64 0, .int .i64 0, .string ⟨#[]⟩, .int .i64 0, .int .i64 0, .string ⟨#[]⟩, .int .i64 0, .bool false]), 8, 80) := by kernel_rfl
theorem infoInt2 : (Tryz.prog.info? 3).map (fun i => (i.zero, i.size, i.bytes)) = some (some (.int .i64 0), 1, 8) := by kernel_rfl
abbrev VEnt (e : Ent) : Value := .agg #[.int .i64 e.key.1, .int .i64 e.key.2.1, .string e.key.2.2, .int .i64 e.val.1, .int .i64 e.val.2.1, .string e.val.2.2, .int .i64 e.flags, .bool e.grave]

abbrev EO (e : Ent) : Obj := .cells #[.int .i64 e.key.1, .int .i64 e.key.2.1, .string e.key.2.2, .int .i64 e.val.1, .int .i64 e.val.2.1, .string e.val.2.2, .int .i64 e.flags, .bool e.grave] 173

theorem cp_snoc (l : List Ent) (k : Nat) (e : Ent) (he : l[k]? = some e) : cp (l.take (k + 1)) = if e.grave then cp (l.take k) else cp (l.take k) ++ [e] := by
  obtain ⟨hk, he'⟩ := List.getElem?_eq_some_iff.1 he
  rw [List.take_succ_eq_append_getElem hk, cp_append, he']
  cases hg : e.grave <;> simp [cp, hg]
theorem entsC_append (l m : List Ent) : entsC (l ++ m) = entsC l ++ entsC m := by simp [entsC]

/-- The places of entries when graves are gone: those that are known. -/
def places (es : List Ent) (n k : Nat) : List Value := (List.range n).map (fun i => natC (if i < k then cnt es i else 0))
theorem places_set (es : List Ent) (n k : Nat) (hk : k < n) : (places es n k).set k (natC (cnt es k)) = places es n (k + 1) := by
  apply List.ext_getElem?
  intro i
  rw [List.getElem?_set, places, places, List.length_map, List.length_range, List.getElem?_map, List.getElem?_map]
  by_cases h : k = i
  · subst h; rw [if_pos rfl, if_pos hk, List.getElem?_range hk]; simp
  · rw [if_neg h]
    rcases Nat.lt_or_ge i n with h1 | h1
    · rw [List.getElem?_range h1]
      simp only [Option.map_some]
      rcases Nat.lt_or_ge i k with h2 | h2
      · rw [if_pos h2, if_pos (by omega)]
      · rw [if_neg (by omega), if_neg (by omega)]
    · rw [List.getElem?_eq_none (by simp; exact h1)]; rfl
theorem places_zero (es : List Ent) (n : Nat) : places es n 0 = List.replicate n (.int .i64 0) := by
  apply List.ext_getElem?
  intro i
  rw [places, List.getElem?_map, List.getElem?_replicate]
  rcases Nat.lt_or_ge i n with h1 | h1
  · rw [List.getElem?_range h1, if_pos h1]; rfl
  · rw [List.getElem?_eq_none (by simp; exact h1), if_neg (by omega)]; rfl
theorem places_get (es : List Ent) (n k i : Nat) (hi : i < n) (hk : i < k) : (places es n k)[i]? = some (.int .i64 (cnt es i : Int)) := by
  rw [places, List.getElem?_map, List.getElem?_range hi, Option.map_some, if_pos hk]; rfl

/-- What rehash's first loop comes to: the entries that are there, and their places. -/
structure R1 (w : World) (P n : Nat) (es : List Ent) (k : Nat) (v : Value) (wr : World) : Prop where
  row : wr.ownsRow w.heap.size 173 8 v (cnt es k) (entsC (cp (es.take k)))
  plc : wr.ownsRow w.heap.size 3 1 (.slice (some ⟨P, 0, none⟩) n n) n (places es n k)
  below : Below w.heap.size w wr

/-- A cursor's place when graves are gone. -/
def curF (es : List Ent) (c : Nat × Nat) : Nat × Nat := (c.1, cnt es c.2)
/-- What rehash's second loop comes to. -/
structure R2 (w : World) (P : Nat) (T : Nat) (lv sv cv : Value) (es : List Ent) (sl : List Nat) (live : Nat) (cs : List (Nat × Nat)) (O : Nat → Prop) (v : Value) (k : Nat) (wr : World) : Prop where
  tab : TabV wr T lv sv cv es sl live ((cs.take k).map (curF es) ++ cs.drop k) O
  row : wr.ownsRow w.heap.size 173 8 v (cp es).length (entsC (cp es))
  plc : wr.ownsRow w.heap.size 3 1 (.slice (some ⟨P, 0, none⟩) (es.length + 1) (es.length + 1)) (es.length + 1) (places es (es.length + 1) (es.length + 1))
  upd : Upd w wr O

theorem cur_next (es : List Ent) (cs : List (Nat × Nat)) (k : Nat) (c : Nat × Nat) (hc : cs[k]? = some c) : (cs.take (k + 1)).map (curF es) ++ cs.drop (k + 1) = ((cs.take k).map (curF es) ++ cs.drop k).set k (curF es c) := by
  obtain ⟨hk, hc'⟩ := List.getElem?_eq_some_iff.1 hc
  rw [List.take_succ_eq_append_getElem hk, List.map_append, List.drop_eq_getElem_cons hk, hc', List.set_append_right _ _ (by simp; omega), List.append_assoc]
  have : k - ((cs.take k).map (curF es)).length = 0 := by simp; omega
  rw [this]; rfl
theorem cur_at (es : List Ent) (cs : List (Nat × Nat)) (k : Nat) (c : Nat × Nat) (hc : cs[k]? = some c) : ((cs.take k).map (curF es) ++ cs.drop k)[k]? = some c := by
  obtain ⟨hk, hc'⟩ := List.getElem?_eq_some_iff.1 hc
  rw [List.getElem?_append_right (by simp; omega)]
  have : k - ((cs.take k).map (curF es)).length = 0 := by simp; omega
  rw [this, List.getElem?_drop, Nat.add_zero, hc]

theorem nodup_at {l : List Nat} (h : l.Nodup) {i j x : Nat} (hi : l[i]? = some x) (hj : l[j]? = some x) : i = j := by
  obtain ⟨l1, g1⟩ := List.getElem?_eq_some_iff.1 hi
  obtain ⟨l2, g2⟩ := List.getElem?_eq_some_iff.1 hj
  have hp := List.pairwise_iff_getElem.1 h
  rcases Nat.lt_trichotomy i j with a | a | a
  · exact absurd (g1.trans g2.symm) (hp i j l1 l2 a)
  · exact a
  · exact absurd (g2.trans g1.symm) (hp j i l2 l1 a)

/-- A cursor elsewhere. -/
theorem TabV.setCur {w : World} {T : Nat} {lv sv cv : Value} {es : List Ent} {sl : List Nat} {live : Nat} {cs : List (Nat × Nat)} {O : Nat → Prop} (h : TabV w T lv sv cv es sl live cs O) (k : Nat) (c : Nat × Nat) (hc : cs[k]? = some c) (a : Nat) :
    TabV (w.setCell ⟨c.1, 1, none⟩ (.int .i64 (a : Int))) T lv sv cv es sl live (cs.set k (c.1, a)) O := by
  have hmem : c ∈ cs := List.mem_of_getElem? hc
  have hcb := h.cur c hmem
  obtain ⟨hk, hc'⟩ := List.getElem?_eq_some_iff.1 hc
  have hmap : (cs.set k (c.1, a)).map Prod.fst = cs.map Prod.fst := by
    rw [List.map_set]
    apply List.ext_getElem?
    intro i
    rw [List.getElem?_set]
    split
    · rename_i e; subst e; rw [if_pos (by simpa using hk), List.getElem?_map, hc]; rfl
    · rfl
  have hmap2 : (cs.set k (c.1, a)).map curC = cs.map curC := by
    have e : ∀ l : List (Nat × Nat), l.map curC = (l.map Prod.fst).map (fun g => .pointer (some ⟨g, 0, none⟩)) := fun l => by rw [List.map_map]; rfl
    rw [e, e, hmap]
  refine ⟨h.blk.far (h.blk.ne_ hcb (by decide)) _, own_set h.ents hcb (by decide) _ _, own_set h.slots hcb (by decide) _ _, ?_, fun d hd => ?_, by rw [hmap]; exact h.nodup, h.oT, h.oL, h.oS, h.oC, fun d hd => ?_, fun x hx => by have := h.oLt x hx; simpa using this⟩
  · rw [hmap2, List.length_set]; exact own_set h.curs hcb (by decide) _ _
  · obtain ⟨i, hi⟩ := List.getElem?_of_mem hd
    rw [List.getElem?_set] at hi
    split at hi
    · obtain rfl := Option.some.inj hi
      exact hcb.set_ 1 _
    · rename_i hki
      have hne : d.1 ≠ c.1 := by
        intro e
        have h1 : (cs.map Prod.fst)[i]? = some c.1 := by rw [List.getElem?_map, hi]; simp [e]
        have h2 : (cs.map Prod.fst)[k]? = some c.1 := by rw [List.getElem?_map, hc]; rfl
        exact hki (nodup_at h.nodup h2 h1)
      exact (h.cur d (List.mem_of_getElem? hi)).far hne _
  · have : d.1 ∈ (cs.set k (c.1, a)).map Prod.fst := List.mem_map_of_mem hd
    rw [hmap] at this
    obtain ⟨d', hd', he⟩ := List.mem_map.1 this
    rw [← he]; exact h.oc d' hd'

theorem ownB0 {w : World} {B size n : Nat} {e : TypeId} {v : Value} {xs : List Value} (h : w.ownsRow B e size v n xs) : w.ownsRow 0 e size v n xs :=
  ⟨h.1, h.2.imp id (fun ⟨g, cap, cur, a, _, c⟩ => ⟨g, cap, cur, a, Nat.zero_le _, c⟩)⟩

/-- The blocks that are a table's own behind a call. -/
def Og (O : Nat → Prop) (w w' : World) : Nat → Prop := fun k => O k ∨ (w.heap.size ≤ k ∧ k < w'.heap.size)
/-- What rehash comes to. -/
def RehP (T : Nat) (cv : Value) (es : List Ent) (live : Nat) (cs : List (Nat × Nat)) (O : Nat → Prop) (w : World) (e : Ending) (w' : World) : Prop :=
  ∃ (lv' sv' : Value) (sl' : List Nat), e = .returned (.tuple #[]) ∧ TabV w' T lv' sv' cv (cp es) sl' live (cs.map (curF es)) (Og O w w') ∧ Core (cp es) sl' ∧ SlotN sl'.length ∧ 4 * ((cp es).length + 1) ≤ sl'.length ∧ sl'.length ≤ 65536 ∧ Upd w w' O

/-- What rehash's last loop begins with. -/
theorem r3_fin {w wr W : World} {P T M cap3 q : Nat} {A3 : Option Addr} {lv sv cv sv' : Value} {es : List Ent} {sl : List Nat} {live : Nat} {cs : List (Nat × Nat)} {O : Nat → Prop} (hx : R2 w P T lv sv cv es sl live cs O (.slice A3 M cap3) cs.length wr)
    (hblk : Blk W T 117 #[.slice A3 M cap3, sv', .int .i64 (live : Int), cv]) (hup : Upd wr W (fun x => x = T)) (hsl : W.ownsRow w.heap.size 3 1 sv' q ((List.replicate q 0).map natC)) :
    TabV W T (.slice A3 M cap3) sv' cv (cp es) (List.replicate q 0) live (cs.map (curF es)) (fun x => O x ∨ (w.heap.size ≤ x ∧ x < W.heap.size)) ∧ Upd w W O := by
  have ht := hx.tab
  rw [List.take_length, List.drop_length, List.append_nil] at ht
  have hT := ht.blk
  have r1 := hup.own hx.row (fun k hk e => own_blk_ne hx.row hT (by decide) (by rw [← e]; exact hk))
  have r2 := hup.own ht.curs (fun k hk e => own_blk_ne ht.curs hT (by decide) (by rw [← e]; exact hk))
  have hsz := hup.size
  refine ⟨⟨hblk, ownB0 r1, by rw [List.length_replicate]; exact ownB0 hsl, r2, fun c hc => hup.blk (ht.cur c hc) ((ht.cur c hc).ne_ hT (by decide)), ht.nodup, .inl ht.oT, fun g hg => ?_, fun g hg => ?_, fun g hg => .inl (ht.oC g hg), fun c hc => .inl (ht.oc c hc), fun k hk => ?_⟩, ?_⟩
  · have := r1.lt g hg; exact .inr this
  · have := hsl.lt g hg; exact .inr this
  · rcases hk with hk | ⟨_, hk⟩
    · exact Nat.lt_of_lt_of_le (ht.oLt k hk) hsz
    · exact hk
  · exact hx.upd.trans (hup.mono (fun k _ hk => by subst hk; exact ht.oT))

/-- What rehash's last loop comes to. -/
structure R4 (w wc : World) (T : Nat) (lv sv cv : Value) (l : List Ent) (q : Nat) (live : Nat) (cs : List (Nat × Nat)) (O O1 : Nat → Prop) (j : Nat) (wr : World) : Prop where
  ex : ∃ sl' : List Nat, sl'.length = q ∧ Core (l.take j) sl' ∧ TabV wr T lv sv cv l sl' live cs O1
  upd : Upd w wr O
  size : wc.heap.size ≤ wr.heap.size

/-- The numbers of slots that rehash goes over. -/
def PowN (M q : Nat) : Prop := ∃ p, 3 ≤ p ∧ p ≤ 16 ∧ q = 2 ^ p ∧ (p = 3 ∨ q < 8 * (M + 1))
theorem powN_start (M : Nat) : PowN M 8 := ⟨3, by decide, by decide, rfl, .inl rfl⟩
theorem powN_step {M q : Nat} (h : PowN M q) (hq : q < 4 * (M + 1)) (hM : M ≤ 5000) : PowN M (q * 2) := by
  obtain ⟨p, h1, h2, rfl, h4⟩ := h
  refine ⟨p + 1, by omega, ?_, by rw [Nat.pow_succ], .inr (by omega)⟩
  have h5 : 2 ^ p < 2 ^ 15 := Nat.lt_of_lt_of_le hq (by omega)
  have := (Nat.pow_lt_pow_iff_right (a := 2) (by decide)).1 h5
  omega
theorem powN_bd {M q : Nat} (h : PowN M q) : 8 ≤ q ∧ q ≤ 65536 ∧ SlotN q := by
  obtain ⟨p, h1, h2, rfl, _⟩ := h
  exact ⟨Nat.pow_le_pow_right (n := 2) (by decide) h1, Nat.pow_le_pow_right (n := 2) (by decide) h2, .inr ⟨p, h1, by omega, rfl⟩⟩

theorem powN_meas {M q : Nat} (h : PowN M q) (h' : PowN M (q * 2)) : 131072 - ((q : Int) * 2).toNat < 131072 - ((q : Int)).toNat := by
  have := (powN_bd h).1
  have := (powN_bd h').2.1
  omega

theorem meas_up {j M : Nat} (h : j < M) : M - (intOf (.int .i64 ((j : Int) + 1))).toNat < M - (intOf (.int .i64 (j : Int))).toNat := by
  simp only [intOf]; omega

/-- 'make([]T, n)' at a step of a region that draws its order. -/
theorem step_make_full {P : Program} (w : World) {ops : Array Oper} {o : Oper} {a : Act} {K : Act → World → Prop} {Q : Exit → Act → World → Prop} {E : Prop} (hgd : o.guard = none) (l c : Operand) (t : TypeId) (hop : o.op = Op.makeSlice t l c)
    (base : Nat) (e : TypeId) (i : TypeInfo) (z : Value) (size : Nat) (h1 : P.underlying t = some (.slice e)) (h2 : P.info? e = some i) (h3 : i.zero = some z) (h4 : i.size = size)
    (kl kc : IntKind) (L C : Int) (n : Nat) (hl : a.eval l = .int kl L) (hc : a.eval c = .int kc C) (hL : L = (n : Int)) (hC : C = (n : Int)) (b2 : i.bytes * n ≤ 281474976710656) (b3 : n ≤ maxLen) (b4 : base ≤ w.heap.size)
    (hK : ∀ w', w'.ownsRow base e size (.slice (some ⟨w.heap.size, 0, none⟩) n n) n (madeCells z.cells (n * size)).toList → w.grownBy w' none → K (a.put o.dst (.slice (some ⟨w.heap.size, 0, none⟩) n n)) w') :
    if Region.wanted o (yielded ops a.tmps) = true then Oper.wp P o a w K Q else E := by
  have hw : Region.wanted o (yielded ops a.tmps) = true := by simp [Region.wanted, hgd]
  rw [if_pos hw]
  obtain ⟨w', hrun, r1, r2⟩ := run_make_full (P := P) w base t e i z size h1 h2 h3 h4 kl kc n b2 b3 b4
  subst hL
  subst hC
  unfold Oper.wp
  simp [execOp, hop, hl, hc, hrun, Result.andThen]
  exact hK w' r1 r2

end Go.Proofs.YtdeboajjhpecbaaGreatDoor

/- What a table has, told by what is there; contracts of the small methods. -/
set_option linter.unusedVariables false
set_option linter.unusedSimpArgs false
namespace Go.Proofs.YtdeboajjhpecbaaGreatDoor
open Go.RowKit Go.Sort

/-- A table whose slots serve, with room in bounds. -/
structure TabS (w : World) (T : Nat) (lv sv cv : Value) (es : List Ent) (sl : List Nat) (cs : List (Nat × Nat)) (O : Nat → Prop) : Prop where
  tab : TabV w T lv sv cv es sl (cp es).length cs O
  core : Core es sl
  slotN : SlotN sl.length
  load : 2 * es.length ≤ sl.length
  room : es.length ≤ max (8 + (cp es).length) (4 * (cp es).length + 4)
  at_ : ∀ c ∈ cs, c.2 ≤ es.length
  keyS : ∀ e ∈ es, e.key.2.2.size ≤ 4000

/-- A table as its entries in order (A) and its open cursors, each with how many entries it has passed (D). -/
def TabA (w : World) (T : Nat) (A : List Ent) (D : List (Nat × Nat)) (O : Nat → Prop) : Prop :=
  ∃ lv sv cv es sl cs, TabS w T lv sv cv es sl cs O ∧ cp es = A ∧ cs.map (curF es) = D

theorem TabS.upd {w w' : World} {T : Nat} {lv sv cv : Value} {es : List Ent} {sl : List Nat} {cs : List (Nat × Nat)} {O M : Nat → Prop} (h : TabS w T lv sv cv es sl cs O) (u : Upd w w' M) (hM : ∀ k, O k → ¬ M k) : TabS w' T lv sv cv es sl cs O :=
  ⟨h.tab.upd u hM, h.core, h.slotN, h.load, h.room, h.at_, h.keyS⟩
theorem TabA.upd {w w' : World} {T : Nat} {A : List Ent} {D : List (Nat × Nat)} {O M : Nat → Prop} (h : TabA w T A D O) (u : Upd w w' M) (hM : ∀ k, O k → ¬ M k) : TabA w' T A D O := by
  obtain ⟨lv, sv, cv, es, sl, cs, hs, h1, h2⟩ := h
  exact ⟨lv, sv, cv, es, sl, cs, hs.upd u hM, h1, h2⟩
theorem TabA.below {w w' : World} {T : Nat} {A : List Ent} {D : List (Nat × Nat)} {O : Nat → Prop} (h : TabA w T A D O) (b : Below w.heap.size w w') : TabA w' T A D O := by
  obtain ⟨lv, sv, cv, es, sl, cs, hs, h1, h2⟩ := h
  exact ⟨lv, sv, cv, es, sl, cs, ⟨hs.tab.below b, hs.core, hs.slotN, hs.load, hs.room, hs.at_, hs.keyS⟩, h1, h2⟩
theorem TabA.lt {w : World} {T : Nat} {A : List Ent} {D : List (Nat × Nat)} {O : Nat → Prop} (h : TabA w T A D O) : ∀ k, O k → k < w.heap.size := by
  obtain ⟨lv, sv, cv, es, sl, cs, hs, h1, h2⟩ := h
  exact hs.tab.oLt
theorem TabA.widen {w : World} {T : Nat} {A : List Ent} {D : List (Nat × Nat)} {O O' : Nat → Prop} (h : TabA w T A D O) (h1 : ∀ k, O k → O' k) (h2 : ∀ k, O' k → k < w.heap.size) : TabA w T A D O' := by
  obtain ⟨lv, sv, cv, es, sl, cs, hs, g1, g2⟩ := h
  exact ⟨lv, sv, cv, es, sl, cs, ⟨hs.tab.widen h1 h2, hs.core, hs.slotN, hs.load, hs.room, hs.at_, hs.keyS⟩, g1, g2⟩

set_option maxHeartbeats 1000000 in
theorem new_any (w : World) : Calls Tryz.prog 25 #[] w fun e w' => e = .returned (.pointer (some ⟨w.heap.size, 0, none⟩)) ∧ Below w.heap.size w w' ∧ TabA w' w.heap.size [] [] (fun k => k = w.heap.size) := by
  go_enter Tryz.func25, Tryz.ntmps25
  go_wp2
  go_ret
  refine ⟨rfl, (Below.refl _ _).alloc (Nat.le_refl _) _, .slice none 0 0, .slice none 0 0, .slice none 0 0, [], [], [], ⟨?_, by simpa using Core.nil 0, .inl rfl, Nat.le_refl _, Nat.zero_le _, fun c hc => (by cases hc), fun e he => (by cases he)⟩, rfl, rfl⟩
  exact ⟨Blk.new w _ _, World.ownsRow_nil _ _ _ _, World.ownsRow_nil _ _ _ _, World.ownsRow_nil _ _ _ _, fun c hc => (by cases hc), List.nodup_nil, rfl, fun g hg => (by simp [Value.ownBlock] at hg), fun g hg => (by simp [Value.ownBlock] at hg), fun g hg => (by simp [Value.ownBlock] at hg), fun c hc => (by cases hc), fun k hk => (by subst hk; simp)⟩

/-- What Storage tells. -/
def StoP (A : List Ent) (D : List (Nat × Nat)) (w : World) (e : Ending) (w' : World) : Prop := ∃ n : Nat, e = .returned (.int .i64 (n : Int)) ∧ n ≤ max (8 + A.length) (4 * A.length + 4) + D.length ∧ ∃ m, w' = w.drewN m
theorem infoPC : (Tryz.prog.info? 80).map (fun i => (i.zero, i.size, i.bytes)) = some (some (.pointer none), 1, 8) := by kernel_rfl

theorem next_news (w : World) (o : Obj) (x : Value) (t : TypeId) : ∀ j u, [x][j]? = some u → ((w.alloc o).alloc (.cells #[x] t)).cell? ((⟨w.heap.size + 1, 0, none⟩ : Addr).add j) = some u := by
  have h : ((w.alloc o).alloc (.cells #[x] t)).heap[w.heap.size + 1]? = some (.cells #[x] t (0, 0)) := by
    have := heap_alloc_new (w.alloc o) (.cells #[x] t)
    rwa [World.size_alloc] at this
  exact World.news_of_block (cs := #[x]) (t := t) (fr := (0, 0)) h

/-- The cursors' row anew. -/
theorem tab_setCv {W : World} {T : Nat} {lv sv cv cv' : Value} {es : List Ent} {sl : List Nat} {live : Nat} {cs' : List (Nat × Nat)} {O' : Nat → Prop} (hb : Blk W T 117 #[lv, sv, .int .i64 (live : Int), cv])
    (he : W.ownsRow 0 173 8 lv es.length (entsC es)) (hs : W.ownsRow 0 3 1 sv sl.length (sl.map natC)) (hc : W.ownsRow 0 80 1 cv' cs'.length (cs'.map curC))
    (hcur : ∀ c ∈ cs', Blk W c.1 241 #[.pointer (some ⟨T, 0, none⟩), .int .i64 (c.2 : Int)]) (hn : (cs'.map Prod.fst).Nodup) (oT : O' T) (oL : ∀ g, lv.ownBlock = some g → O' g) (oS : ∀ g, sv.ownBlock = some g → O' g)
    (oC : ∀ g, cv'.ownBlock = some g → O' g) (oc : ∀ c ∈ cs', O' c.1) (oLt : ∀ k, O' k → k < W.heap.size) : TabV (W.setCell ⟨T, 3, none⟩ cv') T lv sv cv' es sl live cs' O' :=
  ⟨hb.set_ 3 _, own_set he hb (by decide) _ _, own_set hs hb (by decide) _ _, own_set hc hb (by decide) _ _, fun c hc' => (hcur c hc').far ((hcur c hc').ne_ hb (by decide)) _, hn, oT, oL, oS, oC, oc, fun k hk => by have := oLt k hk; simpa using this⟩

/-- What Cursor comes to. -/
def CurP (T : Nat) (A : List Ent) (D : List (Nat × Nat)) (O : Nat → Prop) (w : World) (e : Ending) (w' : World) : Prop :=
  e = .returned (.pointer (some ⟨w.heap.size, 0, none⟩)) ∧ TabA w' T A (D ++ [(w.heap.size, 0)]) (Og O w w') ∧ Upd w w' O ∧ w.heap.size < w'.heap.size

end Go.Proofs.YtdeboajjhpecbaaGreatDoor
