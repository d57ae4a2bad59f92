/- Contract of rehash: without graves, with room for as many again. -/
import Derived.Test.YtdeboajjhpecbaaDoorOtB
import Derived.BigRegion
import Derived.Lib.SmallJoins
import Derived.ChangeAlike
set_option linter.unusedVariables false
set_option linter.unusedSimpArgs false
namespace Go.Proofs.YtdeboajjhpecbaaDoor
open Go.RowKit

theorem infoEnt : (Tryd.prog.info? 126).map (fun i => (i.zero, i.size, i.bytes)) = some (some (.agg #[.int .i64 0, .int .i64 0, .string ⟨#[]⟩, .int .i64 0, .int .i64 0, .string ⟨#[]⟩, .int .i64 0, .bool false]), 8, 80) := by kernel_rfl
theorem infoInt2 : (Tryd.prog.info? 3).map (fun i => (i.zero, i.size, i.bytes)) = some (some (.int .i64 0), 1, 8) := by kernel_rfl
abbrev VEnt (e : Ent) : Value := .agg #[.int .i64 e.key.1, .int .i64 e.key.2.1, .string e.key.2.2, .int .i64 e.val.1, .int .i64 e.val.2.1, .string e.val.2.2, .int .i64 e.flags, .bool e.grave]

abbrev EO (e : Ent) : Obj := .cells #[.int .i64 e.key.1, .int .i64 e.key.2.1, .string e.key.2.2, .int .i64 e.val.1, .int .i64 e.val.2.1, .string e.val.2.2, .int .i64 e.flags, .bool e.grave] 126

theorem cp_snoc (l : List Ent) (k : Nat) (e : Ent) (he : l[k]? = some e) : cp (l.take (k + 1)) = if e.grave then cp (l.take k) else cp (l.take k) ++ [e] := by
  obtain ⟨hk, he'⟩ := List.getElem?_eq_some_iff.1 he
  rw [List.take_succ_eq_append_getElem hk, cp_append, he']
  cases hg : e.grave <;> simp [cp, hg]
theorem entsC_append (l m : List Ent) : entsC (l ++ m) = entsC l ++ entsC m := by simp [entsC]

/-- The places of entries when graves are gone: those that are known. -/
def places (es : List Ent) (n k : Nat) : List Value := (List.range n).map (fun i => natC (if i < k then cnt es i else 0))
theorem places_set (es : List Ent) (n k : Nat) (hk : k < n) : (places es n k).set k (natC (cnt es k)) = places es n (k + 1) := by
  apply List.ext_getElem?
  intro i
  rw [List.getElem?_set, places, places, List.length_map, List.length_range, List.getElem?_map, List.getElem?_map]
  by_cases h : k = i
  · subst h; rw [if_pos rfl, if_pos hk, List.getElem?_range hk]; simp
  · rw [if_neg h]
    rcases Nat.lt_or_ge i n with h1 | h1
    · rw [List.getElem?_range h1]
      simp only [Option.map_some]
      rcases Nat.lt_or_ge i k with h2 | h2
      · rw [if_pos h2, if_pos (by omega)]
      · rw [if_neg (by omega), if_neg (by omega)]
    · rw [List.getElem?_eq_none (by simp; exact h1)]; rfl
theorem places_zero (es : List Ent) (n : Nat) : places es n 0 = List.replicate n (.int .i64 0) := by
  apply List.ext_getElem?
  intro i
  rw [places, List.getElem?_map, List.getElem?_replicate]
  rcases Nat.lt_or_ge i n with h1 | h1
  · rw [List.getElem?_range h1, if_pos h1]; rfl
  · rw [List.getElem?_eq_none (by simp; exact h1), if_neg (by omega)]; rfl
theorem places_get (es : List Ent) (n k i : Nat) (hi : i < n) (hk : i < k) : (places es n k)[i]? = some (.int .i64 (cnt es i : Int)) := by
  rw [places, List.getElem?_map, List.getElem?_range hi, Option.map_some, if_pos hk]; rfl

/-- What rehash's first loop comes to: the entries that are there, and their places. -/
structure R1 (w : World) (P n : Nat) (es : List Ent) (k : Nat) (v : Value) (wr : World) : Prop where
  row : wr.ownsRow w.heap.size 126 8 v (cnt es k) (entsC (cp (es.take k)))
  plc : wr.ownsRow w.heap.size 3 1 (.slice (some ⟨P, 0, none⟩) n n) n (places es n k)
  below : Below w.heap.size w wr

/-- A cursor's place when graves are gone. -/
def curF (es : List Ent) (c : Nat × Nat) : Nat × Nat := (c.1, cnt es c.2)
/-- What rehash's second loop comes to. -/
structure R2 (w : World) (P : Nat) (T : Nat) (lv sv cv : Value) (es : List Ent) (sl : List Nat) (live : Nat) (cs : List (Nat × Nat)) (O : Nat → Prop) (v : Value) (k : Nat) (wr : World) : Prop where
  tab : TabV wr T lv sv cv es sl live ((cs.take k).map (curF es) ++ cs.drop k) O
  row : wr.ownsRow w.heap.size 126 8 v (cp es).length (entsC (cp es))
  plc : wr.ownsRow w.heap.size 3 1 (.slice (some ⟨P, 0, none⟩) (es.length + 1) (es.length + 1)) (es.length + 1) (places es (es.length + 1) (es.length + 1))
  upd : Upd w wr O

theorem cur_next (es : List Ent) (cs : List (Nat × Nat)) (k : Nat) (c : Nat × Nat) (hc : cs[k]? = some c) : (cs.take (k + 1)).map (curF es) ++ cs.drop (k + 1) = ((cs.take k).map (curF es) ++ cs.drop k).set k (curF es c) := by
  obtain ⟨hk, hc'⟩ := List.getElem?_eq_some_iff.1 hc
  rw [List.take_succ_eq_append_getElem hk, List.map_append, List.drop_eq_getElem_cons hk, hc', List.set_append_right _ _ (by simp; omega), List.append_assoc]
  have : k - ((cs.take k).map (curF es)).length = 0 := by simp; omega
  rw [this]; rfl
theorem cur_at (es : List Ent) (cs : List (Nat × Nat)) (k : Nat) (c : Nat × Nat) (hc : cs[k]? = some c) : ((cs.take k).map (curF es) ++ cs.drop k)[k]? = some c := by
  obtain ⟨hk, hc'⟩ := List.getElem?_eq_some_iff.1 hc
  rw [List.getElem?_append_right (by simp; omega)]
  have : k - ((cs.take k).map (curF es)).length = 0 := by simp; omega
  rw [this, List.getElem?_drop, Nat.add_zero, hc]

theorem nodup_at {l : List Nat} (h : l.Nodup) {i j x : Nat} (hi : l[i]? = some x) (hj : l[j]? = some x) : i = j := by
  obtain ⟨l1, g1⟩ := List.getElem?_eq_some_iff.1 hi
  obtain ⟨l2, g2⟩ := List.getElem?_eq_some_iff.1 hj
  have hp := List.pairwise_iff_getElem.1 h
  rcases Nat.lt_trichotomy i j with a | a | a
  · exact absurd (g1.trans g2.symm) (hp i j l1 l2 a)
  · exact a
  · exact absurd (g2.trans g1.symm) (hp j i l2 l1 a)

/-- A cursor elsewhere. -/
theorem TabV.setCur {w : World} {T : Nat} {lv sv cv : Value} {es : List Ent} {sl : List Nat} {live : Nat} {cs : List (Nat × Nat)} {O : Nat → Prop} (h : TabV w T lv sv cv es sl live cs O) (k : Nat) (c : Nat × Nat) (hc : cs[k]? = some c) (a : Nat) :
    TabV (w.setCell ⟨c.1, 1, none⟩ (.int .i64 (a : Int))) T lv sv cv es sl live (cs.set k (c.1, a)) O := by
  have hmem : c ∈ cs := List.mem_of_getElem? hc
  have hcb := h.cur c hmem
  obtain ⟨hk, hc'⟩ := List.getElem?_eq_some_iff.1 hc
  have hmap : (cs.set k (c.1, a)).map Prod.fst = cs.map Prod.fst := by
    rw [List.map_set]
    apply List.ext_getElem?
    intro i
    rw [List.getElem?_set]
    split
    · rename_i e; subst e; rw [if_pos (by simpa using hk), List.getElem?_map, hc]; rfl
    · rfl
  have hmap2 : (cs.set k (c.1, a)).map curC = cs.map curC := by
    have e : ∀ l : List (Nat × Nat), l.map curC = (l.map Prod.fst).map (fun g => .pointer (some ⟨g, 0, none⟩)) := fun l => by rw [List.map_map]; rfl
    rw [e, e, hmap]
  refine ⟨h.blk.far (h.blk.ne_ hcb (by decide)) _, own_set h.ents hcb (by decide) _ _, own_set h.slots hcb (by decide) _ _, ?_, fun d hd => ?_, by rw [hmap]; exact h.nodup, h.oT, h.oL, h.oS, h.oC, fun d hd => ?_, fun x hx => by have := h.oLt x hx; simpa using this⟩
  · rw [hmap2, List.length_set]; exact own_set h.curs hcb (by decide) _ _
  · obtain ⟨i, hi⟩ := List.getElem?_of_mem hd
    rw [List.getElem?_set] at hi
    split at hi
    · obtain rfl := Option.some.inj hi
      exact hcb.set_ 1 _
    · rename_i hki
      have hne : d.1 ≠ c.1 := by
        intro e
        have h1 : (cs.map Prod.fst)[i]? = some c.1 := by rw [List.getElem?_map, hi]; simp [e]
        have h2 : (cs.map Prod.fst)[k]? = some c.1 := by rw [List.getElem?_map, hc]; rfl
        exact hki (nodup_at h.nodup h2 h1)
      exact (h.cur d (List.mem_of_getElem? hi)).far hne _
  · have : d.1 ∈ (cs.set k (c.1, a)).map Prod.fst := List.mem_map_of_mem hd
    rw [hmap] at this
    obtain ⟨d', hd', he⟩ := List.mem_map.1 this
    rw [← he]; exact h.oc d' hd'

theorem ownB0 {w : World} {B size n : Nat} {e : TypeId} {v : Value} {xs : List Value} (h : w.ownsRow B e size v n xs) : w.ownsRow 0 e size v n xs :=
  ⟨h.1, h.2.imp id (fun ⟨g, cap, cur, a, _, c⟩ => ⟨g, cap, cur, a, Nat.zero_le _, c⟩)⟩

/-- The blocks that are a table's own behind a call. -/
def Og (O : Nat → Prop) (w w' : World) : Nat → Prop := fun k => O k ∨ (w.heap.size ≤ k ∧ k < w'.heap.size)
/-- What rehash comes to. -/
def RehP (T : Nat) (cv : Value) (es : List Ent) (live : Nat) (cs : List (Nat × Nat)) (O : Nat → Prop) (w : World) (e : Ending) (w' : World) : Prop :=
  ∃ (lv' sv' : Value) (sl' : List Nat), e = .returned (.tuple #[]) ∧ TabV w' T lv' sv' cv (cp es) sl' live (cs.map (curF es)) (Og O w w') ∧ Core (cp es) sl' ∧ SlotN sl'.length ∧ 4 * ((cp es).length + 1) ≤ sl'.length ∧ sl'.length ≤ 65536 ∧ Upd w w' O

/-- What rehash's last loop begins with. -/
theorem r3_fin {w wr W : World} {P T M cap3 q : Nat} {A3 : Option Addr} {lv sv cv sv' : Value} {es : List Ent} {sl : List Nat} {live : Nat} {cs : List (Nat × Nat)} {O : Nat → Prop} (hx : R2 w P T lv sv cv es sl live cs O (.slice A3 M cap3) cs.length wr)
    (hblk : Blk W T 117 #[.slice A3 M cap3, sv', .int .i64 (live : Int), cv]) (hup : Upd wr W (fun x => x = T)) (hsl : W.ownsRow w.heap.size 3 1 sv' q ((List.replicate q 0).map natC)) :
    TabV W T (.slice A3 M cap3) sv' cv (cp es) (List.replicate q 0) live (cs.map (curF es)) (fun x => O x ∨ (w.heap.size ≤ x ∧ x < W.heap.size)) ∧ Upd w W O := by
  have ht := hx.tab
  rw [List.take_length, List.drop_length, List.append_nil] at ht
  have hT := ht.blk
  have r1 := hup.own hx.row (fun k hk e => own_blk_ne hx.row hT (by decide) (by rw [← e]; exact hk))
  have r2 := hup.own ht.curs (fun k hk e => own_blk_ne ht.curs hT (by decide) (by rw [← e]; exact hk))
  have hsz := hup.size
  refine ⟨⟨hblk, ownB0 r1, by rw [List.length_replicate]; exact ownB0 hsl, r2, fun c hc => hup.blk (ht.cur c hc) ((ht.cur c hc).ne_ hT (by decide)), ht.nodup, .inl ht.oT, fun g hg => ?_, fun g hg => ?_, fun g hg => .inl (ht.oC g hg), fun c hc => .inl (ht.oc c hc), fun k hk => ?_⟩, ?_⟩
  · have := r1.lt g hg; exact .inr this
  · have := hsl.lt g hg; exact .inr this
  · rcases hk with hk | ⟨_, hk⟩
    · exact Nat.lt_of_lt_of_le (ht.oLt k hk) hsz
    · exact hk
  · exact hx.upd.trans (hup.mono (fun k _ hk => by subst hk; exact ht.oT))

/-- What rehash's last loop comes to. -/
structure R4 (w wc : World) (T : Nat) (lv sv cv : Value) (l : List Ent) (q : Nat) (live : Nat) (cs : List (Nat × Nat)) (O O1 : Nat → Prop) (j : Nat) (wr : World) : Prop where
  ex : ∃ sl' : List Nat, sl'.length = q ∧ Core (l.take j) sl' ∧ TabV wr T lv sv cv l sl' live cs O1
  upd : Upd w wr O
  size : wc.heap.size ≤ wr.heap.size

/-- The numbers of slots that rehash goes over. -/
def PowN (M q : Nat) : Prop := ∃ p, 3 ≤ p ∧ p ≤ 16 ∧ q = 2 ^ p ∧ (p = 3 ∨ q < 8 * (M + 1))
theorem powN_start (M : Nat) : PowN M 8 := ⟨3, by decide, by decide, rfl, .inl rfl⟩
theorem powN_step {M q : Nat} (h : PowN M q) (hq : q < 4 * (M + 1)) (hM : M ≤ 5000) : PowN M (q * 2) := by
  obtain ⟨p, h1, h2, rfl, h4⟩ := h
  refine ⟨p + 1, by omega, ?_, by rw [Nat.pow_succ], .inr (by omega)⟩
  have h5 : 2 ^ p < 2 ^ 15 := Nat.lt_of_lt_of_le hq (by omega)
  have := (Nat.pow_lt_pow_iff_right (a := 2) (by decide)).1 h5
  omega
theorem powN_bd {M q : Nat} (h : PowN M q) : 8 ≤ q ∧ q ≤ 65536 ∧ SlotN q := by
  obtain ⟨p, h1, h2, rfl, _⟩ := h
  exact ⟨Nat.pow_le_pow_right (n := 2) (by decide) h1, Nat.pow_le_pow_right (n := 2) (by decide) h2, .inr ⟨p, h1, by omega, rfl⟩⟩

theorem powN_meas {M q : Nat} (h : PowN M q) (h' : PowN M (q * 2)) : 131072 - ((q : Int) * 2).toNat < 131072 - ((q : Int)).toNat := by
  have := (powN_bd h).1
  have := (powN_bd h').2.1
  omega

theorem meas_up {j M : Nat} (h : j < M) : M - (intOf (.int .i64 ((j : Int) + 1))).toNat < M - (intOf (.int .i64 (j : Int))).toNat := by
  simp only [intOf]; omega

/-- 'make([]T, n)' at a step of a region that draws its order. -/
theorem step_make_full {P : Program} (w : World) {ops : Array Oper} {o : Oper} {a : Act} {K : Act → World → Prop} {Q : Exit → Act → World → Prop} {E : Prop} (hgd : o.guard = none) (l c : Operand) (t : TypeId) (hop : o.op = Op.makeSlice t l c)
    (base : Nat) (e : TypeId) (i : TypeInfo) (z : Value) (size : Nat) (h1 : P.underlying t = some (.slice e)) (h2 : P.info? e = some i) (h3 : i.zero = some z) (h4 : i.size = size)
    (kl kc : IntKind) (L C : Int) (n : Nat) (hl : a.eval l = .int kl L) (hc : a.eval c = .int kc C) (hL : L = (n : Int)) (hC : C = (n : Int)) (b2 : i.bytes * n ≤ 281474976710656) (b3 : n ≤ maxLen) (b4 : base ≤ w.heap.size)
    (hK : ∀ w', w'.ownsRow base e size (.slice (some ⟨w.heap.size, 0, none⟩) n n) n (madeCells z.cells (n * size)).toList → w.grownBy w' none → K (a.put o.dst (.slice (some ⟨w.heap.size, 0, none⟩) n n)) w') :
    if Region.wanted o (yielded ops a.tmps) = true then Oper.wp P o a w K Q else E := by
  have hw : Region.wanted o (yielded ops a.tmps) = true := by simp [Region.wanted, hgd]
  rw [if_pos hw]
  obtain ⟨w', hrun, r1, r2⟩ := run_make_full (P := P) w base t e i z size h1 h2 h3 h4 kl kc n b2 b3 b4
  subst hL
  subst hC
  unfold Oper.wp
  simp [execOp, hop, hl, hc, hrun, Result.andThen]
  exact hK w' r1 r2

set_option maxHeartbeats 8000000 in
set_option maxRecDepth 100000 in
theorem rehash_any (T : Nat) (lv sv cv : Value) (es : List Ent) (sl : List Nat) (live : Nat) (cs : List (Nat × Nat)) (O : Nat → Prop) (w : World) (h : TabV w T lv sv cv es sl live cs O) (c : Core es sl) (hn : es.length ≤ 100000) (hlive : (cp es).length ≤ 5000) (hcs : ∀ c ∈ cs, c.2 ≤ es.length) (hcl : cs.length ≤ 100000) (hks : ∀ e ∈ es, e.key.2.2.size ≤ 4000) :
    Calls Tryd.prog 47 #[.pointer (some ⟨T, 0, none⟩)] w (RehP T cv es live cs O w) := by
  obtain ⟨iE, hiE, hE0, hE1, hE2⟩ := info_parts infoEnt
  obtain ⟨iI, hiI, hI0, hI1, hI2⟩ := info_parts infoInt2
  obtain ⟨AL, capL, rfl, hAL⟩ := own_shape h.ents
  obtain ⟨AC, capC, rfl, hAC⟩ := own_shape h.curs
  obtain ⟨n, hnn⟩ : ∃ n, es.length = n := ⟨_, rfl⟩
  have HN := Lib.hid hnn
  have x0 : w.cell? ⟨T, 0, none⟩ = some (.slice AL n capL) := by rw [h.blk.cell, ← hnn]; rfl
  rw [hnn] at hn hAL
  clear hnn
  have hw1 : wrap64 ((n : Int) + 1) = (n : Int) + 1 := by unfold wrap64; omega
  go_enter Tryd.func47, Tryd.ntmps47
  go_wp2_with (at_make; refine wpList_make_full _ rfl _ _ 31 rfl w.heap.size 3 iI (.int .i64 0) 1 Tryd.underlying31 hiI hI0 hI1 .i64 .i64 _ _ (n + 1) rfl rfl (by first | rfl | omega) (by first | rfl | omega) (by rw [hI2]; omega) (by unfold maxLen; omega) (Nat.le_refl _) ?_)
  intro w1 hown1 hg1
  have hT1 := h.below ((Below.refl w.heap.size w).grown hg1 (Nat.le_refl _) (fun k hk => by cases hk))
  have x1 : w1.cell? ⟨T, 0, none⟩ = some (.slice AL n capL) := by rw [hT1.blk.cell, ← HN.out]; rfl
  have b1 := (Below.refl w.heap.size w).grown hg1 (Nat.le_refl _) (fun k hk => by cases hk)
  have hp1 : w1.ownsRow w.heap.size 3 1 (.slice (some ⟨w.heap.size, 0, none⟩) (n + 1) (n + 1)) (n + 1) (places es (n + 1) 0) := by
    rw [places_zero, ← toList_madeCells_one]; simpa using hown1
  go_wp2_with fail
  go_loopw [3, 24] (fun l i wr => ∃ k : Nat, k ≤ n ∧ i = .int .i64 k ∧ R1 w w.heap.size (n + 1) es k l wr) (fun _ i _ => n - (intOf i).toNat)
  case atStart => exact ⟨0, Nat.zero_le _, rfl, ⟨World.ownsRow_nil _ _ _ _, hp1, b1⟩⟩
  case round =>
    obtain ⟨k, hk, rfl, hr⟩ := hrel
    by_cases hlt : k < n
    · obtain ⟨gL, rfl⟩ := hAL (by omega)
      have hkl : k < es.length := by rw [HN.out]; exact hlt
      obtain ⟨e, he⟩ : ∃ e, es[k]? = some e := ⟨_, List.getElem?_eq_getElem hkl⟩
      have hTr := h.below hr.below
      obtain ⟨A3, cap3, rfl, hA3⟩ := own_shape hr.row
      have hcn : cnt es k ≤ k := Nat.le_trans (List.length_filter_le _ _) (List.length_take_le _ _)
      have e0 : wr.cell? ⟨gL, k * 8, none⟩ = some (.int .i64 e.key.1) := hTr.ent k e he 0 (by decide)
      have e1 : wr.cell? ⟨gL, k * 8 + 1, none⟩ = some (.int .i64 e.key.2.1) := hTr.ent k e he 1 (by decide)
      have e2 : wr.cell? ⟨gL, k * 8 + 2, none⟩ = some (.string e.key.2.2) := hTr.ent k e he 2 (by decide)
      have e3 : wr.cell? ⟨gL, k * 8 + 3, none⟩ = some (.int .i64 e.val.1) := hTr.ent k e he 3 (by decide)
      have e4 : wr.cell? ⟨gL, k * 8 + 4, none⟩ = some (.int .i64 e.val.2.1) := hTr.ent k e he 4 (by decide)
      have e5 : wr.cell? ⟨gL, k * 8 + 5, none⟩ = some (.string e.val.2.2) := hTr.ent k e he 5 (by decide)
      have e6 : wr.cell? ⟨gL, k * 8 + 6, none⟩ = some (.int .i64 e.flags) := hTr.ent k e he 6 (by decide)
      have e7 : wr.cell? ⟨gL, k * 8 + 7, none⟩ = some (.bool e.grave) := hTr.ent k e he 7 (by decide)
      have i1 : (k : Int) < (n : Int) := by omega
      have i2 : (k : Int) < (n : Int) + 1 := by omega
      have p0 : wr.cell? ⟨w.heap.size, k, none⟩ = some (.int .i64 0) := by
        rw [World.ownsRow.cellAt hr.plc k (by omega), places, List.getElem?_map, List.getElem?_range (by omega)]; simp [natC]
      have p1 := World.ownsRow.frozenAt hr.plc k
      have hPl : w.heap.size < wr.heap.size := (hr.plc.lt w.heap.size (by simp [Value.ownBlock])).2
      have hne : wr.heap.size ≠ w.heap.size := by omega
      have hne' : w.heap.size ≠ wr.heap.size := by omega
      go_upto_region 6 with fail
      have hst := World.ownsRow.stored hr.plc k (.int .i64 (cnt es k : Int))
      have q2 := hst.1.alloc (EO e)
      rw [show (Value.int .i64 (cnt es k : Int)) = natC (cnt es k) from rfl, places_set es (n + 1) k (by omega)] at q2
      have q3 := (hr.row.kept hst.2 (.inr (own_own_ne hr.row hr.plc (by decide) rfl))).alloc (EO e)
      have q4 := (hr.below.setCell (p := ⟨w.heap.size, k, none⟩) (Nat.le_refl _) (.int .i64 (cnt es k : Int))).alloc (by simp; omega) (EO e)
      have q1 := Blk.new (wr.setCell ⟨w.heap.size, k, none⟩ (.int .i64 (cnt es k : Int))) 126 #[.int .i64 e.key.1, .int .i64 e.key.2.1, .string e.key.2.2, .int .i64 e.val.1, .int .i64 e.val.2.1, .string e.val.2.2, .int .i64 e.flags, .bool e.grave]
      simp only [World.size_setCell] at q1
      rw [show natC (cnt es k) = .int .i64 (cnt es k : Int) from rfl] at q2
      generalize ((wr.setCell ⟨w.heap.size, k, none⟩ (.int .i64 (cnt es k : Int))).alloc (EO e)) = W2 at *
      have b0 : W2.cell? ⟨wr.heap.size, 0, none⟩ = some (.int .i64 e.key.1) := by rw [q1.cell]; rfl
      have b1' : W2.cell? ⟨wr.heap.size, 1, none⟩ = some (.int .i64 e.key.2.1) := by rw [q1.cell]; rfl
      have b2 : W2.cell? ⟨wr.heap.size, 2, none⟩ = some (.string e.key.2.2) := by rw [q1.cell]; rfl
      have b3 : W2.cell? ⟨wr.heap.size, 3, none⟩ = some (.int .i64 e.val.1) := by rw [q1.cell]; rfl
      have b4 : W2.cell? ⟨wr.heap.size, 4, none⟩ = some (.int .i64 e.val.2.1) := by rw [q1.cell]; rfl
      have b5 : W2.cell? ⟨wr.heap.size, 5, none⟩ = some (.string e.val.2.2) := by rw [q1.cell]; rfl
      have b6 : W2.cell? ⟨wr.heap.size, 6, none⟩ = some (.int .i64 e.flags) := by rw [q1.cell]; rfl
      have b7 : W2.cell? ⟨wr.heap.size, 7, none⟩ = some (.bool e.grave) := by rw [q1.cell]; rfl
      have hsn := cp_snoc es k e he
      have hcs1 : cnt es (k + 1) = if e.grave then cnt es k else cnt es k + 1 := by unfold cnt; rw [hsn]; split <;> simp
      obtain ⟨gr, hgr⟩ : ∃ b, e.grave = b := ⟨_, rfl⟩
      have hz2 := q4.size
      clear e0 e1 e2 e3 e4 e5 e6 e7 p0 p1 hst q1 hTr hr he
      cases gr with
      | true =>
        rw [hgr] at b7
        rw [hgr, if_pos rfl] at hsn hcs1
        have HS := Lib.hid hsn
        have HC1 := Lib.hid hcs1
        clear hsn hcs1 hgr
        go_wp2
        go_roundw
        case rel => exact ⟨k + 1, by omega, by go_num, by rw [HC1.out, HS.out]; exact q3, q2, q4⟩
        case measure => simp [intOf]; omega
      | false =>
        rw [hgr] at b7
        rw [hgr, if_neg (by decide)] at hsn hcs1
        have HS := Lib.hid hsn
        have HC1 := Lib.hid hcs1
        have HG := Lib.hid hgr
        clear hsn hcs1 hgr
        go_wp2_with (at_builtin; refine wpList_append_lies _ rfl _ _ 114 rfl w.heap.size 126 iE _ 8 80 Tryd.underlying114 hiE hE0 hE1 hE2 rfl (by decide) _ _ _ rfl (q3.alloc _) ⟨W2.heap.size, 0, none⟩ 1 1 [.int .i64 e.key.1, .int .i64 e.key.2.1, .string e.key.2.2, .int .i64 e.val.1, .int .i64 e.val.2.1, .string e.val.2.2, .int .i64 e.flags, .bool false] rfl rfl (World.news_of_block (cs := #[.int .i64 e.key.1, .int .i64 e.key.2.1, .string e.key.2.2, .int .i64 e.val.1, .int .i64 e.val.2.1, .string e.val.2.2, .int .i64 e.flags, .bool false]) (t := 126) (fr := (0, 0)) (heap_alloc_new W2 _)) (by simp [Value.oneCell']) (by decide) (by unfold maxLen; omega) (by omega) (by simp; omega) _ rfl ?_)
        intro gg cap w3 hown3 hgrow3 hat3 hlt3
        have c1 := (q2.alloc (.cells #[.int .i64 e.key.1, .int .i64 e.key.2.1, .string e.key.2.2, .int .i64 e.val.1, .int .i64 e.val.2.1, .string e.val.2.2, .int .i64 e.flags, .bool false] 126)).kept hgrow3 (.inr (own_own_ne_opt q2 q3 (by decide)))
        have c2 := (q4.alloc hz2 (.cells #[.int .i64 e.key.1, .int .i64 e.key.2.1, .string e.key.2.2, .int .i64 e.val.1, .int .i64 e.val.2.1, .string e.val.2.2, .int .i64 e.flags, .bool false] 126)).grown hgrow3 (by simp; omega) (fun k' hk' => (q3.lt k' hk').1)
        go_wp2
        go_roundw
        case rel =>
          refine ⟨k + 1, by omega, by go_num, ⟨?_, c1, c2⟩⟩
          rw [HC1.out, HS.out, entsC_append, show entsC [e] = [.int .i64 e.key.1, .int .i64 e.key.2.1, .string e.key.2.2, .int .i64 e.val.1, .int .i64 e.val.2.1, .string e.val.2.2, .int .i64 e.flags, .bool false] by simp [entsC, entC, k3C, HG.out]]
          exact hown3
        case measure => simp [intOf]; omega
    · have hk2 : k = n := by omega
      have t1 : decide ((k : Int) < (n : Int)) = false := by simp; omega
      subst hk2
      have hTr := h.below hr.below
      obtain ⟨A3, cap3, rfl, hA3⟩ := own_shape hr.row
      have y0 : wr.cell? ⟨T, 0, none⟩ = some (.slice AL k capL) := by rw [hTr.blk.cell, ← HN.out]; rfl
      have i0 : (0 : Int) ≤ (k : Int) := by omega
      have i1 : (k : Int) < (k : Int) + 1 := by omega
      have p0 : wr.cell? ⟨w.heap.size, k, none⟩ = some (.int .i64 0) := by
        rw [World.ownsRow.cellAt hr.plc k (by omega), places, List.getElem?_map, List.getElem?_range (by omega)]; simp [natC]
      have p1 := World.ownsRow.frozenAt hr.plc k
      have hPl : w.heap.size < wr.heap.size := (hr.plc.lt w.heap.size (by simp [Value.ownBlock])).2
      go_upto_region 10 with fail
      have hst := World.ownsRow.stored hr.plc k (.int .i64 (cnt es k : Int))
      have q2 := hst.1
      rw [show (Value.int .i64 (cnt es k : Int)) = natC (cnt es k) from rfl, places_set es (k + 1) k (by omega)] at q2
      have q3 := hr.row.kept hst.2 (.inr (own_own_ne hr.row hr.plc (by decide) rfl))
      have q4 := hr.below.setCell (p := ⟨w.heap.size, k, none⟩) (Nat.le_refl _) (.int .i64 (cnt es k : Int))
      rw [show natC (cnt es k) = .int .i64 (cnt es k : Int) from rfl] at q2
      generalize (wr.setCell ⟨w.heap.size, k, none⟩ (.int .i64 (cnt es k : Int))) = W2 at *
      have hck : cp (es.take k) = cp es := by rw [← HN.out, List.take_length]
      have hcl2 : cnt es k = (cp es).length := by rw [cnt, hck]
      have hr2 : R2 w w.heap.size T (.slice AL es.length capL) sv (.slice AC cs.length capC) es sl live cs O (.slice A3 (cnt es k) cap3) 0 W2 := by
        refine ⟨by simpa using h.below q4, ?_, ?_, Upd.of_below_all q4⟩
        · rw [← hcl2, ← hck]; exact q3
        · rw [HN.out]; exact q2
      have z3 : W2.cell? ⟨T, 3, none⟩ = some (.slice AC cs.length capC) := by rw [hr2.tab.blk.cell]; rfl
      rw [hcl2] at hr2
      simp only [hcl2]
      clear y0 p0 p1 hst q2 q3 q4 hTr hr hT1 b1 hown1 hp1 x0 x1 hck hcl2
      go_wp2_with fail
      go_loopw [7, 56] (fun _ i wr => ∃ j : Nat, j ≤ cs.length ∧ i = .int .i64 j ∧ R2 w w.heap.size T (.slice AL es.length capL) sv (.slice AC cs.length capC) es sl live cs O (.slice A3 (cp es).length cap3) j wr) (fun _ i _ => cs.length - (intOf i).toNat)
      case atStart => exact ⟨0, Nat.zero_le _, rfl, hr2⟩
      case round =>
        obtain ⟨j, hj, rfl, hx⟩ := hrel
        by_cases hjl : j < cs.length
        · obtain ⟨gC, rfl⟩ := hAC (by omega)
          obtain ⟨cu, hcu⟩ : ∃ c, cs[j]? = some c := ⟨_, List.getElem?_eq_getElem hjl⟩
          have hcm : cu ∈ cs := List.mem_of_getElem? hcu
          have hca := cur_at es cs j cu hcu
          have hcb := hx.tab.cur cu (List.mem_of_getElem? hca)
          have hcl3 : ((cs.take j).map (curF es) ++ cs.drop j).length = cs.length := by simp; omega
          have k1 : wr.cell? ⟨gC, j, none⟩ = some (.pointer (some ⟨cu.1, 0, none⟩)) := by
            have := hx.tab.curs
            rw [hcl3] at this
            rw [World.ownsRow.cellAt this j (by omega), List.getElem?_map, hca]; rfl
          have k2 : wr.cell? ⟨cu.1, 1, none⟩ = some (.int .i64 (cu.2 : Int)) := by rw [hcb.cell]; rfl
          have k3 : wr.frozen? ⟨cu.1, 1, none⟩ = false := hcb.frozen 1
          have k4 : wr.cell? ⟨T, 0, none⟩ = some (.slice AL k capL) := by rw [hx.tab.blk.cell, ← HN.out]; rfl
          have hle := hcs cu hcm
          have k5 : wr.cell? ⟨w.heap.size, cu.2, none⟩ = some (.int .i64 (cnt es cu.2 : Int)) := by
            rw [World.ownsRow.cellAt hx.plc cu.2 (by omega), places_get _ _ _ _ (by omega) (by omega)]
          rw [HN.out] at hle
          have j1 : (j : Int) < (cs.length : Int) := by omega
          have j2 : min (cu.2 : Int) (k : Int) = (cu.2 : Int) := by omega
          have j3 : (0 : Int) ≤ (cu.2 : Int) := by omega
          have j4 : (cu.2 : Int) < (k : Int) + 1 := by omega
          go_wp2_with fail
          go_region
          all_goals
            have q1 := (hx.tab.setCur j cu hca (cnt es cu.2))
            rw [← show curF es cu = (cu.1, cnt es cu.2) from rfl, ← cur_next es cs j cu hcu] at q1
            have q2 := own_set hx.row hcb (by decide) 1 (.int .i64 (cnt es cu.2 : Int))
            have q3 := own_set hx.plc hcb (by decide) 1 (.int .i64 (cnt es cu.2 : Int))
            have q4 := hx.upd.set cu.1 1 (.int .i64 (cnt es cu.2 : Int)) (h.oc cu hcm)
            clear j2 j3 j4
            go_wp2
            go_roundw
            case rel =>
              refine ⟨j + 1, by omega, by go_num, ?_⟩
              exact ⟨q1.drew, q2, q3, q4.drew⟩
            case measure => simp [intOf]; omega
        · have hj2 : j = cs.length := by omega
          have t2 : decide ((j : Int) < (cs.length : Int)) = false := by simp; omega
          subst hj2
          have HCS := Lib.hid hcs
          obtain ⟨M, hM⟩ : ∃ M, (cp es).length = M := ⟨_, rfl⟩
          have HMM := Lib.hid hM
          have hM5 : M ≤ 5000 := by omega
          have hm2 : wrap64 (4 * ((M : Int) + 1)) = 4 * ((M : Int) + 1) := by unfold wrap64; omega
          simp only [hM]
          rw [hM] at hx
          clear hcs hM hlive hAL hAC hA3 i0 i1 hw1
          go_wp2_with fail
          go_loop [8] (fun nv => ∃ q : Nat, nv = .int .i64 (q : Int) ∧ PowN M q) (fun nv => 131072 - (intOf nv).toNat)
          case atStart => exact ⟨8, rfl, powN_start M⟩
          case round =>
            obtain ⟨q, rfl, hq⟩ := hrel
            have hqb := powN_bd hq
            by_cases hql : q < 4 * (M + 1)
            · have t3 : decide ((q : Int) < 4 * ((M : Int) + 1)) = true := by simp; omega
              have hq2 := Lib.hid (powN_step hq hql hM5)
              have hw2 : wrap64 ((q : Int) * 2) = (q : Int) * 2 := by unfold wrap64; omega
              clear hqb hql
              go_wp2
              go_round
              case rel => exact ⟨q * 2, congrArg (Value.int .i64) (hw2.trans (Int.natCast_mul q 2).symm), hq2.out⟩
              case measure =>
                rw [hw2]
                exact powN_meas hq hq2.out
            · have t3 : decide ((q : Int) < 4 * ((M : Int) + 1)) = false := by simp; omega
              clear hm2
              go_wp2_with fail
              have hx2 := hx
              obtain ⟨_, _, hq3⟩ := hqb
              have hq9 : q ≤ 65536 := (powN_bd hq).2.1
              have hq4 : 4 * (M + 1) ≤ q := by omega
              have HX := Lib.hid hx
              have HQ := Lib.hid hq
              have HQ3 := Lib.hid hq3
              have hTcur : TabV wr T (.slice AL es.length capL) sv (.slice AC cs.length capC) es sl live (cs.map (curF es)) O := by
                have := hx.tab
                rwa [List.take_length, List.drop_length, List.append_nil] at this
              have HT := Lib.hid hTcur
              have v0 : wr.cell? ⟨T, 0, none⟩ = some (.slice AL es.length capL) := by rw [hTcur.blk.cell]; rfl
              have v1 : wr.cell? ⟨T, 1, none⟩ = some sv := by rw [hTcur.blk.cell]; rfl
              have v2 := hTcur.blk.frozen 0
              have v3 := hTcur.blk.frozen 1
              have hTl := hTcur.blk.lt
              have hPl2 := hx.upd.size
              clear hx hq hq3 hx2 hTcur hr2 z3
              have hbT := HT.out.blk
              obtain ⟨WS, hWS⟩ : ∃ WS, wr.heap.size = WS := ⟨_, rfl⟩
              go_cut [89] (fun s89 wx => TabV wx T (.slice A3 M cap3) (.slice (some ⟨WS, 0, none⟩) q q) (.slice AC cs.length capC) (cp es) (List.replicate q 0) live (cs.map (curF es)) (fun x => O x ∨ (w.heap.size ≤ x ∧ x < wx.heap.size)) ∧ Upd w wx O)
              case first =>
                obtain ⟨w5, hrun5, hown5, hg5⟩ := run_make_full (P := Tryd.prog) wr.drew w.heap.size 31 3 iI (.int .i64 0) 1 Tryd.underlying31 hiI hI0 hI1 .i64 .i64 q (by rw [hI2]; omega) (by unfold maxLen; omega) (by simpa using hPl2)
                obtain ⟨w6, hrun6, hown6, hg6⟩ := run_make_full (P := Tryd.prog) (wr.setCell ⟨T, 0, none⟩ (.slice A3 M cap3)).drew w.heap.size 31 3 iI (.int .i64 0) 1 Tryd.underlying31 hiI hI0 hI1 .i64 .i64 q (by rw [hI2]; omega) (by unfold maxLen; omega) (by simpa using hPl2)
                have hb5 : Below wr.heap.size wr w5 := ((Below.refl _ _).drew).grown hg5 (Nat.le_refl _) (fun k hk => by cases hk)
                have hb6 : Below wr.heap.size (wr.setCell ⟨T, 0, none⟩ (.slice A3 M cap3)) w6 := ((Below.refl _ _).drew).grown hg6 (by simp) (fun k hk => by cases hk)
                have hbT6 : Blk (wr.setCell ⟨T, 0, none⟩ (.slice A3 M cap3)) T 117 #[.slice A3 M cap3, sv, .int .i64 (live : Int), .slice AC cs.length capC] := hbT.set_ 0 _
                have s0 : w5.cell? ⟨T, 0, none⟩ = some (.slice AL es.length capL) := (hb5.cell (p := ⟨T, 0, none⟩) hTl).trans v0
                have s1 : w5.cell? ⟨T, 1, none⟩ = some sv := (hb5.cell (p := ⟨T, 1, none⟩) hTl).trans v1
                have s2 : w5.frozen? ⟨T, 0, none⟩ = false := (hb5.frozen (p := ⟨T, 0, none⟩) hTl).trans v2
                have s3 : w5.frozen? ⟨T, 1, none⟩ = false := (hb5.frozen (p := ⟨T, 1, none⟩) hTl).trans v3
                have t1 : w6.cell? ⟨T, 1, none⟩ = some sv := by rw [(hbT6.below hb6 hTl).cell]; rfl
                have t3 : w6.frozen? ⟨T, 1, none⟩ = false := (hbT6.below hb6 hTl).frozen 1
                have hsz5 : (wr.drew).heap.size = WS := hWS
                have hsz6 : (wr.setCell ⟨T, 0, none⟩ (.slice A3 M cap3)).drew.heap.size = WS := by simpa using hWS
                rw [hsz5] at hrun5 hown5
                rw [hsz6] at hrun6 hown6
                clear hsz5 hsz6
                have u5' := Upd.of_below_all (M := fun x => x = T) (hb5.mono (Nat.le_refl _))
                have u6' := (Upd.refl wr (fun x => x = T)).set T 0 (.slice A3 M cap3) rfl
                have u6'' := u6'.trans (Upd.of_below_all (M := fun x => x = T) (by simpa using hb6))
                have hrepl : (madeCells (Value.int .i64 0).cells (q * 1)).toList = (List.replicate q 0).map natC := by
                  rw [Nat.mul_one, show (Value.int .i64 0).cells = #[Value.int .i64 0] from rfl, toList_madeCells_one]
                  simp [natC]
                rw [hrepl] at hown5 hown6
                have o5 := own_set (own_set hown5 (hbT.below hb5 hTl) (by decide) 0 (.slice A3 M cap3)) ((hbT.below hb5 hTl).set_ 0 (.slice A3 M cap3)) (by decide) 1 (.slice (some ⟨WS, 0, none⟩) q q)
                have o6 := own_set hown6 (hbT6.below hb6 hTl) (by decide) 1 (.slice (some ⟨WS, 0, none⟩) q q)
                have f5 := r3_fin HX.out (((hbT.below hb5 hTl).set_ 0 (.slice A3 M cap3)).set_ 1 (.slice (some ⟨WS, 0, none⟩) q q)) ((u5'.set T 0 _ rfl).set T 1 _ rfl) o5
                have f6 := r3_fin HX.out ((hbT6.below hb6 hTl).set_ 1 (.slice (some ⟨WS, 0, none⟩) q q)) (u6''.set T 1 _ rfl) o6
                clear o5 o6 u5' u6' u6'' hrepl
                go_region
                all_goals
                  go_wp2_with fail
                  go_meet
                  first | exact f5 | exact f6
              case rest =>
                obtain ⟨hT4, hU4⟩ := hcut
                have hlen := List.length_replicate (n := q) (a := 0)
                have hcore : Core ((cp es).take 0) (List.replicate q 0) := by simpa using Core.nil q
                obtain ⟨O1, hO1⟩ : ∃ O1 : Nat → Prop, O1 = (fun x => O x ∨ (w.heap.size ≤ x ∧ x < wc.heap.size)) := ⟨_, rfl⟩
                have HO1 := Lib.hid hO1
                rw [← hO1] at hT4
                have hU5 := Lib.hid hU4
                have HWS : Hid (w.heap.size ≤ WS) := Lib.hid (by rw [← hWS]; exact hPl2)
                clear hO1 v0 v1 v2 v3 hbT HX hU4 hPl2 hTl
                go_wp2_with fail
                go_loopw [96] (fun i wr => ∃ j : Nat, j ≤ M ∧ i = .int .i64 j ∧ R4 w wc T (.slice A3 M cap3) (.slice (some ⟨WS, 0, none⟩) q q) (.slice AC cs.length capC) (cp es) q live (cs.map (curF es)) O O1 j wr) (fun i _ => M - (intOf i).toNat)
                case atStart => exact ⟨0, Nat.zero_le _, rfl, ⟨_, hlen, hcore, hT4⟩, hU5.out, Nat.le_refl _⟩
                case round =>
                  obtain ⟨j, hj, rfl, ⟨sl', hql', hcj, hTj⟩, hUj, hzj⟩ := hrel
                  by_cases hjl : j < M
                  · have hjl2 : j < (cp es).length := by rw [HMM.out]; exact hjl
                    obtain ⟨e, he⟩ : ∃ e, (cp es)[j]? = some e := ⟨_, List.getElem?_eq_getElem hjl2⟩
                    obtain ⟨hem, heg⟩ := mem_cp (List.mem_of_getElem? he)
                    have hkey : norm e.key = e.key := by
                      obtain ⟨i, hi⟩ := List.getElem?_of_mem hem
                      exact c.keys i e hi heg
                    obtain ⟨g3, rfl⟩ : ∃ g, A3 = some ⟨g, 0, none⟩ := by
                      obtain ⟨A', cap', hv', hA'⟩ := own_shape hTj.ents
                      obtain ⟨g, hg⟩ := hA' (by omega)
                      exact ⟨g, by rw [(Value.slice.inj hv').1, hg]⟩
                    have hTj2 := hTj
                    rw [← HMM.out] at hTj2
                    have e0 : wr.cell? ⟨g3, j * 8, none⟩ = some (.int .i64 e.key.1) := hTj2.ent j e he 0 (by decide)
                    have e1 : wr.cell? ⟨g3, j * 8 + 1, none⟩ = some (.int .i64 e.key.2.1) := hTj2.ent j e he 1 (by decide)
                    have e2 : wr.cell? ⟨g3, j * 8 + 2, none⟩ = some (.string e.key.2.2) := hTj2.ent j e he 2 (by decide)
                    have e3 : wr.cell? ⟨g3, j * 8 + 3, none⟩ = some (.int .i64 e.val.1) := hTj2.ent j e he 3 (by decide)
                    have e4 : wr.cell? ⟨g3, j * 8 + 4, none⟩ = some (.int .i64 e.val.2.1) := hTj2.ent j e he 4 (by decide)
                    have e5 : wr.cell? ⟨g3, j * 8 + 5, none⟩ = some (.string e.val.2.2) := hTj2.ent j e he 5 (by decide)
                    have e6 : wr.cell? ⟨g3, j * 8 + 6, none⟩ = some (.int .i64 e.flags) := hTj2.ent j e he 6 (by decide)
                    have e7 : wr.cell? ⟨g3, j * 8 + 7, none⟩ = some (.bool e.grave) := hTj2.ent j e he 7 (by decide)
                    have i1 : (j : Int) < (M : Int) := by omega
                    have hkx := hks e hem
                    obtain ⟨H, hH⟩ : ∃ H, hs e.key = H := ⟨_, rfl⟩
                    have hHb := hs_bd e.key
                    rw [hH] at hHb
                    obtain ⟨X, hX⟩ : ∃ X : Int, (H : Int) = X := ⟨_, rfl⟩
                    have HH : Hid ((hs (norm e.key) : Int) = X) := Lib.hid (by rw [hkey, hH, hX])
                    have hq0 : 0 < q := by omega
                    have hm := mask_at HQ3.out hq0 H hHb
                    rw [show H % q = pr q H 0 by unfold pr; rw [Nat.add_zero], hX] at hm
                    have hmk : Hid (∀ s : Nat, s < q → bits .and .i64 (((s + 1 : Nat) : Nat) : Int) ((q : Int) - 1) = (((s + 1) % q : Nat) : Int)) := Lib.hid (fun s hs => mask_at HQ3.out hq0 (s + 1) (by omega))
                    have hqw : wrap64 ((q : Int) - 1) = (q : Int) - 1 := by unfold wrap64; omega
                    have X0 : 0 ≤ X := by omega
                    have X1 : X < 4294967296 := by omega
                    have HHX := Lib.hid hX
                    have HKE := Lib.hid hkey
                    have HHH := Lib.hid hH
                    have HE := Lib.hid he
                    have hlive2 : ∃ d0, d0 < sl'.length ∧ sl'.getD (pr sl'.length H d0) 0 = 0 := hcj.free (by rw [List.length_take, hql']; omega) H
                    obtain ⟨d0, hd0, hz0⟩ := hlive2
                    rw [hql'] at hd0 hz0
                    have HQL := Lib.hid hql'
                    have HEG := Lib.hid heg
                    clear hHb hX hkey hH he hql' hjl2 heg
                    go_wp2_with fail
                    refine (hash_n e.key X HH _ hkx).mono ?_
                    rintro ee w7 ⟨rfl, b7⟩
                    have hT7 := (hTj.below ((Below.refl _ _).alloc (Nat.le_refl _) (EO e))).below b7
                    have hU7 := (hUj.alloc (EO e)).then_below b7
                    have hz7 : wr.heap.size ≤ w7.heap.size := by have := b7.size; simp at this; omega
                    clear b7 e0 e1 e2 e3 e4 e5 e6 e7 hTj2
                    have hwx : IntKind.i64.wrap X = X := IntWalk.i64_in _ (by omega)
                    have f1 : w7.cell? ⟨T, 1, none⟩ = some (.slice (some ⟨WS, 0, none⟩) q q) := by rw [hT7.blk.cell]; rfl
                    have HNK : Hid (∀ (i : Nat) (f : Ent), ((cp es).take j)[i]? = some f → f.grave = false → f.key ≠ e.key) := Lib.hid (by
                      intro i f hf _ hk
                      rw [List.getElem?_take] at hf
                      split at hf
                      · rename_i hij
                        have hp := List.pairwise_iff_getElem.1 (dist_cp c.dist)
                        obtain ⟨l1, g1⟩ := List.getElem?_eq_some_iff.1 hf
                        obtain ⟨l2, g2⟩ := List.getElem?_eq_some_iff.1 HE.out
                        exact hp i j l1 l2 hij (by rw [g1, g2]; exact hk)
                      · cases hf)
                    go_wp2_with fail
                    go_loop [11] (fun sx => ∃ d : Nat, d < q ∧ sx = .int .i64 (pr q H d : Nat) ∧ ∀ d', d' < d → sl'.getD (pr q H d') 0 ≠ 0) (fun sx => q - ((intOf sx).toNat + q - H % q) % q)
                    case atStart => exact ⟨0, hq0, rfl, fun d' hd' => by omega⟩
                    case round =>
                      obtain ⟨d, hd, rfl, hno⟩ := hrel
                      obtain ⟨s, hs⟩ : ∃ s, pr q H d = s := ⟨_, rfl⟩
                      have hS : s < q := by rw [← hs]; exact pr_lt _ _ hq0
                      have hT8 := hT7
                      rw [← HQL.out] at hT8
                      have cs0 := hT8.slot s (by rw [HQL.out]; exact hS)
                      have cf0 := World.ownsRow.frozenAt hT8.slots s
                      obtain ⟨n, hnn⟩ : ∃ n, sl'.getD s 0 = n := ⟨_, rfl⟩
                      rw [hnn] at cs0
                      have HNN := Lib.hid hnn
                      have HSS := Lib.hid hs
                      have Hno := Lib.hid hno
                      have s0 : (0 : Int) ≤ (s : Int) := by omega
                      have s1 : (s : Int) < (q : Int) := by omega
                      have hsuc := pr_succ (n := q) H d
                      have hst := hmk.out s hS
                      rw [hs] at hsuc ⊢
                      rw [← hsuc] at hst
                      have hst2 : bits .and .i64 ((s : Int) + 1) ((q : Int) - 1) = ((pr q H (d + 1) : Nat) : Int) := hst
                      clear hs hno hnn hsuc hst
                      cases n with
                      | zero =>
                        have cz : w7.cell? ⟨WS, s, none⟩ = some (.int .i64 0) := cs0
                        clear cs0 hst2 hqw hwx
                        have hT9 := hT8.setSlot s (j + 1)
                        rw [HQL.out] at hT9
                        have hU9 := hU7.set_new WS s (.int .i64 (((j + 1 : Nat) : Nat) : Int)) HWS.out
                        have hcore9 : Core ((cp es).take (j + 1)) (sl'.set s (j + 1)) := by
                          have h1 := hcj.add e HEG.out (by exact HKE.out) HNK.out (d := d) (by rw [HQL.out]; exact hd) (by rw [HQL.out, HHH.out, HSS.out]; exact HNN.out) (fun d' hd' => by rw [HQL.out, HHH.out]; exact Hno.out d' hd')
                          rw [HQL.out, HHH.out, HSS.out, List.length_take, Nat.min_eq_left (by rw [HMM.out]; omega)] at h1
                          rw [List.take_add_one, HE.out]
                          exact h1
                        have HR9 : Hid (R4 w wc T (.slice (some ⟨g3, 0, none⟩) M cap3) (.slice (some ⟨WS, 0, none⟩) q q) (.slice AC cs.length capC) (cp es) q live (cs.map (curF es)) O O1 (j + 1) (w7.setCell ⟨WS, s, none⟩ (.int .i64 (((j + 1 : Nat) : Nat) : Int)))) :=
                          Lib.hid ⟨⟨_, by rw [List.length_set]; exact HQL.out, hcore9, hT9⟩, hU9, by simp; omega⟩
                        clear hT9 hU9 hcore9
                        go_wp2
                        go_roundw
                        case rel => exact ⟨j + 1, hjl, by go_num, HR9.out⟩
                        case measure => exact meas_up hjl
                      | succ x =>
                        have cz : w7.cell? ⟨WS, s, none⟩ = some (.int .i64 ((x : Int) + 1)) := cs0
                        have tz : ((x : Int) + 1 == 0) = false := by rw [beq_eq_false_iff_ne]; omega
                        have hnz : ∀ d', d' < d + 1 → sl'.getD (pr q H d') 0 ≠ 0 := by
                          intro d' hd'
                          rcases Nat.lt_or_ge d' d with h5 | h5
                          · exact Hno.out d' h5
                          · obtain rfl : d' = d := by omega
                            rw [HSS.out, HNN.out]; omega
                        have hdl : d + 1 < q := by
                          rcases Nat.lt_or_ge d d0 with h5 | h5
                          · omega
                          · exact absurd hz0 (hnz d0 (by omega))
                        have HNZ := Lib.hid hnz
                        clear cs0 hnz
                        go_wp2
                        go_round
                        case rel => exact ⟨d + 1, hdl, rfl, HNZ.out⟩
                        case measure =>
                          have := find_meas hdl HSS.out
                          simpa [intOf] using this
                  · have hjM : j = M := by omega
                    have t6 : decide ((j : Int) < (M : Int)) = false := by simp; omega
                    have hfull : (cp es).take j = cp es := by rw [hjM, ← HMM.out, List.take_length]
                    rw [hfull] at hcj
                    have hfin : TabV wr T (.slice A3 M cap3) (.slice (some ⟨WS, 0, none⟩) q q) (.slice AC cs.length capC) (cp es) sl' live (cs.map (curF es)) (Og O w wr) :=
                      hTj.widen (fun x hx => by
                        rw [HO1.out] at hx
                        rcases hx with h1 | ⟨h1, h2⟩
                        · exact .inl h1
                        · exact .inr ⟨h1, Nat.lt_of_lt_of_le h2 hzj⟩) (fun x hx => by
                        rcases hx with h1 | ⟨h1, h2⟩
                        · exact Nat.lt_of_lt_of_le (h.oLt x h1) hUj.size
                        · exact h2)
                    have hres : RehP T (.slice AC cs.length capC) es live cs O w (.returned (.tuple #[])) wr :=
                      ⟨_, _, sl', rfl, hfin, hcj, by rw [hql']; exact HQ3.out, by rw [hql', HMM.out]; exact hq4, by rw [hql']; exact hq9, hUj⟩
                    have HR := Lib.hid hres
                    clear hres hfin hcj hfull hTj hUj hjM
                    go_wp2
                    go_end0
                    exact HR.out
end Go.Proofs.YtdeboajjhpecbaaDoor
