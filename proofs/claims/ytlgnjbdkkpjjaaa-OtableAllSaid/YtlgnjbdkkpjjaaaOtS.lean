/- Both tables with their cursors: memory, and how they are like. -/
import Derived.Test.YtlgnjbdkkpjjaaaOtZ
import Derived.Test.YtlgnjbdkkpjjaaaOtR
set_option linter.unusedVariables false
set_option linter.unusedSimpArgs false
namespace Go.Proofs.Ytlgnjbdkkpjjaaa
open Go.RowKit Go.Sort

/-- A pair of cursors: their blocks, the reference's place and count of clears, whether they are closed. -/
structure Cu where
  c : Nat
  d : Nat
  at_ : Nat
  cc : Nat
  sh : Bool
def ptrP (c : Nat) : Value := .pointer (some ⟨c, 0, none⟩)
abbrev CuC (x : Cu) : Array Value := #[.int .i64 (x.at_ : Int), .int .i64 (x.cc : Int), .bool x.sh]
abbrev UU (O R : Nat → Prop) : Nat → Prop := fun k => O k ∨ R k
section
variable {w0 w w' : World} {O O' R R' : Nat → Prop}
theorem stp_l (s : Stp w O w' O') (hR : ∀ k, R k → k < w.heap.size) : Stp w (UU O R) w' (UU O' R) :=
  ⟨s.upd.mono (fun k _ h => .inl h), fun k hk => by
    rcases hk with hk | hk
    · exact (s.new k hk).imp .inl id
    · exact .inl (.inr hk)⟩
theorem stp_r (s : Stp w R w' R') : Stp w (UU O R) w' (UU O R') :=
  ⟨s.upd.mono (fun k _ h => .inr h), fun k hk => by
    rcases hk with hk | hk
    · exact .inl (.inl hk)
    · exact (s.new k hk).imp .inr id⟩
end

/-- Both in memory. -/
structure Mem (w0 w : World) (B T M : Nat) (A : List Ent) (D : List (Nat × Nat)) (O : Nat → Prop) (L : List Ent) (cl : Nat) (R : Nat → Prop) (lv cv dv : Value) (X : List Cu) : Prop where
  st : St w0 w T A D O
  rt : RTab w M lv L (cl : Int) R
  rO : ∀ k, R k → ¬ O k
  rB : ∀ k, R k → w0.heap.size ≤ k
  bb : Bx w (UU O R) B 57 #[ptrP T, ptrP M, cv, dv]
  hB : w0.heap.size ≤ B
  rc : Rx w (UU O R) w0.heap.size 31 cv X.length (X.map (fun x => ptrP x.c))
  rd : Rx w (UU O R) w0.heap.size 81 dv X.length (X.map (fun x => ptrP x.d))
  db : ∀ x ∈ X, Bx w (UU O R) x.d 83 (CuC x) ∧ w0.heap.size ≤ x.d
  cs : ∀ x ∈ X, x.sh = true → ∃ a : Int, Bx w (UU O R) x.c 77 #[.pointer none, .int .i64 a]
section
variable {w0 w w' : World} {B T M : Nat} {A A' : List Ent} {D D' : List (Nat × Nat)} {O O' : Nat → Prop} {L L' : List Ent} {cl cl' : Nat} {R R' : Nat → Prop} {lv lv' cv dv : Value} {X : List Cu}
theorem Mem.table (h : Mem w0 w B T M A D O L cl R lv cv dv X) (t : St w0 w' T A' D' O') (s : Stp w O w' O') : Mem w0 w' B T M A' D' O' L cl R lv cv dv X := by
  have s2 := stp_l (R := R) s h.rt.oLt
  exact ⟨t, h.rt.upd s.upd h.rO, fun k hk hO => by
    rcases s.new k hO with h1 | h1
    · exact h.rO k hk h1
    · have := h.rt.oLt k hk; omega, h.rB, h.bb.stp s2, h.hB, h.rc.stp s2, h.rd.stp s2, fun x hx => ⟨(h.db x hx).1.stp s2, (h.db x hx).2⟩, fun x hx hs => by
    obtain ⟨a, ha⟩ := h.cs x hx hs
    exact ⟨a, ha.stp s2⟩⟩
theorem Mem.ref (h : Mem w0 w B T M A D O L cl R lv cv dv X) (t : RTab w' M lv' L' (cl' : Int) R') (s : Stp w R w' R') : Mem w0 w' B T M A D O L' cl' R' lv' cv dv X := by
  have s2 := stp_r (O := O) s
  exact ⟨h.st.far s.upd (fun k hk hR => h.rO k hR hk) h.rB, t, fun k hk hO => by
    rcases s.new k hk with h1 | h1
    · exact h.rO k h1 hO
    · have := h.st.tab.lt k hO; omega, fun k hk => by
    rcases s.new k hk with h1 | h1
    · exact h.rB k h1
    · exact Nat.le_trans h.st.bel.size h1, h.bb.stp s2, h.hB, h.rc.stp s2, h.rd.stp s2, fun x hx => ⟨(h.db x hx).1.stp s2, (h.db x hx).2⟩, fun x hx hs => by
    obtain ⟨a, ha⟩ := h.cs x hx hs
    exact ⟨a, ha.stp s2⟩⟩
theorem Mem.below (h : Mem w0 w B T M A D O L cl R lv cv dv X) (b : Below w.heap.size w w') : Mem w0 w' B T M A D O L cl R lv cv dv X := h.table (h.st.below b) (Stp.of_below b)
/-- A block of the call's own beside both. -/
theorem Mem.box (h : Mem w0 w B T M A D O L cl R lv cv dv X) (t : TypeId) (cs : Array Value) : Bx (w.alloc (.cells cs t)) (UU O R) w.heap.size t cs := ⟨Blk.new w t cs, fun hk => by
  rcases hk with hk | hk
  · exact absurd (h.st.tab.lt _ hk) (Nat.lt_irrefl _)
  · exact absurd (h.rt.oLt _ hk) (Nat.lt_irrefl _)⟩
end

/-- Where a cursor of the reference's stands. -/
def pos (L : List Ent) (cl : Nat) (x : Cu) : Nat := if x.cc = cl then cnt L x.at_ else 0
/-- How both are like. -/
structure Rel (A : List Ent) (D : List (Nat × Nat)) (L : List Ent) (cl : Nat) (X : List Cu) : Prop where
  cpL : cp L = A
  kn : ∀ e ∈ L, e.grave = false → norm e.key = e.key
  kd : Dist L
  op : ∀ x ∈ X, x.sh = false → (x.c, pos L cl x) ∈ D
  le : ∀ x ∈ X, x.sh = false → x.cc = cl → x.at_ ≤ L.length
  cc : ∀ x ∈ X, x.cc ≤ cl
  nc : (X.map Cu.c).Nodup
  nd : (X.map Cu.d).Nodup
  dl : D.length = (X.filter (fun x => !x.sh)).length
theorem dist_of {L : List Ent} (h : (cp L).Pairwise (fun a b => norm a.key ≠ norm b.key)) : Dist L := by
  have h1 : ∀ l : List Ent, (cp l).Pairwise (fun a b => norm a.key ≠ norm b.key) → l.Pairwise (fun a b => a.grave = false → b.grave = false → norm a.key ≠ norm b.key) := by
    intro l
    induction l with
    | nil => intro _; exact List.Pairwise.nil
    | cons x l ih =>
      intro hp
      cases hg : x.grave with
      | true =>
        have e : cp (x :: l) = cp l := by simp [cp, hg]
        rw [e] at hp
        exact List.Pairwise.cons (fun y _ hx => by rw [hg] at hx; cases hx) (ih hp)
      | false =>
        have e : cp (x :: l) = x :: cp l := by simp [cp, hg]
        rw [e, List.pairwise_cons] at hp
        exact List.Pairwise.cons (fun y hy _ hyg => hp.1 y (List.mem_filter.2 ⟨hy, by simp [hyg]⟩)) (ih hp.2)
  have h2 := h1 L h
  rw [List.pairwise_iff_getElem] at h2
  intro i j e f hi hj he hf hk
  obtain ⟨hil, rfl⟩ := List.getElem?_eq_some_iff.1 hi
  obtain ⟨hjl, rfl⟩ := List.getElem?_eq_some_iff.1 hj
  rcases Nat.lt_trichotomy i j with h3 | h3 | h3
  · exact absurd hk (h2 i j hil hjl h3 he hf)
  · exact h3
  · exact absurd hk.symm (h2 j i hjl hil h3 hf he)
theorem TabA.keys {w : World} {T : Nat} {A : List Ent} {D : List (Nat × Nat)} {O : Nat → Prop} (h : TabA w T A D O) : (∀ e ∈ A, norm e.key = e.key) ∧ A.Pairwise (fun a b => norm a.key ≠ norm b.key) := by
  obtain ⟨lv, sv, cv, es, sl, cs, hs, rfl, rfl⟩ := h
  refine ⟨fun e he => ?_, ?_⟩
  · obtain ⟨i, hi⟩ := List.getElem?_of_mem (mem_cp he).1
    exact hs.core.keys i e hi (mem_cp he).2
  · have hd := hs.core.dst
    have h1 := dist_cp (l := es) (fun i j e f h1 h2 h3 h4 h5 => hd i j e f h1 h2 h3 h4 (by rw [h5]))
    rw [List.pairwise_iff_getElem] at h1 ⊢
    intro i j hi hj hij e
    have k1 := hs.core.keys
    have a1 : norm (cp es)[i].key = (cp es)[i].key := by
      obtain ⟨n, hn⟩ := List.getElem?_of_mem (mem_cp (List.getElem_mem hi)).1
      exact k1 n _ hn (mem_cp (List.getElem_mem hi)).2
    have a2 : norm (cp es)[j].key = (cp es)[j].key := by
      obtain ⟨n, hn⟩ := List.getElem?_of_mem (mem_cp (List.getElem_mem hj)).1
      exact k1 n _ hn (mem_cp (List.getElem_mem hj)).2
    exact h1 i j hi hj hij (by rw [← a1, ← a2, e])
/-- What the table's keys tell of the reference's. -/
theorem keys_ref {w : World} {T : Nat} {A L : List Ent} {D : List (Nat × Nat)} {O : Nat → Prop} (h : TabA w T A D O) (hc : cp L = A) : (∀ e ∈ L, e.grave = false → norm e.key = e.key) ∧ Dist L := by
  obtain ⟨h1, h2⟩ := h.keys
  subst hc
  exact ⟨fun e he hg => h1 e (List.mem_filter.2 ⟨he, by simp [hg]⟩), dist_of h2⟩
section
variable {w : World} {T : Nat} {A A' L L' : List Ent} {D D' : List (Nat × Nat)} {O : Nat → Prop} {cl : Nat} {X : List Cu} {k v : K3} {f : Int}
theorem Rel.put (h : Rel A D L cl X) (t : TabA w T (putA k v f A) D O) (h1 : cp L' = putA k v f (cp L)) (h2 : ∀ a, a ≤ L.length → cnt L' a = cnt L a) (h3 : L.length ≤ L'.length) : Rel (putA k v f A) D L' cl X := by
  have hc : cp L' = putA k v f A := by rw [h1, h.cpL]
  obtain ⟨k1, k2⟩ := keys_ref t hc
  refine ⟨hc, k1, k2, fun x hx hs => ?_, fun x hx hs hcc => Nat.le_trans (h.le x hx hs hcc) h3, h.cc, h.nc, h.nd, h.dl⟩
  have h4 := h.op x hx hs
  unfold pos at h4 ⊢
  by_cases hcc : x.cc = cl
  · rw [if_pos hcc] at h4 ⊢; rw [h2 _ (h.le x hx hs hcc)]; exact h4
  · rw [if_neg hcc] at h4 ⊢; exact h4
theorem Rel.del (h : Rel A D L cl X) (t : TabA w T (delA k A) (D.map (delD k A)) O) (h1 : cp L' = delA k (cp L)) (h2 : ∀ a, cnt L' a = (delA k ((cp L).take (cnt L a))).length) (h3 : L'.length = L.length) : Rel (delA k A) (D.map (delD k A)) L' cl X := by
  have hc : cp L' = delA k A := by rw [h1, h.cpL]
  obtain ⟨k1, k2⟩ := keys_ref t hc
  refine ⟨hc, k1, k2, fun x hx hs => ?_, fun x hx hs hcc => by rw [h3]; exact h.le x hx hs hcc, h.cc, h.nc, h.nd, by rw [List.length_map]; exact h.dl⟩
  have h4 := List.mem_map_of_mem (f := delD k A) (h.op x hx hs)
  have e : delD k A (x.c, pos L cl x) = (x.c, pos L' cl x) := by
    unfold delD pos
    by_cases hcc : x.cc = cl
    · rw [if_pos hcc, if_pos hcc, h2, h.cpL]
    · rw [if_neg hcc, if_neg hcc, List.take_zero]; rfl
  rw [e] at h4
  exact h4
theorem Rel.clear (h : Rel A D L cl X) : Rel [] (D.map (fun d => (d.1, 0))) [] (cl + 1) X := by
  refine ⟨rfl, fun e he => (by cases he), fun i j e f hi => (by simp at hi), fun x hx hs => ?_, fun x hx _ hcc => (by have := h.cc x hx; omega), fun x hx => (by have := h.cc x hx; omega), h.nc, h.nd, by rw [List.length_map]; exact h.dl⟩
  have h4 := List.mem_map_of_mem (f := fun d : Nat × Nat => (d.1, 0)) (h.op x hx hs)
  have hcc : x.cc ≠ cl + 1 := by have := h.cc x hx; omega
  unfold pos
  rw [if_neg hcc]
  exact h4
theorem Rel.cursor (h : Rel A D L cl X) (c d : Nat) (h1 : ∀ x ∈ X, x.c ≠ c) (h2 : ∀ x ∈ X, x.d ≠ d) : Rel A (D ++ [(c, 0)]) L cl (X ++ [⟨c, d, 0, cl, false⟩]) := by
  refine ⟨h.cpL, h.kn, h.kd, fun x hx hs => ?_, fun x hx hs hcc => ?_, fun x hx => ?_, ?_, ?_, ?_⟩
  · rcases List.mem_append.1 hx with hx | hx
    · exact List.mem_append_left _ (h.op x hx hs)
    · obtain rfl := List.mem_singleton.1 hx
      have : pos L cl ⟨c, d, 0, cl, false⟩ = 0 := by unfold pos; rw [if_pos rfl]; rfl
      rw [this]
      exact List.mem_append_right _ (List.mem_singleton.2 rfl)
  · rcases List.mem_append.1 hx with hx | hx
    · exact h.le x hx hs hcc
    · obtain rfl := List.mem_singleton.1 hx; exact Nat.zero_le _
  · rcases List.mem_append.1 hx with hx | hx
    · exact h.cc x hx
    · obtain rfl := List.mem_singleton.1 hx; exact Nat.le_refl _
  · rw [List.map_append, List.nodup_append]
    refine ⟨h.nc, by simp, fun a ha b hb e => ?_⟩
    obtain ⟨x, hx, rfl⟩ := List.mem_map.1 ha
    simp at hb
    exact h1 x hx (by rw [e, hb])
  · rw [List.map_append, List.nodup_append]
    refine ⟨h.nd, by simp, fun a ha b hb e => ?_⟩
    obtain ⟨x, hx, rfl⟩ := List.mem_map.1 ha
    simp at hb
    exact h2 x hx (by rw [e, hb])
  · rw [List.length_append, List.filter_append, List.length_append, h.dl]; rfl
/-- A cursor set anew at its place in the list. -/
theorem set_map {X : List Cu} {i : Nat} {x y : Cu} {β : Type} {g : Cu → β} (hx : X[i]? = some x) (e : g y = g x) : (X.set i y).map g = X.map g := by
  rw [List.map_set, e]
  apply List.ext_getElem?
  intro j
  rw [List.getElem?_set]
  by_cases h : i = j
  · subst h
    have hi := (List.getElem?_eq_some_iff.1 hx).1
    rw [if_pos rfl, if_pos (by simpa using hi), List.getElem?_map, hx]; rfl
  · rw [if_neg h]
theorem set_cases {X : List Cu} {i : Nat} {x y z : Cu} (hx : X[i]? = some x) (hn : (X.map Cu.c).Nodup) (hz : z ∈ X.set i y) : z = y ∨ (z ∈ X ∧ z.c ≠ x.c) := by
  obtain ⟨j, hj⟩ := List.getElem?_of_mem hz
  rw [List.getElem?_set] at hj
  by_cases h : i = j
  · subst h
    rw [if_pos rfl, if_pos (List.getElem?_eq_some_iff.1 hx).1] at hj
    exact .inl (Option.some.inj hj).symm
  · rw [if_neg h] at hj
    refine .inr ⟨List.mem_of_getElem? hj, fun e => h ?_⟩
    have h1 : (X.map Cu.c)[i]? = some x.c := by rw [List.getElem?_map, hx]; rfl
    have h2 : (X.map Cu.c)[j]? = some z.c := by rw [List.getElem?_map, hj]; rfl
    have hi : i < (X.map Cu.c).length := (List.getElem?_eq_some_iff.1 h1).1
    exact (List.getElem?_inj hi hn).1 (by rw [h1, h2, e])
theorem Rel.next (h : Rel A D L cl X) {i : Nat} {x : Cu} (hx : X[i]? = some x) (hs : x.sh = false) {n a : Nat} (hn : n = pos L cl x) (ha : a ≤ L.length) (hc : cnt L a = n + 1) : Rel A (bump x.c (n + 1) D) L cl (X.set i { x with at_ := a, cc := cl }) := by
  have hmem := List.mem_of_getElem? hx
  have hin := h.op x hmem hs
  rw [← hn] at hin
  refine ⟨h.cpL, h.kn, h.kd, fun z hz hzs => ?_, fun z hz hzs hcc => ?_, fun z hz => ?_, by rw [set_map (y := { x with at_ := a, cc := cl }) (g := Cu.c) hx rfl]; exact h.nc, by rw [set_map (y := { x with at_ := a, cc := cl }) (g := Cu.d) hx rfl]; exact h.nd, ?_⟩
  · rcases set_cases hx h.nc hz with rfl | ⟨hz, hne⟩
    · show (x.c, pos L cl { x with at_ := a, cc := cl }) ∈ _
      unfold pos
      rw [if_pos rfl]
      show (x.c, cnt L a) ∈ _
      rw [hc]
      exact bump_mem hin
    · exact bump_other (h.op z hz hzs) hne
  · rcases set_cases hx h.nc hz with rfl | ⟨hz, hne⟩
    · exact ha
    · exact h.le z hz hzs hcc
  · rcases set_cases hx h.nc hz with rfl | ⟨hz, hne⟩
    · exact Nat.le_refl _
    · exact h.cc z hz
  · rw [bump_len, h.dl]
    have h1 : ∀ Y : List Cu, (Y.filter (fun x => !x.sh)).length = (Y.map Cu.sh).count false := by
      intro Y
      induction Y with
      | nil => rfl
      | cons y Y ih => rw [List.map_cons, List.count_cons, ← ih]; cases hy : y.sh <;> simp [hy]
    rw [h1, h1, set_map (y := { x with at_ := a, cc := cl }) (g := Cu.sh) hx rfl]
theorem shut_len {X : List Cu} {i : Nat} {x y : Cu} (hx : X[i]? = some x) (hs : x.sh = false) (hy : y.sh = true) : ((X.set i y).filter (fun x => !x.sh)).length + 1 = (X.filter (fun x => !x.sh)).length := by
  obtain ⟨hi, he⟩ := List.getElem?_eq_some_iff.1 hx
  have hsX : X = X.take i ++ x :: X.drop (i + 1) := by rw [← he, ← List.drop_eq_getElem_cons hi, List.take_append_drop]
  have h1 : X.set i y = X.take i ++ y :: X.drop (i + 1) := by rw [List.set_eq_take_append_cons_drop, if_pos hi]
  have h2 : (X.filter (fun x => !x.sh)).length = ((X.take i).filter (fun x => !x.sh)).length + (((X.drop (i + 1)).filter (fun x => !x.sh)).length + 1) := by
    conv => lhs; rw [hsX]
    rw [List.filter_append, List.length_append, List.filter_cons, hs]; rfl
  rw [h1, List.filter_append, List.length_append, List.filter_cons, hy, h2]
  simp; omega
theorem Rel.shut (h : Rel A D L cl X) {i : Nat} {x : Cu} (hx : X[i]? = some x) (hs : x.sh = false) {D' : List (Nat × Nat)} (h1 : ∀ z, z ∈ D' ↔ z ∈ D ∧ z.1 ≠ x.c) (h2 : D'.length + 1 = D.length) {y : Cu} (hyc : y.c = x.c) (hyd : y.d = x.d) (hys : y.sh = true) (hyk : y.cc ≤ cl) : Rel A D' L cl (X.set i y) := by
  refine ⟨h.cpL, h.kn, h.kd, fun z hz hzs => ?_, fun z hz hzs hcc => ?_, fun z hz => ?_, by rw [set_map (g := Cu.c) hx hyc]; exact h.nc, by rw [set_map (g := Cu.d) hx hyd]; exact h.nd, ?_⟩
  · rcases set_cases hx h.nc hz with rfl | ⟨hz, hne⟩
    · rw [hys] at hzs; cases hzs
    · exact (h1 _).2 ⟨h.op z hz hzs, hne⟩
  · rcases set_cases hx h.nc hz with rfl | ⟨hz, hne⟩
    · rw [hys] at hzs; cases hzs
    · exact h.le z hz hzs hcc
  · rcases set_cases hx h.nc hz with rfl | ⟨hz, hne⟩
    · exact hyk
    · exact h.cc z hz
  · have := shut_len hx hs hys
    have := h.dl
    omega
end
end Go.Proofs.Ytlgnjbdkkpjjaaa
