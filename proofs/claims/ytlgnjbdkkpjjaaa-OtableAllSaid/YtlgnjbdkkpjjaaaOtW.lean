/- A pair of cursors moved or closed. -/
import Derived.Test.YtlgnjbdkkpjjaaaOtPlayH
set_option linter.unusedVariables false
set_option linter.unusedSimpArgs false
namespace Go.Proofs.Ytlgnjbdkkpjjaaa
open Go.RowKit Go.Sort

def rk (r : Option Ent) : K3 := match r with | some e => e.key | none => (0, 0, ⟨#[]⟩)
def rv (r : Option Ent) : K3 := match r with | some e => e.val | none => (0, 0, ⟨#[]⟩)
def rf (r : Option Ent) : Int := match r with | some e => e.flags | none => 0
def re (r : Option Ent) : Ent := match r with | some e => e | none => ent0
/-- What a cursor comes to next. -/
def nxt (A L : List Ent) (cl : Nat) (x : Cu) : Option Ent := if x.sh then none else A[pos L cl x]?
section
variable {w0 w w' : World} {B T M : Nat} {A : List Ent} {D D' : List (Nat × Nat)} {O O' : Nat → Prop} {L : List Ent} {cl : Nat} {R : Nat → Prop} {lv cv dv : Value} {X : List Cu} {i : Nat} {x y : Cu}
theorem TabA.cur_blk (h : TabA w T A D O) {c n : Nat} (hc : (c, n) ∈ D) : O c ∧ ∃ a : Nat, Blk w c 77 #[.pointer (some ⟨T, 0, none⟩), .int .i64 (a : Int)] := by
  obtain ⟨lv, sv, cv, es, sl, cs, hs, rfl, rfl⟩ := h
  obtain ⟨z, hz, e⟩ := List.mem_map.1 hc
  have hc1 : z.1 = c := congrArg Prod.fst e
  subst hc1
  exact ⟨hs.tab.oc z hz, z.2, hs.tab.cur z hz⟩
theorem set_at {X : List Cu} {i : Nat} {x y z : Cu} (hx : X[i]? = some x) (hz : z ∈ X.set i y) : z = y ∨ ∃ j, j ≠ i ∧ X[j]? = some z := by
  obtain ⟨j, hj⟩ := List.getElem?_of_mem hz
  rw [List.getElem?_set] at hj
  by_cases h : i = j
  · subst h
    rw [if_pos rfl, if_pos (List.getElem?_eq_some_iff.1 hx).1] at hj
    exact .inl (Option.some.inj hj).symm
  · rw [if_neg h] at hj
    exact .inr ⟨j, Ne.symm h, hj⟩
theorem far_d {X : List Cu} {i j : Nat} {x z : Cu} (hn : (X.map Cu.d).Nodup) (hx : X[i]? = some x) (hz : X[j]? = some z) (hji : j ≠ i) : z.d ≠ x.d := by
  intro e
  have h1 : (X.map Cu.d)[i]? = some x.d := by rw [List.getElem?_map, hx]; rfl
  have h2 : (X.map Cu.d)[j]? = some z.d := by rw [List.getElem?_map, hz]; rfl
  exact hji ((List.getElem?_inj (List.getElem?_eq_some_iff.1 h2).1 hn).1 (by rw [h1, h2, e]))
/-- The reference's cursor changed. -/
theorem Mem.setX (h : Mem w0 w B T M A D O L cl R lv cv dv X) (hx : X[i]? = some x) (hnd : (X.map Cu.d).Nodup) (u : Upd w w' (fun k => k = x.d)) (hyc : y.c = x.c) (hyd : y.d = x.d) (hb : Blk w' x.d 83 (CuC y))
    (hs : y.sh = true → ∃ a : Int, Bx w (UU O R) x.c 77 #[.pointer none, .int .i64 a]) : Mem w0 w' B T M A D O L cl R lv cv dv (X.set i y) := by
  have hm := List.mem_of_getElem? hx
  have hd := (h.db x hm).1
  have hlen : (X.set i y).length = X.length := by simp
  refine ⟨h.st.far u (fun k hk e => hd.no (e ▸ .inl hk)) (fun k hk => by rw [hk]; exact (h.db x hm).2), h.rt.upd u (fun k hk e => hd.no (e ▸ .inr hk)), h.rO, h.rB, ⟨u.blk h.bb.blk (h.bb.blk.ne_ hd.blk (by decide)), h.bb.no⟩, h.hB, ?_, ?_, fun z hz => ?_, fun z hz hzs => ?_⟩
  · rw [hlen, set_map (g := fun x => ptrP x.c) hx (by rw [hyc])]
    exact h.rc.far u (fun k hk e => own_blk_ne h.rc.own hd.blk (by decide) (by rw [hk, e]))
  · rw [hlen, set_map (g := fun x => ptrP x.d) hx (by rw [hyd])]
    exact h.rd.far u (fun k hk e => own_blk_ne h.rd.own hd.blk (by decide) (by rw [hk, e]))
  · rcases set_at hx hz with rfl | ⟨j, hji, hj⟩
    · rw [hyd]; exact ⟨⟨hb, hd.no⟩, (h.db x hm).2⟩
    · have hz2 := h.db z (List.mem_of_getElem? hj)
      exact ⟨⟨u.blk hz2.1.blk (far_d hnd hx hj hji), hz2.1.no⟩, hz2.2⟩
  · rcases set_at hx hz with rfl | ⟨j, hji, hj⟩
    · obtain ⟨a, ha⟩ := hs hzs
      rw [hyc]
      exact ⟨a, u.blk ha.blk (ha.blk.ne_ hd.blk (by decide)), ha.no⟩
    · obtain ⟨a, ha⟩ := h.cs z (List.mem_of_getElem? hj) hzs
      exact ⟨a, u.blk ha.blk (ha.blk.ne_ hd.blk (by decide)), ha.no⟩
/-- What the table's side of a step leaves. -/
def Nx (A : List Ent) (D D' : List (Nat × Nat)) (O' R : Nat → Prop) (L : List Ent) (cl : Nat) (x : Cu) (w' : World) : Prop :=
  (x.sh = true ∧ D' = D) ∨ (x.sh = false ∧ (∃ e, A[pos L cl x]? = some e) ∧ D' = bump x.c (pos L cl x + 1) D) ∨
  (x.sh = false ∧ A[pos L cl x]? = none ∧ (∀ z, z ∈ D' ↔ z ∈ D ∧ z.1 ≠ x.c) ∧ D'.length + 1 = D.length ∧ ∃ a : Int, Bx w' (UU O' R) x.c 77 #[.pointer none, .int .i64 a])
theorem Nx.stp {w2 : World} {O2 R2 : Nat → Prop} (h : Nx A D D' O' R L cl x w) (f : ∀ a : Int, Bx w (UU O' R) x.c 77 #[.pointer none, .int .i64 a] → Bx w2 (UU O2 R2) x.c 77 #[.pointer none, .int .i64 a]) : Nx A D D' O2 R2 L cl x w2 := by
  rcases h with h | h | ⟨h1, h2, h3, h4, a, h5⟩
  · exact .inl h
  · exact .inr (.inl h)
  · exact .inr (.inr ⟨h1, h2, h3, h4, a, f a h5⟩)
theorem next_both (h : Mem w0 w B T M A D O L cl R lv cv dv X) (r : Rel A D L cl X) (hx : X[i]? = some x) (hA : A.length ≤ 5000) (hD : D.length ≤ 100000) :
    Calls Try.prog 14 #[.pointer (some ⟨x.c, 0, none⟩)] w fun e w' => e = .returned (.tuple #[VK (rk (nxt A L cl x)), VK (rv (nxt A L cl x)), .int .i64 (rf (nxt A L cl x)), .bool (nxt A L cl x).isSome]) ∧
      ∃ D' O', Mem w0 w' B T M A D' O' L cl R lv cv dv X ∧ Stp w (UU O R) w' (UU O' R) ∧ Nx A D D' O' R L cl x w' := by
  have hm := List.mem_of_getElem? hx
  cases hs : x.sh with
  | true =>
    obtain ⟨a, ha⟩ := h.cs x hm hs
    have hn : nxt A L cl x = none := by unfold nxt; rw [hs]; rfl
    rw [hn]
    exact (next_shut x.c a w ha.blk).mono fun e w' ⟨he, b⟩ => ⟨he, D, O, h.below b, Stp.of_below b, .inl ⟨hs, rfl⟩⟩
  | false =>
    have hop := r.op x hm hs
    have hn : nxt A L cl x = A[pos L cl x]? := by unfold nxt; rw [hs]; rfl
    rw [hn]
    refine (next_any x.c T (pos L cl x) A D O w h.st.tab hop hA hD).mono fun e w' hP => ?_
    rcases hP with ⟨z, hz, he, ht, u⟩ | ⟨hz, he, ⟨D', ht, hD', hl⟩, ⟨a, ha⟩, u⟩
    · have s := stp_og u
      rw [hz]
      exact ⟨he, _, _, h.table (h.st.stp s ht) s, stp_l s h.rt.oLt, .inr (.inl ⟨hs, ⟨z, hz⟩, rfl⟩)⟩
    · have s : Stp w O w' (fun k => Og O w w' k ∧ k ≠ x.c) := ⟨u, fun k hk => hk.1.imp id And.left⟩
      rw [hz]
      have hOc := (h.st.tab.cur_blk hop).1
      refine ⟨he, D', _, h.table (h.st.stp s ht) s, stp_l s h.rt.oLt, .inr (.inr ⟨hs, hz, hD', hl, a, ha, fun hk => ?_⟩)⟩
      rcases hk with hk | hk
      · exact hk.2 rfl
      · exact h.rO _ hk hOc
/-- The reference's side of a step. -/
theorem rnext_both (h : Mem w0 w B T M A D' O' L cl R lv cv dv X) (r : Rel A D L cl X) (hx : X[i]? = some x) (hL : L.length ≤ 5000) (n : Nx A D D' O' R L cl x w) :
    Calls Try.prog 35 #[.pointer (some ⟨M, 0, none⟩), .pointer (some ⟨x.d, 0, none⟩)] w fun e w' => e = .returned (.tuple #[EA (re (nxt A L cl x)), .bool (nxt A L cl x).isSome]) ∧
      Upd w w' (fun k => k = x.d) ∧ ∃ y, Mem w0 w' B T M A D' O' L cl R lv cv dv (X.set i y) ∧ Rel A D' L cl (X.set i y) ∧ y.c = x.c ∧ y.d = x.d ∧ y.sh = !(nxt A L cl x).isSome := by
  have hm := List.mem_of_getElem? hx
  have hdb := (h.db x hm).1
  cases hs : x.sh with
  | true =>
    have hn : nxt A L cl x = none := by unfold nxt; rw [hs]; rfl
    rw [hn]
    have hD : D' = D := by
      rcases n with ⟨_, e⟩ | ⟨e, _⟩ | ⟨e, _⟩
      · exact e
      · rw [hs] at e; cases e
      · rw [hs] at e; cases e
    have hself : X.set i x = X := by
      apply List.ext_getElem?
      intro j
      rw [List.getElem?_set]
      by_cases hj : i = j
      · subst hj; rw [if_pos rfl, if_pos (List.getElem?_eq_some_iff.1 hx).1, hx]
      · rw [if_neg hj]
    have hb := hdb.blk
    unfold CuC at hb
    rw [hs] at hb
    exact (rnext_shut M x.d _ _ w hb).mono fun e w' ⟨he, b⟩ => ⟨he, Upd.of_below_all b, x, by rw [hself]; exact h.below b, by rw [hself, hD]; exact r, rfl, rfl, by rw [hs]; rfl⟩
  | false =>
    have hn : nxt A L cl x = A[pos L cl x]? := by unfold nxt; rw [hs]; rfl
    rw [hn]
    have hb := hdb.blk
    unfold CuC at hb
    rw [hs] at hb
    have hcp := r.cpL
    refine (rnext_any M x.d x.at_ (x.cc : Int) lv L (cl : Int) R (pos L cl x) w h.rt hL hb (fun hk => hdb.no (.inr hk)) (fun e => ?_) (fun e => ?_)).mono fun e w' ⟨hP, u⟩ => ?_
    · have e' : x.cc = cl := by omega
      exact ⟨r.le x hm hs e', by unfold pos; rw [if_pos e']⟩
    · have e' : x.cc ≠ cl := by omega
      unfold pos; rw [if_neg e']
    · rw [hcp] at hP
      rcases hP with ⟨z, hz, he, a, ha1, ha2, ha3⟩ | ⟨hz, he, a, ha⟩
      · have hD : D' = bump x.c (pos L cl x + 1) D := by
          rcases n with ⟨e, _⟩ | ⟨_, _, e⟩ | ⟨_, e, _⟩
          · rw [hs] at e; cases e
          · exact e
          · rw [hz] at e; cases e
        rw [hz]
        refine ⟨he, u, { x with at_ := a, cc := cl }, h.setX hx r.nd u rfl rfl (by unfold CuC; rw [show ({ x with at_ := a, cc := cl } : Cu).sh = false from hs]; exact ha3) (fun e => by rw [show ({ x with at_ := a, cc := cl } : Cu).sh = false from hs] at e; cases e), by rw [hD]; exact r.next hx hs rfl ha1 ha2, rfl, rfl, by rw [show ({ x with at_ := a, cc := cl } : Cu).sh = false from hs]; rfl⟩
      · rcases n with ⟨e, _⟩ | ⟨_, ⟨z, e⟩, _⟩ | ⟨_, _, h1, h2, c0, h3⟩
        · rw [hs] at e; cases e
        · rw [hz] at e; cases e
        · rw [hz]
          refine ⟨he, u, { x with at_ := a, cc := cl, sh := true }, h.setX hx r.nd u rfl rfl ha (fun _ => ⟨c0, h3⟩), ?_, rfl, rfl, rfl⟩
          exact r.shut hx hs h1 h2 rfl rfl rfl (Nat.le_refl _)
/-- A cursor is closed on the table's side. -/
theorem close_both (h : Mem w0 w B T M A D O L cl R lv cv dv X) (r : Rel A D L cl X) (hx : X[i]? = some x) (hD : D.length ≤ 100000) :
    Calls Try.prog 24 #[.pointer (some ⟨x.c, 0, none⟩)] w fun e w' => e = .returned (.tuple #[]) ∧
      ∃ D' O', Mem w0 w' B T M A D' O' L cl R lv cv dv X ∧ ∃ y : Cu, y.c = x.c ∧ y.d = x.d ∧ y.sh = true ∧ (y.at_ = x.at_ ∧ y.cc = x.cc) ∧ Rel A D' L cl (X.set i y) ∧ ∃ a : Int, Bx w' (UU O' R) x.c 77 #[.pointer none, .int .i64 a] := by
  have hm := List.mem_of_getElem? hx
  cases hs : x.sh with
  | true =>
    obtain ⟨a, ha⟩ := h.cs x hm hs
    have hself : X.set i x = X := by
      apply List.ext_getElem?
      intro j
      rw [List.getElem?_set]
      by_cases hj : i = j
      · subst hj; rw [if_pos rfl, if_pos (List.getElem?_eq_some_iff.1 hx).1, hx]
      · rw [if_neg hj]
    exact (close_shut x.c a w ha.blk).mono fun e w' ⟨he, b⟩ => ⟨he, D, O, h.below b, x, rfl, rfl, hs, ⟨rfl, rfl⟩, by rw [hself]; exact r, a, ha.below b⟩
  | false =>
    have hop := r.op x hm hs
    refine (close_any x.c T A D O w h.st.tab _ hop rfl hD).mono fun e w' hP => ?_
    obtain ⟨he, ⟨D', ht, hD', hl⟩, ⟨a, ha⟩, u⟩ := hP
    have s : Stp w O w' (fun k => O k ∧ k ≠ x.c) := ⟨u, fun k hk => .inl hk.1⟩
    have hOc := (h.st.tab.cur_blk hop).1
    refine ⟨he, D', _, h.table (h.st.stp s ht) s, { x with sh := true }, rfl, rfl, rfl, ⟨rfl, rfl⟩, r.shut hx hs hD' hl rfl rfl rfl (r.cc x hm), a, ha, fun hk => ?_⟩
    rcases hk with hk | hk
    · exact hk.2 rfl
    · exact h.rO _ hk hOc
theorem set_self (y : Cu) (hx : X[i]? = some x) : (X.set i y)[i]? = some y := by rw [List.getElem?_set, if_pos rfl, if_pos (List.getElem?_eq_some_iff.1 hx).1]
theorem row_at2 {U : Nat → Prop} {b : Nat} {e : TypeId} {g m cap : Nat} (r : Rx w U b e (.slice (some ⟨g, 0, none⟩) m cap) X.length (X.map (fun x => ptrP x.d))) (hm : X.length = m) (hi : i < m) (hx : X[i]? = some x) : w.cell? ⟨g, i, none⟩ = some (.pointer (some ⟨x.d, 0, none⟩)) := by
  rw [hm] at r
  exact row_ptr r hi (by rw [List.getElem?_map, hx]; rfl)
theorem row_at2' {U : Nat → Prop} {b : Nat} {e : TypeId} {g m cap : Nat} (r : Rx w U b e (.slice (some ⟨g, 0, none⟩) m cap) (X.set i y).length ((X.set i y).map (fun x => ptrP x.d))) (hm : X.length = m) (hi : i < m) (hx : X[i]? = some x) (hd : y.d = x.d) : w.cell? ⟨g, i, none⟩ = some (.pointer (some ⟨x.d, 0, none⟩)) := by
  rw [List.length_set, hm] at r
  exact row_ptr r hi (by rw [List.getElem?_map, set_self y hx]; show some (ptrP y.d) = _; rw [hd]; rfl)
theorem row_at3 {U : Nat → Prop} {b : Nat} {e : TypeId} {g m cap : Nat} (r : Rx w U b e (.slice (some ⟨g, 0, none⟩) m cap) (X.set i y).length ((X.set i y).map (fun x => ptrP x.c))) (hm : X.length = m) (hi : i < m) (hx : X[i]? = some x) (hd : y.c = x.c) : w.cell? ⟨g, i, none⟩ = some (.pointer (some ⟨x.c, 0, none⟩)) := by
  rw [List.length_set, hm] at r
  exact row_ptr r hi (by rw [List.getElem?_map, set_self y hx]; show some (ptrP y.c) = _; rw [hd]; rfl)
/-- Go's (s % n + n) % n. -/
def mdx (N : Nat) (s : Int) : Nat := ((s.tmod N + N).tmod N).toNat
theorem mdx_lt (N : Nat) (s : Int) (h : 1 ≤ N) : mdx N s < N := by
  have h3 := Int.lt_tmod_of_pos s (show (0 : Int) < N by omega)
  unfold mdx
  rw [Int.tmod_eq_emod_of_nonneg (by omega)]
  have := Int.emod_lt_of_pos (s.tmod N + N) (show (0 : Int) < N by omega)
  have := Int.emod_nonneg (s.tmod N + N) (show (N : Int) ≠ 0 by omega)
  omega
theorem mdx_eq (N : Nat) (s : Int) (h : 1 ≤ N ∧ N ≤ 60) : (wrap64 (s.tmod N + N)).tmod N = (mdx N s : Int) := by
  have h2 := Int.tmod_lt_of_pos s (show (0 : Int) < N by omega)
  have h3 := Int.lt_tmod_of_pos s (show (0 : Int) < N by omega)
  unfold mdx
  rw [Int.tmod_eq_emod_of_nonneg (show 0 ≤ s.tmod N + N by omega)]
  have e : wrap64 (s.tmod N + N) = s.tmod N + N := by unfold wrap64; omega
  rw [e, Int.tmod_eq_emod_of_nonneg (show 0 ≤ s.tmod N + N by omega)]
  have := Int.emod_nonneg (s.tmod N + N) (show (N : Int) ≠ 0 by omega)
  omega
/-- A store into a box of the call's own that is new. -/
theorem box_store {p q : Nat} {tp : TypeId} {cp cq ce ce' : Array Value} (h : Mem w0 w B T M A D O L cl R lv cv dv X) (kp : Blk w p tp cp) (kq : Blk w (p + 1) tp cq) (kz : Blk w q 63 ce) (w' : World) (u : Upd w w' (fun k => k = q)) (hz : Blk w' q 63 ce') (ht : tp ≠ 63) (hU : ¬ UU O R q) (hw : w0.heap.size ≤ q) :
    Mem w0 w' B T M A D O L cl R lv cv dv X ∧ Blk w' p tp cp ∧ Blk w' (p + 1) tp cq ∧ Blk w' q 63 ce' :=
  ⟨⟨h.st.far u (fun k hk e => hU (e ▸ .inl hk)) (fun k hk => by rw [hk]; exact hw), h.rt.upd u (fun k hk e => hU (e ▸ .inr hk)), h.rO, h.rB, ⟨u.blk h.bb.blk (h.bb.blk.ne_ kz (by decide)), h.bb.no⟩, h.hB, h.rc.far u (fun k hk e => own_blk_ne h.rc.own kz (by decide) (by rw [hk, e])), h.rd.far u (fun k hk e => own_blk_ne h.rd.own kz (by decide) (by rw [hk, e])), fun x hx => ⟨⟨u.blk (h.db x hx).1.blk ((h.db x hx).1.blk.ne_ kz (by decide)), (h.db x hx).1.no⟩, (h.db x hx).2⟩, fun x hx hs => by
    obtain ⟨a, ha⟩ := h.cs x hx hs
    exact ⟨a, u.blk ha.blk (ha.blk.ne_ kz (by decide)), ha.no⟩⟩, u.blk kp (kp.ne_ kz ht), u.blk kq (kq.ne_ kz ht), hz⟩
theorem blk8 {W : World} {q : Nat} {t : TypeId} {a0 a1 a2 a3 a4 a5 a6 a7 b0 b1 b2 b3 b4 b5 b6 b7 : Value} (k : Blk W q t #[a0, a1, a2, a3, a4, a5, a6, a7]) :
    Blk ((((((((W.setCell ⟨q, 0, none⟩ b0).setCell ⟨q, 1, none⟩ b1).setCell ⟨q, 2, none⟩ b2).setCell ⟨q, 3, none⟩ b3).setCell ⟨q, 4, none⟩ b4).setCell ⟨q, 5, none⟩ b5).setCell ⟨q, 6, none⟩ b6).setCell ⟨q, 7, none⟩ b7) q t #[b0, b1, b2, b3, b4, b5, b6, b7] := by
  have := (((((((k.set_ 0 b0).set_ 1 b1).set_ 2 b2).set_ 3 b3).set_ 4 b4).set_ 5 b5).set_ 6 b6).set_ 7 b7
  simpa using this
theorem upd8 (W : World) (q : Nat) (b0 b1 b2 b3 b4 b5 b6 b7 : Value) :
    Upd W ((((((((W.setCell ⟨q, 0, none⟩ b0).setCell ⟨q, 1, none⟩ b1).setCell ⟨q, 2, none⟩ b2).setCell ⟨q, 3, none⟩ b3).setCell ⟨q, 4, none⟩ b4).setCell ⟨q, 5, none⟩ b5).setCell ⟨q, 6, none⟩ b6).setCell ⟨q, 7, none⟩ b7) (fun k => k = q) := by
  repeat (first | with_reducible exact Upd.refl _ _ | with_reducible refine Upd.set ?_ q _ _ rfl)
theorem open_yes {c a : Nat} (h : Blk w c 77 #[.pointer (some ⟨T, 0, none⟩), .int .i64 (a : Int)]) (d : Nat) (os : Array Obj) : Calls Try.prog 16 #[.pointer (some ⟨c, 0, none⟩)] (grow (redrawn w d) os) (Ret (.bool true) (grow (redrawn w d) os)) :=
  (open_any c T a _ (h.below (below_regrown w d os) h.lt)).mono fun e w' ⟨he, e2⟩ => ⟨he, by rw [← e2]; exact Below.refl _ _⟩
theorem open_not {c : Nat} {a : Int} (h : Blk w c 77 #[.pointer none, .int .i64 a]) (d : Nat) (os : Array Obj) : Calls Try.prog 16 #[.pointer (some ⟨c, 0, none⟩)] (grow (redrawn w d) os) (Ret (.bool false) (grow (redrawn w d) os)) :=
  (open_no c a _ (h.below (below_regrown w d os) h.lt)).mono fun e w' ⟨he, e2⟩ => ⟨he, by rw [← e2]; exact Below.refl _ _⟩
end
end Go.Proofs.Ytlgnjbdkkpjjaaa
