/- Rows and sets of numbers of the call's own beside a table. -/
import Derived.Test.YtlgnjbdkkpjjaaaOtQ
set_option linter.unusedVariables false
set_option linter.unusedSimpArgs false
namespace Go.Proofs.Ytlgnjbdkkpjjaaa
open Go.RowKit Go.Sort Go.Maps

/-- A row of the call's own beside the table. -/
structure Rx (w : World) (O : Nat → Prop) (B : Nat) (e : TypeId) (v : Value) (n : Nat) (xs : List Value) : Prop where
  own : w.ownsRow B e 1 v n xs
  no : ∀ g, v.ownBlock = some g → ¬ O g
/-- A set of numbers of the call's own beside the table. -/
structure Mx (w : World) (O : Nat → Prop) (b n : Nat) (G : List Nat) : Prop where
  own : w.ownsMap Try.prog 3 (plainElem Try.prog 4) b n (SetD G)
  no : ¬ O b
section
variable {w0 w w' w'' : World} {T b n B : Nat} {A A' : List Ent} {D D' : List (Nat × Nat)} {O O' O'' M : Nat → Prop} {e e' : TypeId} {v v' : Value} {xs xs' : List Value} {G : List Nat} {n' : Nat}
theorem Rx.stp (h : Rx w O B e v n xs) (s : Stp w O w' O') : Rx w' O' B e v n xs :=
  ⟨s.upd.own h.own h.no, fun g hg hk => by
    rcases s.new g hk with h1 | h1
    · exact h.no g hg h1
    · have := (h.own.lt g hg).2; omega⟩
theorem Rx.below (h : Rx w O B e v n xs) (b : Below w.heap.size w w') : Rx w' O B e v n xs := h.stp (Stp.of_below b)
theorem map_upd (h : w.ownsMap Try.prog 3 (plainElem Try.prog 4) b n (SetD G)) (hb : w'.heap[b]? = w.heap[b]?) : w'.ownsMap Try.prog 3 (plainElem Try.prog 4) b n (SetD G) := by
  obtain ⟨es, clock, h1, h2⟩ := h
  exact ⟨es, clock, hb.trans h1, h2⟩
theorem Mx.lt (h : Mx w O b n G) : b < w.heap.size := h.own.lt
theorem Mx.stp (h : Mx w O b n G) (s : Stp w O w' O') : Mx w' O' b n G :=
  ⟨map_upd h.own (s.upd.block b h.lt h.no), fun hk => by
    rcases s.new b hk with h1 | h1
    · exact h.no h1
    · have := h.lt; omega⟩
theorem Mx.below (h : Mx w O b n G) (b' : Below w.heap.size w w') : Mx w' O b n G := h.stp (Stp.of_below b')
/-- A store in what lies beside the table. -/
theorem St.far (h : St w0 w T A D O) (u : Upd w w' M) (h1 : ∀ k, O k → ¬ M k) (h2 : ∀ k, M k → w0.heap.size ≤ k) : St w0 w' T A D O :=
  ⟨h.tab.upd u h1, h.bel.trans (u.below h.bel.size h2), h.own⟩
theorem Rx.far (h : Rx w O B e v n xs) (u : Upd w w' M) (h1 : ∀ g, v.ownBlock = some g → ¬ M g) : Rx w' O B e v n xs := ⟨u.own h.own h1, h.no⟩
theorem TabA.nodup (h : TabA w T A D O) : (D.map Prod.fst).Nodup := by
  obtain ⟨lv, sv, cv, es, sl, cs, hs, rfl, rfl⟩ := h
  rw [List.map_map]
  exact hs.tab.nodup
theorem TabA.cur_lt (h : TabA w T A D O) {c : Nat × Nat} (hc : c ∈ D) : c.1 < w.heap.size := by
  obtain ⟨lv, sv, cv, es, sl, cs, hs, rfl, rfl⟩ := h
  obtain ⟨d, hd, rfl⟩ := List.mem_map.1 hc
  exact (hs.tab.cur d hd).lt
end
/-- An append to a row beside the table. -/
theorem push_all {w0 w w2 : World} {T : Nat} {A : List Ent} {D : List (Nat × Nat)} {O : Nat → Prop} {e : TypeId} {v : Value} {n g m cap : Nat} {xs ys : List Value} (h : St w0 w T A D O) (r : Rx w O w0.heap.size e v n xs) (o : Obj) (hgrow : (w.alloc o).grownBy w2 v.ownBlock)
    (hown : w2.ownsRow w0.heap.size e 1 (.slice (some ⟨g, 0, none⟩) m cap) m ys) (hat : v.ownBlock = some g ∨ g = w.heap.size + 1) :
    St w0 w2 T A D O ∧ Rx w2 O w0.heap.size e (.slice (some ⟨g, 0, none⟩) m cap) m ys ∧ (∀ e' v' n' xs', e' ≠ e → Rx w O w0.heap.size e' v' n' xs' → Rx w2 O w0.heap.size e' v' n' xs') := by
  have u : Upd w w2 (fun k => v.ownBlock = some k) := ((Upd.refl w _).alloc o).grown hgrow (fun k hk => hk)
  refine ⟨h.far u (fun k hk e => r.no k e hk) (fun k hk => (r.own.lt k hk).1), ⟨hown, fun k hk hO => ?_⟩, fun e' v' n' xs' hne r' => r'.far u (fun k hk hM => own_own_ne r'.own r.own hne hM hk)⟩
  have hgk : g = k := by simpa [Value.ownBlock] using hk
  subst hgk
  rcases hat with h1 | h1
  · exact r.no g h1 hO
  · have := h.tab.lt g hO
    omega
theorem own_map_ne {w : World} {B size n b m : Nat} {e : TypeId} {v : Value} {xs : List Value} {G : List Nat} (h : w.ownsRow B e size v n xs) (hm : w.ownsMap Try.prog 3 (plainElem Try.prog 4) b m (SetD G)) : ∀ k, v.ownBlock = some k → k ≠ b := by
  rintro k hk rfl
  obtain ⟨c, fz, h1⟩ := ownsRow_kind8 h k hk
  obtain ⟨es, clock, h2, _⟩ := hm
  rw [h1] at h2
  cases h2
/-- A store in the set. -/
theorem set_put {w0 w w2 : World} {T b n k : Nat} {A : List Ent} {D : List (Nat × Nat)} {O : Nat → Prop} {G : List Nat} (h : St w0 w T A D O) (m : Mx w O b n G) (hB : w0.heap.size ≤ b)
    (hown : w2.ownsMap Try.prog 3 (plainElem Try.prog 4) b (n + 1) ((SetD G).put (.int .i64 (k : Int)) (.lit (.bool true)))) (hgrow : w.grownBy w2 (some b)) :
    St w0 w2 T A D O ∧ Mx w2 O b (n + 1) (G ++ [k]) ∧ ∀ B e v n' xs, Rx w O B e v n' xs → Rx w2 O B e v n' xs := by
  have u : Upd w w2 (fun k => k = b) := (Upd.refl w _).grown hgrow (fun k hk => (Option.some.inj hk).symm)
  exact ⟨h.far u (fun k hk e => m.no (e ▸ hk)) (fun k hk => by rw [hk]; exact hB), ⟨by rw [SetD_snoc]; exact hown, m.no⟩, fun B e v n' xs r => r.far u (own_map_ne r.own m.own)⟩
theorem fp_nil (a : Nat) : fp [] a = a := by
  show (fG [] (cA a)).length = a
  rw [fG_nil, cA_len]
theorem fp_le (G : List Nat) (a N : Nat) (h : a ≤ N) : fp G a ≤ (fG G (cA N)).length := by
  have := congrArg List.length (fG_take G a N h)
  rw [List.length_take] at this
  have h2 : (fG G (cA a)).length = fp G a := rfl
  omega
/-- Where the cursors are. -/
def curD (G : List Nat) (cs ks : List Nat) : List (Nat × Nat) := (cs.zip ks).map (fun x => (x.1, fp G x.2))
theorem curD_nil (cs ks : List Nat) : curD [] cs ks = cs.zip ks := by
  unfold curD
  conv => rhs; rw [← List.map_id (cs.zip ks)]
  exact List.map_congr_left fun x hx => by rw [fp_nil]; rfl
theorem curD_del (G : List Nat) (k N : Nat) (cs ks : List Nat) (h : ∀ a ∈ ks, a < N) : (curD G cs ks).map (delD (kI k) (fG G (cA N))) = curD (G ++ [k]) cs ks := by
  unfold curD
  rw [List.map_map]
  refine List.map_congr_left fun x hx => ?_
  have := h x.2 (List.of_mem_zip hx).2
  exact fG_delD G k x.2 N x.1 (by omega)
theorem curD_le (G : List Nat) (N : Nat) (cs ks : List Nat) (h : ∀ a ∈ ks, a < N) : ∀ d ∈ curD G cs ks, d.2 ≤ (fG G (cA N)).length := by
  intro d hd
  obtain ⟨x, hx, rfl⟩ := List.mem_map.1 hd
  have := h x.2 (List.of_mem_zip hx).2
  exact fp_le G x.2 N (by omega)
theorem curD_mem {G cs ks : List Nat} {i c k : Nat} (hc : cs[i]? = some c) (hk : ks[i]? = some k) : (c, fp G k) ∈ curD G cs ks := by
  unfold curD
  exact List.mem_map_of_mem (f := fun x : Nat × Nat => (x.1, fp G x.2)) (a := (c, k)) (List.mem_of_getElem? (i := i) (by rw [List.getElem?_zip_eq_some]; exact ⟨hc, hk⟩))
theorem curD_fst (G cs ks : List Nat) (h : cs.length = ks.length) : (curD G cs ks).map Prod.fst = cs := by
  unfold curD
  rw [List.map_map]
  show (cs.zip ks).map Prod.fst = cs
  exact List.map_fst_zip (by omega)
theorem bump_mem {c n m : Nat} {D : List (Nat × Nat)} (h : (c, n) ∈ D) : (c, m) ∈ bump c m D := by
  unfold bump
  exact List.mem_map.2 ⟨(c, n), h, by simp⟩
theorem bump_other {c m : Nat} {D : List (Nat × Nat)} {x : Nat × Nat} (h : x ∈ D) (hne : x.1 ≠ c) : x ∈ bump c m D := by
  unfold bump
  exact List.mem_map.2 ⟨x, h, by rw [if_neg hne]⟩
theorem bump_len (c m : Nat) (D : List (Nat × Nat)) : (bump c m D).length = D.length := by simp [bump]
theorem two_boxes {w0 w : World} {T : Nat} {A : List Ent} {D : List (Nat × Nat)} {O : Nat → Prop} (h : St w0 w T A D O) (t t' : TypeId) (cs cs' : Array Value) : St w0 ((w.alloc (.cells cs t)).alloc (.cells cs' t')) T A D O ∧ Stp w O ((w.alloc (.cells cs t)).alloc (.cells cs' t')) O ∧
    Blk ((w.alloc (.cells cs t)).alloc (.cells cs' t')) w.heap.size t cs ∧ Blk ((w.alloc (.cells cs t)).alloc (.cells cs' t')) (w.heap.size + 1) t' cs' := by
  obtain ⟨h1, h2, h3⟩ := two_bx h (.cells cs t) (.cells cs' t')
  refine ⟨h1, h2, (h3 _ _ rfl).blk, ?_⟩
  have := Blk.new (w.alloc (.cells cs t)) t' cs'
  rwa [World.size_alloc] at this
theorem cs_inj {cs : List Nat} {i j c : Nat} (hn : cs.Nodup) (h1 : cs[j]? = some c) (h2 : cs[i]? = some c) : j = i :=
  (List.getElem?_inj (List.getElem?_eq_some_iff.1 h1).1 hn).1 (h1.trans h2.symm)
theorem law3 : Keyed Try.prog 3 := int_keyed Try.underlying3
theorem key_set {k : Nat} (hk : k < 1000) : keyOf Try.prog 3 (.int .i64 (k : Int)) = some (.int .i64 (k : Int)) := keyOf_int_mk Try.underlying3 (WalkArith.wf_i64 (by omega))
theorem zero4 (w : World) : (zeroValue 4).run Try.prog w = .ok (.bool false) w := by kernel_rfl
theorem look_set {w : World} {O : Nat → Prop} {b n k : Nat} {G : List Nat} (h : Mx w O b n G) (hk : k < 1000) : (Instr.lookup 35 (.map (some b)) (.int .i64 (k : Int)) false).run Try.prog w = .ok (.bool (G.contains k)) w := by
  have hw : (Lit.int .i64 (k : Int)).wf = true := WalkArith.wf_i64 (by omega)
  obtain ⟨v, ps, hrun, hv⟩ := h.own.lookup law3 Try.underlying35 (zero4 w) (plainElem_bool Try.underlying4 false) (keyOf_int_mk Try.underlying3 hw)
  obtain ⟨x, rfl, hx⟩ := isB v _ hv
  rw [SetD_at] at hx
  injection hx with h1 _
  injection h1 with h1
  injection h1 with h1
  rw [hrun, h1]
end Go.Proofs.Ytlgnjbdkkpjjaaa
