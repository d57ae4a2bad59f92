/- The heap: an object's Drop: pairs of dead keys are gone. -/
import Derived.Test.YtmimnaaofpkndaaDoorHqK
import Derived.StillTailTactics
set_option linter.unusedVariables false
set_option linter.unusedSimpArgs false
namespace Go.Proofs.YtmimnaaofpkndaaDoor.Hp
open Go.RowKit Go.Proofs.YtmimnaaofpkndaaDoor Go.Shelf Go.Sort
attribute [local go_sem] Oper.semAt_some

/-- append within a fence, and where the new row lies. -/
theorem wpListIn_append_lies {F : Fence} {n' : Nat} {P : Program} {w : World} {ops : Array Oper} {rest : List Oper} {o : Oper} {a : Act} {Q : Exit → Act → World → Prop} (hgd : o.guard = none) (s x : Operand) (t : TypeId)
    (ho : o.op = .call { callee := .builtin .append, args := #[s, x], argTypes := #[t, t] })
    (base : Nat) (e : TypeId) (i : TypeInfo) (z : Value) (size bytes : Nat) (ht : P.underlying t = some (.slice e)) (hi : P.info? e = some i) (hz : i.zero = some z)
    (hsize : i.size = size) (hby : i.bytes = bytes) (hzs : z.cells.size = size) (hsz : 0 < size)
    (v : Value) (n : Nat) (xs : List Value) (hs : a.eval s = v) (hown : w.ownsRow base e size v n xs)
    (ad : Addr) (m c : Nat) (news : List Value) (hx : a.eval x = .slice (some ad) m c) (hl : news.length = m * size) (hnews : ∀ j u, news[j]? = some u → w.cell? (ad.add j) = some u) (h1 : ∀ u ∈ news, u.oneCell' = true)
    (hm : 0 < m) (h63 : n + m ≤ maxLen) (hbytes : (n + m) * bytes ≤ 140737488355328) (hbase : base ≤ w.heap.size) (H : Nat) (hH : w.heap.size = H)
    (h : ∀ g cap w', w'.ownsRow base e size (.slice (some ⟨g, 0, none⟩) (n + m) cap) (n + m) (xs ++ news) → w.grownBy w' v.ownBlock → (v.ownBlock = some g ∨ g = H) → g < w'.heap.size → wpListIn F n' P ops Q rest (a.put o.dst (.slice (some ⟨g, 0, none⟩) (n + m) cap)) w') : wpListIn F n' P ops Q (o :: rest) a w := by
  refine wpListIn_plain hgd fun K hK' => ?_
  obtain ⟨g, cap, w', hrun, r1, r2, r3, r4⟩ := run_append_lies (P := P) w t o.type base e i z size bytes ht hi hz hsize hby hzs hsz v n xs hown ad m c news hl hnews h1 hm h63 hbytes hbase H hH
  unfold Oper.wpIn
  refine ⟨?_, ?_⟩
  · simp [Oper.about, ho, resolve, Target.leads, Sem.run_pure]
  · rw [Oper.semAt_plain F _ _ (by rw [ho]; intro c hc'; cases hc')]
    simp [execOp, ho, resolve, invoke, builtin, hs, hx, hrun, Result.andThen]
    exact hK' _ _ (h g cap w' r1 r2 r3 r4)
/-- The table without dead keys. -/
def dropE (p : Int → Bool) (wl : List Ent) : List Ent := wl.filter fun e => !p e.key.2.1
/-- Dead keys. -/
def deadK (p : Int → Bool) (wl : List Ent) : List K3 := (wl.filter fun e => p e.key.2.1).map (·.key)
theorem foldl_del (ks : List K3) (A : List Ent) : ks.foldl (fun (X : List Ent) (k : K3) => delA k X) A = A.filter fun e => ks.all fun k => !isKey k e := by
  induction ks generalizing A with
  | nil => exact (List.filter_eq_self.2 (by simp)).symm
  | cons k ks ih =>
    rw [List.foldl_cons, ih]
    unfold delA
    rw [List.filter_filter]
    congr 1
    funext e
    simp [Bool.and_comm]
theorem norm_ob {k : K3} (h : k.1 = 9) : (norm k).2.1 = k.2.1 := by
  obtain ⟨a, b, c⟩ := k
  subst h
  simp [norm, kN]
/-- Deleting the dead keys one by one. -/
theorem drop_all (p : Int → Bool) (wl : List Ent) (h : ∀ e ∈ wl, ObEnt e) (hg : ∀ e ∈ wl, e.grave = false) : (deadK p wl).foldl (fun (X : List Ent) (k : K3) => delA k X) wl = dropE p wl := by
  rw [foldl_del]
  unfold dropE
  refine List.filter_congr fun e he => ?_
  cases hp : p e.key.2.1 with
  | true =>
    simp only [Bool.not_true, List.all_eq_false]
    exact ⟨e.key, List.mem_map.2 ⟨e, List.mem_filter.2 ⟨he, hp⟩, rfl⟩, by simp [isKey, hg e he]⟩
  | false =>
    simp only [Bool.not_false, List.all_eq_true]
    intro k hk
    obtain ⟨e2, he2, rfl⟩ := List.mem_map.1 hk
    obtain ⟨h2, hp2⟩ := List.mem_filter.1 he2
    simp only [isKey, Bool.not_eq_true', Bool.and_eq_false_iff, decide_eq_false_iff_not]
    refine .inr fun hn => ?_
    have e1 := norm_ob (h e he).1
    have e3 := norm_ob (h e2 h2).1
    rw [hn, e3] at e1
    rw [e1] at hp2
    rw [hp] at hp2
    cases hp2
/-- Whatever lies in the temporaries. -/
theorem tmpsDp {d : List Deferred} {G : Prop} {u0 u1 u2 u3 u4 u5 u6 u7 u8 u9 u10 u11 u12 u13 u14 u15 u16 u17 u18 u19 u20 u21 u22 u23 u24 u25 u26 u27 u28 u29 u30 u31 u32 u33 u34 u35 u36 u37 u38 u39 u40 : Value} (h : ∀ t : Nat → Value, (⟨#[u0, u1, u2, u3, u4, u5, u6, u7, u8, u9, u10, u11, u12, u13, u14, u15, u16, u17, u18, u19, u20, u21, u22, u23, u24, u25, u26, u27, u28, u29, u30, u31, u32, u33, u34, u35, u36, u37, u38, u39, u40], d⟩ : Act) = ⟨#[u0, u1, u2, u3, u4, u5, u6, t 7, u8, u9, u10, u11, u12, u13, u14, u15, u16, u17, u18, u19, u20, u21, u22, u23, u24, u25, u26, u27, u28, u29, u30, t 31, t 32, t 33, t 34, t 35, t 36, t 37, t 38, t 39, t 40], d⟩ → G) : G := h (fun i => [u0, u1, u2, u3, u4, u5, u6, u7, u8, u9, u10, u11, u12, u13, u14, u15, u16, u17, u18, u19, u20, u21, u22, u23, u24, u25, u26, u27, u28, u29, u30, u31, u32, u33, u34, u35, u36, u37, u38, u39, u40].getD i undef) rfl
/-- No weak table. -/
theorem drop_nil_dead (b T : Nat) (cl : Int) (tb fv : Value) (A : Nat) (w : World) (hb : Blk w b 51 (objA cl 0 false T nilS tb (.pointer none) fv 0)) :
    Calls Tryd.prog 31 #[.pointer (some ⟨b, 0, none⟩), dead_V A] w fun en w' => (∃ v, en = .returned v) ∧ Below w.heap.size w w' := by
  have x8 : w.cell? ⟨b, 8, none⟩ = some (.pointer none) := by rw [hb.cell]; rfl
  have hl := hb.lt
  clear hb
  go_enter Tryd.func31, Tryd.ntmps31
  go_wp2
  refine bodyPost_ret (results_none rfl _ _ _) rfl ?_
  exact ⟨⟨_, rfl⟩, (Below.refl _ _).alloc (Nat.le_refl _) _⟩
/-- While the weak table is ranged over: the function's box, the object, the list of dead keys. -/
structure Dpdead (A : Nat) (w w2 : World) (b D0 L Tw : Nat) (obj : Array Value) (p : Int → Bool) (Ow : Nat → Prop) (pre : List Ent) (O1 : Nat → Prop) (W : World) : Prop where
  row : ∃ lv, Blk W L 45 #[lv] ∧ W.ownsRow w.heap.size 34 3 lv (deadK p pre).length (valsC (deadK p pre)) ∧ ∀ g, lv.ownBlock = some g → ¬ O1 g
  kD : Blk W D0 68 #[dead_V A]
  kb : Blk W b 51 obj
  upd : Upd w W Ow
  o : ∀ k, O1 k → Ow k ∨ w2.heap.size ≤ k
  lt : ∀ k, O1 k → k < W.heap.size
  nL : ¬ O1 L
  nD : ¬ O1 D0
  nb : ¬ O1 b
  z : w2.heap.size + 2 ≤ W.heap.size
section
variable {A : Nat} {w w2 W W' : World} {b D0 L Tw : Nat} {obj : Array Value} {p : Int → Bool} {Ow O1 O1' : Nat → Prop} {pre : List Ent}
theorem Dpdead.turn (h : Dpdead A w w2 b D0 L Tw obj p Ow pre O1 W) (u : Upd W W' O1) (hw : w.heap.size ≤ w2.heap.size) (h2 : ∀ k, O1' k → O1 k ∨ W.heap.size ≤ k) (h3 : ∀ k, O1' k → k < W'.heap.size) : Dpdead A w w2 b D0 L Tw obj p Ow pre O1' W' := by
  obtain ⟨lv, r1, r2, r3⟩ := h.row
  have hz := h.z
  have n : ∀ k, k < W.heap.size → ¬ O1 k → ¬ O1' k := fun k hk hn e => (h2 k e).elim hn (fun e => by omega)
  exact ⟨⟨lv, u.blk r1 h.nL, u.own r2 r3, fun g hg => n g (r2.lt g hg).2 (r3 g hg)⟩, u.blk h.kD h.nD, u.blk h.kb h.nb, Upd.join h.upd (u.mono fun k _ e => (h.o k e).imp id (fun e => by omega)), fun k hk => (h2 k hk).elim (h.o k) (fun e => .inr (by omega)), h3, n _ r1.lt h.nL, n _ h.kD.lt h.nD, n _ h.kb.lt h.nb, Nat.le_trans hz u.size⟩
theorem Dpdead.put (h : Dpdead A w w2 b D0 L Tw obj p Ow pre O1 W) {l : Nat} {o : Obj} (o' : Obj) (hl : W.heap[l]? = some o) (ho : o.isCells = false) (hlw : w.heap.size ≤ l) : Dpdead A w w2 b D0 L Tw obj p Ow pre O1 (W.putObj l o') := by
  obtain ⟨lv, r1, r2, r3⟩ := h.row
  have u := Upd.put W l o'
  have nb : ∀ {g : Nat} {t : TypeId} {xs : Array Value}, Blk W g t xs → ¬ g = l := fun hb e => by subst e; rw [show W.heap[_]? = _ from hb] at hl; cases hl; cases ho
  refine ⟨⟨lv, u.blk r1 (nb r1), u.own r2 (fun g hg e => ?_), r3⟩, u.blk h.kD (nb h.kD), u.blk h.kb (nb h.kb), Upd.join h.upd (u.mono fun k _ e => .inr (e ▸ hlw)), h.o, fun k hk => Nat.lt_of_lt_of_le (h.lt k hk) u.size, h.nL, h.nD, h.nb, Nat.le_trans h.z u.size⟩
  subst e
  obtain ⟨c, f, h1⟩ := own_kind r2 _ hg
  rw [h1] at hl; cases hl; cases ho
end
set_option maxHeartbeats 40000000 in
set_option maxRecDepth 100000 in
theorem drop_dead (p : Int → Bool) (b T Tw : Nat) (cl : Int) (tb fv : Value) (A : Nat) (wl : List Ent) (Ow : Nat → Prop) (w : World) (hb : Blk w b 51 (objA cl 0 false T nilS tb (.pointer (some ⟨Tw, 0, none⟩)) fv 0)) (hT : TabA w Tw wl [] Ow) (hbO : ¬ Ow b) (hwl : ∀ e ∈ wl, ObEnt e ∧ e.grave = false ∧ e.key.2.2.size ≤ 4000) (hwn : wl.length ≤ 4000)
    (hd : ∀ W k, Upd w W Ow → Calls Tryd.prog 50 #[.pointer (some ⟨A, 0, none⟩), .int .i64 k] W fun e w' => e = .returned (.bool (p k)) ∧ Below W.heap.size W w') :
    Calls Tryd.prog 31 #[.pointer (some ⟨b, 0, none⟩), dead_V A] w fun en w' => (∃ v, en = .returned v) ∧
      ∃ O', TabA w' Tw (dropE p wl) [] O' ∧ (∀ k, O' k → Ow k ∨ w.heap.size ≤ k) ∧ Upd w w' Ow := by
  have x8 : w.cell? ⟨b, 8, none⟩ = some (.pointer (some ⟨Tw, 0, none⟩)) := by rw [hb.cell]; rfl
  obtain ⟨D0, hD0⟩ : ∃ D0, w.heap.size = D0 := ⟨_, rfl⟩
  have hbD : b < D0 := hD0 ▸ hb.lt
  obtain ⟨i0, hi, hz0, hz1, hz2⟩ := info_parts infoVal
  have HB := Lib.hid (And.intro hb (And.intro hT (And.intro hbO (And.intro hwl hd))))
  clear hb hT hbO hwl hd
  refine callsM_of_wp Tryd.func31 rfl ?_
  simp only [Tryd.ntmps31, List.size_toArray, List.length_cons, List.length_nil, Nat.reduceAdd, Nat.reduceSub, Array.replicate_succ, Array.replicate_zero, List.push_toArray, List.append_toArray, List.nil_append, List.cons_append]
  go_wp2_with (go_at_call 55; refine (all_fn Tw _).mono ?_; rintro e w2 ⟨rfl, rfl⟩)
  obtain ⟨hb, hT, hbO, hwl, hd⟩ := HB.out
  have hOl := hT.lt
  obtain ⟨W2, hW2⟩ : ∃ W2, ((w.alloc (.cells #[dead_V A] 68)).alloc (.cells #[.slice none 0 0] 45)).alloc (.cells #[.pointer (some ⟨Tw, 0, none⟩)] 44) = W2 := ⟨_, rfl⟩
  have b2 : Below w.heap.size w W2 := by rw [← hW2]; exact (((Below.refl _ _).alloc (Nat.le_refl _) _).alloc (by simp) _).alloc (by simp; omega) _
  have sz2 : W2.heap.size = D0 + 3 := by rw [← hW2, ← hD0]; simp
  have kD : Blk W2 D0 68 #[dead_V A] := by rw [← hW2, ← hD0]; exact ((Blk.new w _ _).alloc _).alloc _
  have kL : Blk W2 (D0 + 1) 45 #[.slice none 0 0] := by
    rw [← hW2, ← hD0]
    have := Blk.new (w.alloc (.cells #[dead_V A] 68)) 45 #[.slice none 0 0]
    rw [World.size_alloc] at this
    exact this.alloc _
  have kB : Blk W2 (D0 + 1 + 1) 44 #[.pointer (some ⟨Tw, 0, none⟩)] := by
    rw [← hW2, ← hD0]
    have := Blk.new ((w.alloc (.cells #[dead_V A] 68)).alloc (.cells #[.slice none 0 0] 45)) 44 #[.pointer (some ⟨Tw, 0, none⟩)]
    rw [World.size_alloc, World.size_alloc] at this
    exact this
  have kb2 := hb.below b2 hb.lt
  have hT2 := hT.below b2
  have H2 := Lib.hid (And.intro b2 (And.intro kD (And.intro kL (And.intro kB (And.intro kb2 (And.intro hT2 hOl))))))
  rw [hW2]
  clear hW2 hb hT hbO hwl hd hOl kD kL kB kb2 hT2 x8 b2
  refine wpIn_wide.1 (wpIn_range_b (F := Fence.wide) (n := 9) rfl (by decide) (gf := 77) (argsOf := fun l => #[.func (.yield l) #[] #[], .pointer (some ⟨D0 + 1 + 1, 0, none⟩)]) ?res (encs := fun x : Ent => #[VK x.key, VK x.val]) (fun _ => rfl) wl False Ow ?lt0 (AllFin Tw wl []) ?seq (fun O1 W' l o hF hl => hF.put hl o)
    (fun O1 pre W' => Dpdead A w W2 b D0 (D0 + 1) Tw (objA cl 0 false T nilS tb (.pointer (some ⟨Tw, 0, none⟩)) fv 0) p Ow pre O1 W') (fun _ _ _ _ => False) (fun _ _ _ _ h => h) ?iup ?igr (fun _ _ _ _ _ h _ => h) ?iput (fun _ _ _ _ _ _ _ h _ _ _ => h) ?h0
    (fun O1 pre e a' W' => ∃ b1, a' = ⟨#[.pointer (some ⟨b, 0, none⟩), dead_V A, undef, .pointer (some ⟨D0, 0, none⟩), .pointer (some ⟨D0 + 1, 0, none⟩), .pointer (some ⟨b1, 0, none⟩), undef, undef, .pointer (some ⟨b, 0, none⟩), .pointer (some ⟨b, 0, none⟩), .pointer (some ⟨b, 8, none⟩), .pointer (some ⟨Tw, 0, none⟩), .bool false, .pointer (some ⟨b, 0, none⟩), .pointer (some ⟨b, 0, none⟩), .pointer (some ⟨b, 8, none⟩), .pointer (some ⟨Tw, 0, none⟩), .func (.func 77) #[] #[.pointer (some ⟨D0 + 1 + 1, 0, none⟩)], VK e.key, VK e.val, undef, undef, undef, undef, undef, undef, undef, undef, undef, undef, undef, undef, undef, undef, undef, undef, undef, undef, undef, undef, undef], []⟩ ∧ Blk W' b1 34 #[.int .i64 e.key.1, .int .i64 e.key.2.1, .string e.key.2.2]) ?ax ?assign ?body ?done (fun _ _ _ _ _ _ _ _ h _ => h.elim))
  case res => exact fun l W => ⟨({ target := .fn (.func 77) #[.pointer (some ⟨D0 + 1 + 1, 0, none⟩)], args := #[.func (.yield l) #[] #[]] } : Deferred), by kernel_rfl, fun _ _ => trivial, by kernel_rfl⟩
  case lt0 => exact fun k hk => Nat.lt_of_lt_of_le (H2.out.2.2.2.2.2.2 k hk) H2.out.1.size
  case seq => exact fun l W' u => all_b 8 (by decide) l Tw wl [] Ow False W' (D0 + 1 + 1) (u.blk H2.out.2.2.2.1 (fun h => h)) (H2.out.2.2.2.2.2.1.upd u (fun _ _ h => h)) (by omega) (by simp)
  case iup => exact fun O1 pre V V' h u => h.turn u H2.out.1.size (fun k hk => .inl hk) (fun k hk => Nat.lt_of_lt_of_le (h.lt k hk) u.size)
  case igr => exact fun O1 O1' pre V V' h u g1 g2 g3 => h.turn u H2.out.1.size g2 g3
  case iput => exact fun O1 pre V l' o o' h hl hk ho' => h.put o' hk ho' (by omega)
  case h0 =>
    intro O1 V u hsz hO1 hlt
    obtain ⟨b2, kD, kL, kB, kb2, hT2, hOl⟩ := H2.out
    have nO : ∀ k, D0 ≤ k → ¬ Ow k := fun k hk e => by have := hOl k e; omega
    have nO1 : ∀ k, k < W2.heap.size → ¬ Ow k → ¬ O1 k := fun k hk h e => (hO1 k e).elim h (fun e => by omega)
    exact ⟨⟨.slice none 0 0, u.blk kL (nO _ (by omega)), World.ownsRow_nil _ _ _ _, fun g hg => by (simp [Value.ownBlock] at hg)⟩, u.blk kD (nO _ (by omega)), u.blk kb2 HB.out.2.2.1, (Upd.of_below_all b2).trans u, hO1, hlt, nO1 _ (by omega) (nO _ (by omega)), nO1 _ (by omega) (nO _ (by omega)), nO1 _ (by omega) HB.out.2.2.1, hsz⟩
  case ax =>
    rintro O1 pre e a' V l' o o' ⟨b1, rfl, k1⟩ hl hk ho'
    have nb : ∀ {g : Nat} {t : TypeId} {xs : Array Value}, Blk V g t xs → ¬ g = l' := fun hb e => by subst e; rw [show V.heap[_]? = _ from hb] at hk; cases hk; cases ho'
    exact ⟨b1, rfl, (Upd.put V l' o').blk k1 (nb k1)⟩
  case assign =>
    intro l' O1 pre e V K1 hI1 _ hK1
    gi_wp2
    have b1 := ((Below.refl V.heap.size V).alloc (Nat.le_refl _) (.cells #[.int .i64 e.key.1, .int .i64 e.key.2.1, .string e.key.2.2] 34))
    exact hK1 _ _ (KeepsOthers.alloc _ _) (Upd.of_below_all b1) (hI1.turn (Upd.of_below_all b1) H2.out.1.size (fun k hk => .inl hk) (fun k hk => Nat.lt_of_lt_of_le (hI1.lt k hk) b1.size)) ⟨_, rfl, Blk.new V _ _⟩
  case body =>
    rintro l' O1 pre e a' V hI1 ⟨b1, rfl, k1⟩ hpre
    obtain ⟨⟨he9, hv9⟩, hgr, hks⟩ := HB.out.2.2.2.1 e (hpre.subset (by simp))
    have y0 : V.cell? ⟨D0, 0, none⟩ = some (dead_V A) := by rw [hI1.kD.cell]; rfl
    have c0 : V.cell? ⟨b1, 0, none⟩ = some (.int .i64 9) := by rw [k1.cell, ← he9]; rfl
    have c1 : V.cell? ⟨b1, 1, none⟩ = some (.int .i64 e.key.2.1) := by rw [k1.cell]; rfl
    have c2 : V.cell? ⟨b1, 2, none⟩ = some (.string e.key.2.2) := by rw [k1.cell]; rfl
    have q0 := fun d os => cell_regrown y0 d os
    have q1 := fun d os => cell_regrown c0 d os
    have q2 := fun d os => cell_regrown c1 d os
    have q3 := fun d os => cell_regrown c2 d os
    obtain ⟨k, hk⟩ : ∃ k : Int, e.key.2.1 = k := ⟨_, rfl⟩
    obtain ⟨pb, hpb⟩ : ∃ pb, p k = pb := ⟨_, rfl⟩
    have hdV := fun (d : Nat) (os : Array Obj) => (HB.out.2.2.2.2 (grow (redrawn V d) os) k (hI1.upd.trans (Upd.of_below_all (below_regrown V d os))))
    rw [hpb] at hdV
    rw [hk] at c1 q2
    have D1 := fun r d os => CallsIn.regrown_of (F := Fence.wide.inRound l') (r := r) (callsIn_wide.2 (ref_obj k e.key.2.2 (grow (redrawn V d) os)))
    have D2 := fun r d os => CallsIn.regrown_of (F := Fence.wide.inRound l') (r := r) (callsIn_wide.2 (hdV d os))
    have HI1 := Lib.hid (And.intro hI1 (And.intro k1 (And.intro he9 (And.intro hk (And.intro hpb hpre)))))
    clear hdV y0 c0 c1 c2 hI1 k1 he9 hv9 hgr hks hpre hpb hk
    gi_wp2_with (fail)
    refine quietR_below (by kernel_rfl) (by kernel_rfl) (by kernel_rfl) ?_
    repeat (
      refine wpQuietIn_step (fun _ _ _ _ => trivial) (fun K hK => ?_)
      go_simp
      first
        | (refine hK _ ?_; clear hK K)
        | (apply Exists.intro
           refine ⟨fun _ => ?_, hK _ ?_⟩
           (first | with_reducible exact D1 _ _ _ | with_reducible exact D2 _ _ _ | exact ⟨trivial, D1 _ _ _⟩ | exact ⟨trivial, D2 _ _ _⟩ | exact D1 _ _ _ | exact D2 _ _ _)
           clear hK K))
    refine wpQuietIn_nil ?_
    rintro V2 ⟨⟨dq, osq⟩, hV2⟩
    have bV2 : Below V.heap.size V V2 := by rw [hV2]; exact below_regrown V dq osq
    obtain ⟨hI1, k1, he9, hk, hpb, hpre⟩ := HI1.out
    have hI2 := hI1.turn (Upd.of_below_all bV2) H2.out.1.size (fun k hk => .inl hk) (fun k hk => Nat.lt_of_lt_of_le (hI1.lt k hk) bV2.size)
    have k2 := k1.below bV2 k1.lt
    obtain ⟨lv, r1, r2, r3⟩ := hI2.row
    have hdk : deadK p (pre ++ [e]) = deadK p pre ++ if pb = true then [e.key] else [] := by
      unfold deadK
      rw [List.filter_append, List.map_append]
      congr 1
      rw [← hpb, ← hk]
      by_cases h : p e.key.2.1 = true
      · simp [h]
      · simp [h]
    have hlenp : (deadK p pre).length ≤ 4000 := by
      have h1 : (deadK p pre).length ≤ pre.length := by unfold deadK; rw [List.length_map]; exact List.length_filter_le _ _
      have h2 := hpre.length_le
      simp at h2
      omega
    have kof : KeepsOthers V V2 := ⟨bV2.size, fun k o hk _ => (bV2.block k (Array.getElem?_eq_some_iff.1 hk).1).trans hk⟩
    cases pb with
    | false =>
      have hfin : stepsOn O1 (fun pre W' => Dpdead A w W2 b D0 (D0 + 1) Tw (objA cl 0 false T nilS tb (.pointer (some ⟨Tw, 0, none⟩)) fv 0) p Ow pre O1 W') (fun _ _ _ => False) (pre ++ [e]) V .normal ⟨#[], []⟩ V2 := ⟨kof, Upd.of_below_all bV2, by
        refine ⟨⟨lv, r1, ?_, r3⟩, hI2.kD, hI2.kb, hI2.upd, hI2.o, hI2.lt, hI2.nL, hI2.nD, hI2.nb, hI2.z⟩
        rw [hdk, if_neg (by decide), List.append_nil]
        exact r2⟩
      have HF := Lib.hid hfin
      clear hfin hI1 hI2 k1 k2 he9 hk hpb hpre r1 r2 r3 hdk hlenp kof hV2 bV2 q0 q1 q2 q3 D1 D2
      gi_wp2_with (fail)
      exact HF.out
    | true =>
      obtain ⟨ra, rcap, rfl, _⟩ := own_shape r2
      obtain ⟨m, hm⟩ : ∃ m, (deadK p pre).length = m := ⟨_, rfl⟩
      rw [hm] at r1 r2 r3 hlenp
      obtain ⟨S2, hS2⟩ : ∃ S2, V2.heap.size = S2 := ⟨_, rfl⟩
      have l0 : V2.cell? ⟨D0 + 1, 0, none⟩ = some (.slice ra m rcap) := by rw [r1.cell]; rfl
      have l1 := r1.lt
      have l1' : D0 + 1 < S2 := hS2 ▸ l1
      have c0 : V2.cell? ⟨b1, 0, none⟩ = some (.int .i64 9) := by rw [k2.cell, ← he9]; rfl
      have c1 : V2.cell? ⟨b1, 1, none⟩ = some (.int .i64 k) := by rw [k2.cell, ← hk]; rfl
      have c2 : V2.cell? ⟨b1, 2, none⟩ = some (.string e.key.2.2) := by rw [k2.cell]; rfl
      have hnews := World.news_of_block (cs := #[.int .i64 9, .int .i64 k, .string e.key.2.2]) (t := 34) (fr := (0, 0)) (heap_alloc_new V2 (.cells #[.int .i64 9, .int .i64 k, .string e.key.2.2] 34))
      rw [hS2] at hnews
      have hb0 : D0 ≤ S2 := by omega
      have hr3 := r2
      have HK := Lib.hid (And.intro hI2 (And.intro r1 (And.intro r3 (And.intro hdk (And.intro kof (And.intro hm (And.intro he9 (And.intro hk hpre))))))))
      clear hI1 hI2 k1 k2 he9 hk hpb hpre r1 r3 hdk kof hV2 q0 q1 q2 q3 D1 D2 hm r2
      rw [hD0] at hr3
      gi_wp2_with (gi_at_builtin; refine wpListIn_append_lies rfl _ _ 45 rfl D0 34 i0 _ 3 32 Tryd.underlying45 hi hz0 hz1 hz2 rfl (by decide) _ _ _ rfl (hr3.alloc _) ⟨S2, 0, none⟩ 1 1 [.int .i64 9, .int .i64 k, .string e.key.2.2] rfl rfl hnews (by simp [Value.oneCell']) (by decide) (by unfold maxLen; omega) (by omega) (by simp; omega) _ rfl ?_)
      intro g3 cap3 w3 hown3 hgrow3 hat3 hlt3
      obtain ⟨hI2, r1, r3, hdk, kof, hm, he9, hk, hpre⟩ := HK.out
      have hra : (V2.alloc (.cells #[.int .i64 9, .int .i64 k, .string e.key.2.2] 34)).ownsRow D0 34 3 (.slice ra m rcap) m (valsC (deadK p pre)) := hr3.alloc _
      have kL3 : Blk w3 (D0 + 1) 45 #[.slice ra m rcap] := Blk.grown (r1.alloc _) hgrow3 (fun e => own_blk_ne hra (r1.alloc _) (by decide) e.symm)
      have u3 : Upd V2 w3 (fun k => (Value.slice ra m rcap).ownBlock = some k) := ((Upd.refl V2 _).alloc _).grown hgrow3 (fun k e => e)
      have u4 : Upd V2 (w3.setCell ⟨D0 + 1, 0, none⟩ (.slice (some ⟨g3, 0, none⟩) (m + 1) cap3)) (fun k => (Value.slice ra m rcap).ownBlock = some k ∨ k = D0 + 1) := (u3.mono fun k _ e => .inl e).set (D0 + 1) 0 _ (.inr rfl)
      have hlow : ∀ k, ((Value.slice ra m rcap).ownBlock = some k ∨ k = D0 + 1) → D0 ≤ k ∧ ¬ O1 k := fun k hk => by
        rcases hk with hk | rfl
        · exact ⟨(hr3.lt k hk).1, r3 k hk⟩
        · exact ⟨by omega, hI2.nL⟩
      have hfin : stepsOn O1 (fun pre W' => Dpdead A w W2 b D0 (D0 + 1) Tw (objA cl 0 false T nilS tb (.pointer (some ⟨Tw, 0, none⟩)) fv 0) p Ow pre O1 W') (fun _ _ _ => False) (pre ++ [e]) V .normal ⟨#[], []⟩ (w3.setCell ⟨D0 + 1, 0, none⟩ (.slice (some ⟨g3, 0, none⟩) (m + 1) cap3)) := by
        refine ⟨(((kof.trans (KeepsOthers.alloc V2 _)).trans (KeepsOthers.of_grownBy hgrow3 (fun j o hj ho => ?_)))).trans (KeepsOthers.setCell _ _ _), (Upd.of_below_all bV2).trans (u4.mono fun k _ e => (hlow k e).2), ⟨.slice (some ⟨g3, 0, none⟩) (m + 1) cap3, kL3.set_ 0 _, ?_, fun g hg e => ?_⟩, u4.blk hI2.kD (fun e => ?_), u4.blk hI2.kb (fun e => ?_), Upd.join hI2.upd (u4.mono fun k _ e => .inr (by have := (hlow k e).1; omega)), hI2.o, fun k hk => Nat.lt_of_lt_of_le (hI2.lt k hk) u4.size, hI2.nL, hI2.nD, hI2.nb, Nat.le_trans hI2.z u4.size⟩
        · obtain ⟨c1, f1, h1⟩ := own_kind hra j hj.symm.symm
          rw [h1] at ho; cases ho; rfl
        · rw [hdk, if_pos (by trivial), List.length_append, hm, valsC_append, hD0]
          have h4 := own_set hown3 kL3 (by decide) 0 (.slice (some ⟨g3, 0, none⟩) (m + 1) cap3)
          have e5 : valsC [e.key] = [.int .i64 9, .int .i64 k, .string e.key.2.2] := by simp [valsC, he9, hk]
          rw [e5]
          exact h4
        · obtain rfl : g3 = g := by simpa [Value.ownBlock] using hg
          rcases hat3 with q | q
          · exact r3 _ q e
          · have := hI2.lt _ e; omega
        · rcases e with e | e
          · exact own_blk_ne hr3 hI2.kD (by decide) e
          · omega
        · rcases e with e | e
          · exact own_blk_ne hr3 hI2.kb (by decide) e
          · omega
      have f3 := kL3.frozen 0
      have l3c : w3.cell? ⟨D0 + 1, 0, none⟩ = some (.slice ra m rcap) := by rw [kL3.cell]; rfl
      have l3 := kL3.lt
      have HF := Lib.hid hfin
      clear hfin hown3 hgrow3 hat3 hlt3 hI2 r1 r3 hdk kof hm he9 hk hpre hra kL3 u3 u4 hlow hr3 l0 l1 l1' c0 c1 c2 hnews
      gi_wp2_with (fail)
      exact HF.out
  case done =>
    intro O1 D V hD hnD hF hI hk
    obtain rfl : D = D0 + 3 := by omega
    clear hD
    obtain ⟨D', O', hTF, hsub, _, hlen⟩ := hF
    obtain rfl : D' = [] := List.length_eq_zero_iff.1 (by simpa using hlen)
    obtain ⟨lv, r1, r2, r3⟩ := hI.row
    obtain ⟨ra, rcap, rfl, hra⟩ := own_shape r2
    obtain ⟨m, hm⟩ : ∃ m, (deadK p wl).length = m := ⟨_, rfl⟩
    have hmb : m ≤ 4000 := by
      have h1 : (deadK p wl).length ≤ wl.length := by unfold deadK; rw [List.length_map]; exact List.length_filter_le _ _
      omega
    rw [hm] at r1 r2 r3 hra
    have l0 : V.cell? ⟨D0 + 1, 0, none⟩ = some (.slice ra m rcap) := by rw [r1.cell]; rfl
    have l1 := r1.lt
    have HV := Lib.hid (And.intro hI (And.intro r2 (And.intro r3 (And.intro hTF (And.intro hsub (And.intro hk (And.intro hm hnD)))))))
    clear hI r1 r2 r3 hTF hsub hk hm hnD hlen
    go_wp2_with (fail)
    refine wp_loop (fun a W => ∃ t : Nat → Value, ∃ j Oj, j ≤ m ∧ (TabA W Tw (((deadK p wl).take j).foldl (fun (X : List Ent) (k : K3) => delA k X) wl) [] Oj ∧ (∀ k, Oj k → O1 k ∨ V.heap.size ≤ k) ∧ Upd V W O1) ∧
      a = ⟨#[.pointer (some ⟨b, 0, none⟩), dead_V A, undef, .pointer (some ⟨D0, 0, none⟩), .pointer (some ⟨D0 + 1, 0, none⟩), undef, undef, t 7, .pointer (some ⟨b, 0, none⟩), .pointer (some ⟨b, 0, none⟩), .pointer (some ⟨b, 8, none⟩), .pointer (some ⟨Tw, 0, none⟩), .bool false, .pointer (some ⟨b, 0, none⟩), .pointer (some ⟨b, 0, none⟩), .pointer (some ⟨b, 8, none⟩), .pointer (some ⟨Tw, 0, none⟩), .func (.func 77) #[] #[.pointer (some ⟨D0 + 1 + 1, 0, none⟩)], undef, undef, undef, undef, undef, undef, undef, undef, undef, undef, .slice ra m rcap, .int .i64 (m : Int), .int .i64 (j : Int), t 31, t 32, t 33, t 34, t 35, t 36, t 37, t 38, t 39, t 40], [markD (D0 + 3)]⟩) (fun a _ => m - (intOf (a.tmps.getD 30 undef)).toNat) ?_ ?_
    · apply tmpsDp
      intro t ht
      exact ⟨t, 0, O', Nat.zero_le _, ⟨HV.out.2.2.2.1, fun k hk => .inl (HV.out.2.2.2.2.1 k hk), Upd.refl _ _⟩, ht⟩
    clear l0 l1
    rintro a W ⟨t, j, Oj, hj, ⟨hT, hOj, uW⟩, rfl⟩
    obtain ⟨hI, r2, r3, hTF, hsub, hk, hm, hnD⟩ := HV.out
    have hrow := uW.own r2 r3
    have hbw := uW.blk hI.kb hI.nb
    by_cases hlt : j < m
    · have t3 : decide ((j : Int) < (m : Int)) = true := by simp; omega
      have z0 : (0 : Int) ≤ (j : Int) := by omega
      have z1 : (j : Int) < (m : Int) := by omega
      have z2 : (j : Int).toNat = j := by omega
      have ac : IntKind.i64.wrap ((j : Int) + 1) = ((j + 1 : Nat) : Int) := by rw [IntWalk.i64_in _ (by omega)]; rfl
      obtain ⟨g, rfl⟩ := hra (by omega)
      obtain ⟨kk, hkk⟩ : ∃ kk, (deadK p wl)[j]? = some kk := ⟨_, List.getElem?_eq_getElem (by rw [hm]; exact hlt)⟩
      have hrow2 : W.ownsRow w.heap.size 34 3 (.slice (some ⟨g, 0, none⟩) m rcap) (deadK p wl).length (valsC (deadK p wl)) := by rw [hm]; exact hrow
      have e0 : W.cell? ⟨g, j * 3, none⟩ = some (.int .i64 kk.1) := own_elem hrow2 j kk hkk 0 (by decide)
      have e1 : W.cell? ⟨g, j * 3 + 1, none⟩ = some (.int .i64 kk.2.1) := own_elem hrow2 j kk hkk 1 (by decide)
      have e2 : W.cell? ⟨g, j * 3 + 2, none⟩ = some (.string kk.2.2) := own_elem hrow2 j kk hkk 2 (by decide)
      have htk : (deadK p wl).take (j + 1) = (deadK p wl).take j ++ [kk] := by
        rw [List.take_succ_eq_append_getElem (by rw [hm]; exact hlt)]
        rw [List.getElem?_eq_getElem (by rw [hm]; exact hlt)] at hkk
        cases hkk
        rfl
      have hks : kk.2.2.size ≤ 4000 := by
        obtain ⟨e, he, rfl⟩ := List.mem_map.1 (List.mem_of_getElem? hkk)
        exact (HB.out.2.2.2.1 e (List.mem_filter.1 he).1).2.2
      have hlenA : (((deadK p wl).take j).foldl (fun (X : List Ent) (k : K3) => delA k X) wl).length ≤ 4000 := by
        rw [foldl_del]
        exact Nat.le_trans (List.length_filter_le _ _) hwn
      have b8 : W.cell? ⟨b, 8, none⟩ = some (.pointer (some ⟨Tw, 0, none⟩)) := by rw [hbw.cell]; rfl
      have b9 := hbw.lt
      obtain ⟨S1, hS1⟩ : ∃ S1, W.heap.size = S1 := ⟨_, rfl⟩
      have b9' : b < S1 := hS1 ▸ b9
      have ba : Below W.heap.size W (W.alloc (.cells #[.int .i64 kk.1, .int .i64 kk.2.1, .string kk.2.2] 34)) := (Below.refl _ _).alloc (Nat.le_refl _) _
      have kk0 : Blk (W.alloc (.cells #[.int .i64 kk.1, .int .i64 kk.2.1, .string kk.2.2] 34)) S1 34 #[.int .i64 kk.1, .int .i64 kk.2.1, .string kk.2.2] := by rw [← hS1]; exact Blk.new _ _ _
      have HT := Lib.hid (And.intro hT (And.intro hOj (And.intro uW (And.intro ba (And.intro kk0 (And.intro hbw (And.intro htk (And.intro hks hlenA))))))))
      clear hT hOj uW hrow hrow2 hbw htk hks hlenA hkk hI r2 r3 hTF hsub hk hm hnD ba kk0
      go_wp2_with (fail)
      refine still_tail 5 (by kernel_rfl) (by kernel_rfl) (fun W2 hW2 => ?_)
      obtain ⟨hT, hOj, uW, ba, kk0, hbw, htk, hks, hlenA⟩ := HT.out
      have b2 : Below W.heap.size W W2 := by rw [hW2]; exact below_drw ba 1
      have kk2 : Blk W2 S1 34 #[.int .i64 kk.1, .int .i64 kk.2.1, .string kk.2.2] := by rw [hW2]; exact kk0.drewN 1
      have k0 : W2.cell? ⟨S1, 0, none⟩ = some (.int .i64 kk.1) := by rw [kk2.cell]; rfl
      have k1 : W2.cell? ⟨S1, 1, none⟩ = some (.int .i64 kk.2.1) := by rw [kk2.cell]; rfl
      have k2 : W2.cell? ⟨S1, 2, none⟩ = some (.string kk.2.2) := by rw [kk2.cell]; rfl
      have kb2 := hbw.below b2 hbw.lt
      have c8 : W2.cell? ⟨b, 8, none⟩ = some (.pointer (some ⟨Tw, 0, none⟩)) := by rw [kb2.cell]; rfl
      have c9 := kb2.lt
      have hdel := delete_any Tw _ [] Oj kk W2 (hT.below b2) hks (Nat.le_trans hlenA (by decide)) (by simp)
      have HD := Lib.hid (And.intro hdel (And.intro b2 (And.intro hOj (And.intro uW htk))))
      clear hT hOj uW ba kk0 hbw htk hks hlenA b2 kk2 kb2 hdel hW2 b8 b9 e0 e1 e2
      simp only [List.take_succ_cons, List.take_zero, List.drop_succ_cons, List.drop_zero]
      repeat still_step
      refine wpStill_nil ?_
      go_wp2_with (fail)
      refine HD.out.1.mono ?_
      rintro e W3 hP
      obtain ⟨hdel, b2, hOj, uW, htk⟩ := HD.out
      have hnew : ∃ O3, (∃ v, e = .returned v) ∧ TabA W3 Tw (((deadK p wl).take (j + 1)).foldl (fun (X : List Ent) (k : K3) => delA k X) wl) [] O3 ∧ (∀ k, O3 k → O1 k ∨ V.heap.size ≤ k) ∧ Upd V W3 O1 := by
        rw [htk, List.foldl_append]
        have uV2 : Upd V W2 O1 := uW.trans (Upd.of_below_all b2)
        rcases hP with ⟨rfl, hno, b3⟩ | ⟨rfl, _, hT3, u3⟩
        · refine ⟨Oj, ⟨_, rfl⟩, ?_, hOj, uV2.trans (Upd.of_below_all b3)⟩
          have e9 : delA kk (((deadK p wl).take j).foldl (fun (X : List Ent) (k : K3) => delA k X) wl) = ((deadK p wl).take j).foldl (fun (X : List Ent) (k : K3) => delA k X) wl := by
            unfold delA
            exact List.filter_eq_self.2 fun x hx => by simp only [hno x hx, Bool.not_false]
          show TabA W3 Tw (delA kk _) [] Oj
          rw [e9]
          exact (HT.out.1.below b2).below b3
        · exact ⟨_, ⟨_, rfl⟩, hT3, fun k hk => hk.elim (hOj k) (fun e => .inr (Nat.le_trans (Nat.le_trans uW.size b2.size) e.1)), Upd.join uV2 (u3.mono fun k _ e => hOj k e)⟩
      obtain ⟨O3, ⟨v3, rfl⟩, hT3, hO3, u3⟩ := hnew
      have H3 := Lib.hid (And.intro hT3 (And.intro hO3 u3))
      clear hT3 hO3 u3 hP hdel b2 hOj uW htk k0 k1 k2 c8 c9 HD HT
      go_wp2_with (fail)
      refine ⟨?_, ?_⟩
      · apply tmpsDp
        intro t' ht'
        exact ⟨t', j + 1, O3, by omega, H3.out, ht'⟩
      · show m - (intOf (.int .i64 ((j + 1 : Nat) : Int))).toNat < m - (intOf (.int .i64 (j : Int))).toNat
        simp only [intOf]; omega
    · obtain rfl : j = m := by omega
      have t3 : decide ((j : Int) < (j : Int)) = false := by simp
      rw [List.take_of_length_le (by rw [hm]; omega), drop_all p wl (fun e he => (HB.out.2.2.2.1 e he).1) (fun e he => (HB.out.2.2.2.1 e he).2.1)] at hT
      have hVs := hI.z
      have hdlt : D0 + 3 < V.heap.size := (Array.getElem?_eq_some_iff.1 hk).1
      have hdW : W.heap[D0 + 3]? = some (.deferred (some [])) := (uW.block _ hdlt hnD).trans hk
      have hDj : ¬ Oj (D0 + 3) := fun e => (hOj _ e).elim hnD (fun e => by omega)
      have hfo : ∀ k, Oj k → Ow k ∨ w.heap.size ≤ k := fun k hk => (hOj k hk).elim (fun e => (hI.o k e).imp id (fun e => by omega)) (fun e => .inr (Nat.le_trans hI.upd.size e))
      have hfu : Upd w W Ow := Upd.join hI.upd (uW.mono fun k _ e => (hI.o k e).imp id (fun e => by omega))
      have HF := Lib.hid (And.intro hT (And.intro hfu (And.intro hdW (And.intro hDj hfo))))
      clear hT hOj uW hrow hbw hI r2 r3 hTF hsub hk hm hnD hVs hdlt hdW hDj hfo hfu
      go_wp2_with (fail)
      refine marksOf (I := fun V1 => TabA V1 Tw (dropE p wl) [] Oj ∧ Upd w V1 Ow) [D0 + 3] ?_ ?_ [D0 + 3] W (fun _ h => h) (by simp) (fun E hE => by rw [List.mem_singleton.1 hE]; exact HF.out.2.2.1) ⟨HF.out.1, HF.out.2.1⟩
      · intro V1 E o h1 hE
        obtain rfl : E = D0 + 3 := List.mem_singleton.1 hE
        exact ⟨h1.1.upd (Upd.put V1 (D0 + 3) o) (fun k hk e => HF.out.2.2.2.1 (e ▸ hk)), Upd.join h1.2 ((Upd.put V1 (D0 + 3) o).mono fun k _ e => .inr (by omega))⟩
      · intro V1 h1
        exact ⟨_, results_none rfl _ _ _, ⟨_, rfl⟩, Oj, h1.1, HF.out.2.2.2.2, h1.2⟩
/-- No weak table. -/
abbrev every_V : Value := .func (.func 32) #[] #[]
theorem drop_nil_every (b T : Nat) (cl : Int) (tb fv : Value) (w : World) (hb : Blk w b 51 (objA cl 0 false T nilS tb (.pointer none) fv 0)) :
    Calls Tryd.prog 31 #[.pointer (some ⟨b, 0, none⟩), every_V] w fun en w' => (∃ v, en = .returned v) ∧ Below w.heap.size w w' := by
  have x8 : w.cell? ⟨b, 8, none⟩ = some (.pointer none) := by rw [hb.cell]; rfl
  have hl := hb.lt
  clear hb
  go_enter Tryd.func31, Tryd.ntmps31
  go_wp2
  refine bodyPost_ret (results_none rfl _ _ _) rfl ?_
  exact ⟨⟨_, rfl⟩, (Below.refl _ _).alloc (Nat.le_refl _) _⟩
/-- While the weak table is ranged over: the function's box, the object, the list of dead keys. -/
structure Dpevery (w w2 : World) (b D0 L Tw : Nat) (obj : Array Value) (p : Int → Bool) (Ow : Nat → Prop) (pre : List Ent) (O1 : Nat → Prop) (W : World) : Prop where
  row : ∃ lv, Blk W L 45 #[lv] ∧ W.ownsRow w.heap.size 34 3 lv (deadK p pre).length (valsC (deadK p pre)) ∧ ∀ g, lv.ownBlock = some g → ¬ O1 g
  kD : Blk W D0 68 #[every_V]
  kb : Blk W b 51 obj
  upd : Upd w W Ow
  o : ∀ k, O1 k → Ow k ∨ w2.heap.size ≤ k
  lt : ∀ k, O1 k → k < W.heap.size
  nL : ¬ O1 L
  nD : ¬ O1 D0
  nb : ¬ O1 b
  z : w2.heap.size + 2 ≤ W.heap.size
section
variable {w w2 W W' : World} {b D0 L Tw : Nat} {obj : Array Value} {p : Int → Bool} {Ow O1 O1' : Nat → Prop} {pre : List Ent}
theorem Dpevery.turn (h : Dpevery  w w2 b D0 L Tw obj p Ow pre O1 W) (u : Upd W W' O1) (hw : w.heap.size ≤ w2.heap.size) (h2 : ∀ k, O1' k → O1 k ∨ W.heap.size ≤ k) (h3 : ∀ k, O1' k → k < W'.heap.size) : Dpevery  w w2 b D0 L Tw obj p Ow pre O1' W' := by
  obtain ⟨lv, r1, r2, r3⟩ := h.row
  have hz := h.z
  have n : ∀ k, k < W.heap.size → ¬ O1 k → ¬ O1' k := fun k hk hn e => (h2 k e).elim hn (fun e => by omega)
  exact ⟨⟨lv, u.blk r1 h.nL, u.own r2 r3, fun g hg => n g (r2.lt g hg).2 (r3 g hg)⟩, u.blk h.kD h.nD, u.blk h.kb h.nb, Upd.join h.upd (u.mono fun k _ e => (h.o k e).imp id (fun e => by omega)), fun k hk => (h2 k hk).elim (h.o k) (fun e => .inr (by omega)), h3, n _ r1.lt h.nL, n _ h.kD.lt h.nD, n _ h.kb.lt h.nb, Nat.le_trans hz u.size⟩
theorem Dpevery.put (h : Dpevery  w w2 b D0 L Tw obj p Ow pre O1 W) {l : Nat} {o : Obj} (o' : Obj) (hl : W.heap[l]? = some o) (ho : o.isCells = false) (hlw : w.heap.size ≤ l) : Dpevery  w w2 b D0 L Tw obj p Ow pre O1 (W.putObj l o') := by
  obtain ⟨lv, r1, r2, r3⟩ := h.row
  have u := Upd.put W l o'
  have nb : ∀ {g : Nat} {t : TypeId} {xs : Array Value}, Blk W g t xs → ¬ g = l := fun hb e => by subst e; rw [show W.heap[_]? = _ from hb] at hl; cases hl; cases ho
  refine ⟨⟨lv, u.blk r1 (nb r1), u.own r2 (fun g hg e => ?_), r3⟩, u.blk h.kD (nb h.kD), u.blk h.kb (nb h.kb), Upd.join h.upd (u.mono fun k _ e => .inr (e ▸ hlw)), h.o, fun k hk => Nat.lt_of_lt_of_le (h.lt k hk) u.size, h.nL, h.nD, h.nb, Nat.le_trans h.z u.size⟩
  subst e
  obtain ⟨c, f, h1⟩ := own_kind r2 _ hg
  rw [h1] at hl; cases hl; cases ho
end
set_option maxHeartbeats 40000000 in
set_option maxRecDepth 100000 in
theorem drop_every (p : Int → Bool) (b T Tw : Nat) (cl : Int) (tb fv : Value) (wl : List Ent) (Ow : Nat → Prop) (w : World) (hb : Blk w b 51 (objA cl 0 false T nilS tb (.pointer (some ⟨Tw, 0, none⟩)) fv 0)) (hT : TabA w Tw wl [] Ow) (hbO : ¬ Ow b) (hwl : ∀ e ∈ wl, ObEnt e ∧ e.grave = false ∧ e.key.2.2.size ≤ 4000) (hwn : wl.length ≤ 4000)
    (hd : ∀ W k, Upd w W Ow → Calls Tryd.prog 32 #[.int .i64 k] W fun e w' => e = .returned (.bool (p k)) ∧ Below W.heap.size W w') :
    Calls Tryd.prog 31 #[.pointer (some ⟨b, 0, none⟩), every_V] w fun en w' => (∃ v, en = .returned v) ∧
      ∃ O', TabA w' Tw (dropE p wl) [] O' ∧ (∀ k, O' k → Ow k ∨ w.heap.size ≤ k) ∧ Upd w w' Ow := by
  have x8 : w.cell? ⟨b, 8, none⟩ = some (.pointer (some ⟨Tw, 0, none⟩)) := by rw [hb.cell]; rfl
  obtain ⟨D0, hD0⟩ : ∃ D0, w.heap.size = D0 := ⟨_, rfl⟩
  have hbD : b < D0 := hD0 ▸ hb.lt
  obtain ⟨i0, hi, hz0, hz1, hz2⟩ := info_parts infoVal
  have HB := Lib.hid (And.intro hb (And.intro hT (And.intro hbO (And.intro hwl hd))))
  clear hb hT hbO hwl hd
  refine callsM_of_wp Tryd.func31 rfl ?_
  simp only [Tryd.ntmps31, List.size_toArray, List.length_cons, List.length_nil, Nat.reduceAdd, Nat.reduceSub, Array.replicate_succ, Array.replicate_zero, List.push_toArray, List.append_toArray, List.nil_append, List.cons_append]
  go_wp2_with (go_at_call 55; refine (all_fn Tw _).mono ?_; rintro e w2 ⟨rfl, rfl⟩)
  obtain ⟨hb, hT, hbO, hwl, hd⟩ := HB.out
  have hOl := hT.lt
  obtain ⟨W2, hW2⟩ : ∃ W2, ((w.alloc (.cells #[every_V] 68)).alloc (.cells #[.slice none 0 0] 45)).alloc (.cells #[.pointer (some ⟨Tw, 0, none⟩)] 44) = W2 := ⟨_, rfl⟩
  have b2 : Below w.heap.size w W2 := by rw [← hW2]; exact (((Below.refl _ _).alloc (Nat.le_refl _) _).alloc (by simp) _).alloc (by simp; omega) _
  have sz2 : W2.heap.size = D0 + 3 := by rw [← hW2, ← hD0]; simp
  have kD : Blk W2 D0 68 #[every_V] := by rw [← hW2, ← hD0]; exact ((Blk.new w _ _).alloc _).alloc _
  have kL : Blk W2 (D0 + 1) 45 #[.slice none 0 0] := by
    rw [← hW2, ← hD0]
    have := Blk.new (w.alloc (.cells #[every_V] 68)) 45 #[.slice none 0 0]
    rw [World.size_alloc] at this
    exact this.alloc _
  have kB : Blk W2 (D0 + 1 + 1) 44 #[.pointer (some ⟨Tw, 0, none⟩)] := by
    rw [← hW2, ← hD0]
    have := Blk.new ((w.alloc (.cells #[every_V] 68)).alloc (.cells #[.slice none 0 0] 45)) 44 #[.pointer (some ⟨Tw, 0, none⟩)]
    rw [World.size_alloc, World.size_alloc] at this
    exact this
  have kb2 := hb.below b2 hb.lt
  have hT2 := hT.below b2
  have H2 := Lib.hid (And.intro b2 (And.intro kD (And.intro kL (And.intro kB (And.intro kb2 (And.intro hT2 hOl))))))
  rw [hW2]
  clear hW2 hb hT hbO hwl hd hOl kD kL kB kb2 hT2 x8 b2
  refine wpIn_wide.1 (wpIn_range_b (F := Fence.wide) (n := 9) rfl (by decide) (gf := 77) (argsOf := fun l => #[.func (.yield l) #[] #[], .pointer (some ⟨D0 + 1 + 1, 0, none⟩)]) ?res (encs := fun x : Ent => #[VK x.key, VK x.val]) (fun _ => rfl) wl False Ow ?lt0 (AllFin Tw wl []) ?seq (fun O1 W' l o hF hl => hF.put hl o)
    (fun O1 pre W' => Dpevery  w W2 b D0 (D0 + 1) Tw (objA cl 0 false T nilS tb (.pointer (some ⟨Tw, 0, none⟩)) fv 0) p Ow pre O1 W') (fun _ _ _ _ => False) (fun _ _ _ _ h => h) ?iup ?igr (fun _ _ _ _ _ h _ => h) ?iput (fun _ _ _ _ _ _ _ h _ _ _ => h) ?h0
    (fun O1 pre e a' W' => ∃ b1, a' = ⟨#[.pointer (some ⟨b, 0, none⟩), every_V, undef, .pointer (some ⟨D0, 0, none⟩), .pointer (some ⟨D0 + 1, 0, none⟩), .pointer (some ⟨b1, 0, none⟩), undef, undef, .pointer (some ⟨b, 0, none⟩), .pointer (some ⟨b, 0, none⟩), .pointer (some ⟨b, 8, none⟩), .pointer (some ⟨Tw, 0, none⟩), .bool false, .pointer (some ⟨b, 0, none⟩), .pointer (some ⟨b, 0, none⟩), .pointer (some ⟨b, 8, none⟩), .pointer (some ⟨Tw, 0, none⟩), .func (.func 77) #[] #[.pointer (some ⟨D0 + 1 + 1, 0, none⟩)], VK e.key, VK e.val, undef, undef, undef, undef, undef, undef, undef, undef, undef, undef, undef, undef, undef, undef, undef, undef, undef, undef, undef, undef, undef], []⟩ ∧ Blk W' b1 34 #[.int .i64 e.key.1, .int .i64 e.key.2.1, .string e.key.2.2]) ?ax ?assign ?body ?done (fun _ _ _ _ _ _ _ _ h _ => h.elim))
  case res => exact fun l W => ⟨({ target := .fn (.func 77) #[.pointer (some ⟨D0 + 1 + 1, 0, none⟩)], args := #[.func (.yield l) #[] #[]] } : Deferred), by kernel_rfl, fun _ _ => trivial, by kernel_rfl⟩
  case lt0 => exact fun k hk => Nat.lt_of_lt_of_le (H2.out.2.2.2.2.2.2 k hk) H2.out.1.size
  case seq => exact fun l W' u => all_b 8 (by decide) l Tw wl [] Ow False W' (D0 + 1 + 1) (u.blk H2.out.2.2.2.1 (fun h => h)) (H2.out.2.2.2.2.2.1.upd u (fun _ _ h => h)) (by omega) (by simp)
  case iup => exact fun O1 pre V V' h u => h.turn u H2.out.1.size (fun k hk => .inl hk) (fun k hk => Nat.lt_of_lt_of_le (h.lt k hk) u.size)
  case igr => exact fun O1 O1' pre V V' h u g1 g2 g3 => h.turn u H2.out.1.size g2 g3
  case iput => exact fun O1 pre V l' o o' h hl hk ho' => h.put o' hk ho' (by omega)
  case h0 =>
    intro O1 V u hsz hO1 hlt
    obtain ⟨b2, kD, kL, kB, kb2, hT2, hOl⟩ := H2.out
    have nO : ∀ k, D0 ≤ k → ¬ Ow k := fun k hk e => by have := hOl k e; omega
    have nO1 : ∀ k, k < W2.heap.size → ¬ Ow k → ¬ O1 k := fun k hk h e => (hO1 k e).elim h (fun e => by omega)
    exact ⟨⟨.slice none 0 0, u.blk kL (nO _ (by omega)), World.ownsRow_nil _ _ _ _, fun g hg => by (simp [Value.ownBlock] at hg)⟩, u.blk kD (nO _ (by omega)), u.blk kb2 HB.out.2.2.1, (Upd.of_below_all b2).trans u, hO1, hlt, nO1 _ (by omega) (nO _ (by omega)), nO1 _ (by omega) (nO _ (by omega)), nO1 _ (by omega) HB.out.2.2.1, hsz⟩
  case ax =>
    rintro O1 pre e a' V l' o o' ⟨b1, rfl, k1⟩ hl hk ho'
    have nb : ∀ {g : Nat} {t : TypeId} {xs : Array Value}, Blk V g t xs → ¬ g = l' := fun hb e => by subst e; rw [show V.heap[_]? = _ from hb] at hk; cases hk; cases ho'
    exact ⟨b1, rfl, (Upd.put V l' o').blk k1 (nb k1)⟩
  case assign =>
    intro l' O1 pre e V K1 hI1 _ hK1
    gi_wp2
    have b1 := ((Below.refl V.heap.size V).alloc (Nat.le_refl _) (.cells #[.int .i64 e.key.1, .int .i64 e.key.2.1, .string e.key.2.2] 34))
    exact hK1 _ _ (KeepsOthers.alloc _ _) (Upd.of_below_all b1) (hI1.turn (Upd.of_below_all b1) H2.out.1.size (fun k hk => .inl hk) (fun k hk => Nat.lt_of_lt_of_le (hI1.lt k hk) b1.size)) ⟨_, rfl, Blk.new V _ _⟩
  case body =>
    rintro l' O1 pre e a' V hI1 ⟨b1, rfl, k1⟩ hpre
    obtain ⟨⟨he9, hv9⟩, hgr, hks⟩ := HB.out.2.2.2.1 e (hpre.subset (by simp))
    have y0 : V.cell? ⟨D0, 0, none⟩ = some (every_V) := by rw [hI1.kD.cell]; rfl
    have c0 : V.cell? ⟨b1, 0, none⟩ = some (.int .i64 9) := by rw [k1.cell, ← he9]; rfl
    have c1 : V.cell? ⟨b1, 1, none⟩ = some (.int .i64 e.key.2.1) := by rw [k1.cell]; rfl
    have c2 : V.cell? ⟨b1, 2, none⟩ = some (.string e.key.2.2) := by rw [k1.cell]; rfl
    have q0 := fun d os => cell_regrown y0 d os
    have q1 := fun d os => cell_regrown c0 d os
    have q2 := fun d os => cell_regrown c1 d os
    have q3 := fun d os => cell_regrown c2 d os
    obtain ⟨k, hk⟩ : ∃ k : Int, e.key.2.1 = k := ⟨_, rfl⟩
    obtain ⟨pb, hpb⟩ : ∃ pb, p k = pb := ⟨_, rfl⟩
    have hdV := fun (d : Nat) (os : Array Obj) => (HB.out.2.2.2.2 (grow (redrawn V d) os) k (hI1.upd.trans (Upd.of_below_all (below_regrown V d os))))
    rw [hpb] at hdV
    rw [hk] at c1 q2
    have D1 := fun r d os => CallsIn.regrown_of (F := Fence.wide.inRound l') (r := r) (callsIn_wide.2 (ref_obj k e.key.2.2 (grow (redrawn V d) os)))
    have D2 := fun r d os => CallsIn.regrown_of (F := Fence.wide.inRound l') (r := r) (callsIn_wide.2 (hdV d os))
    have HI1 := Lib.hid (And.intro hI1 (And.intro k1 (And.intro he9 (And.intro hk (And.intro hpb hpre)))))
    clear hdV y0 c0 c1 c2 hI1 k1 he9 hv9 hgr hks hpre hpb hk
    gi_wp2_with (fail)
    refine quietR_below (by kernel_rfl) (by kernel_rfl) (by kernel_rfl) ?_
    repeat (
      refine wpQuietIn_step (fun _ _ _ _ => trivial) (fun K hK => ?_)
      go_simp
      first
        | (refine hK _ ?_; clear hK K)
        | (apply Exists.intro
           refine ⟨fun _ => ?_, hK _ ?_⟩
           (first | with_reducible exact D1 _ _ _ | with_reducible exact D2 _ _ _ | exact ⟨trivial, D1 _ _ _⟩ | exact ⟨trivial, D2 _ _ _⟩ | exact D1 _ _ _ | exact D2 _ _ _)
           clear hK K))
    refine wpQuietIn_nil ?_
    rintro V2 ⟨⟨dq, osq⟩, hV2⟩
    have bV2 : Below V.heap.size V V2 := by rw [hV2]; exact below_regrown V dq osq
    obtain ⟨hI1, k1, he9, hk, hpb, hpre⟩ := HI1.out
    have hI2 := hI1.turn (Upd.of_below_all bV2) H2.out.1.size (fun k hk => .inl hk) (fun k hk => Nat.lt_of_lt_of_le (hI1.lt k hk) bV2.size)
    have k2 := k1.below bV2 k1.lt
    obtain ⟨lv, r1, r2, r3⟩ := hI2.row
    have hdk : deadK p (pre ++ [e]) = deadK p pre ++ if pb = true then [e.key] else [] := by
      unfold deadK
      rw [List.filter_append, List.map_append]
      congr 1
      rw [← hpb, ← hk]
      by_cases h : p e.key.2.1 = true
      · simp [h]
      · simp [h]
    have hlenp : (deadK p pre).length ≤ 4000 := by
      have h1 : (deadK p pre).length ≤ pre.length := by unfold deadK; rw [List.length_map]; exact List.length_filter_le _ _
      have h2 := hpre.length_le
      simp at h2
      omega
    have kof : KeepsOthers V V2 := ⟨bV2.size, fun k o hk _ => (bV2.block k (Array.getElem?_eq_some_iff.1 hk).1).trans hk⟩
    cases pb with
    | false =>
      have hfin : stepsOn O1 (fun pre W' => Dpevery  w W2 b D0 (D0 + 1) Tw (objA cl 0 false T nilS tb (.pointer (some ⟨Tw, 0, none⟩)) fv 0) p Ow pre O1 W') (fun _ _ _ => False) (pre ++ [e]) V .normal ⟨#[], []⟩ V2 := ⟨kof, Upd.of_below_all bV2, by
        refine ⟨⟨lv, r1, ?_, r3⟩, hI2.kD, hI2.kb, hI2.upd, hI2.o, hI2.lt, hI2.nL, hI2.nD, hI2.nb, hI2.z⟩
        rw [hdk, if_neg (by decide), List.append_nil]
        exact r2⟩
      have HF := Lib.hid hfin
      clear hfin hI1 hI2 k1 k2 he9 hk hpb hpre r1 r2 r3 hdk hlenp kof hV2 bV2 q0 q1 q2 q3 D1 D2
      gi_wp2_with (fail)
      exact HF.out
    | true =>
      obtain ⟨ra, rcap, rfl, _⟩ := own_shape r2
      obtain ⟨m, hm⟩ : ∃ m, (deadK p pre).length = m := ⟨_, rfl⟩
      rw [hm] at r1 r2 r3 hlenp
      obtain ⟨S2, hS2⟩ : ∃ S2, V2.heap.size = S2 := ⟨_, rfl⟩
      have l0 : V2.cell? ⟨D0 + 1, 0, none⟩ = some (.slice ra m rcap) := by rw [r1.cell]; rfl
      have l1 := r1.lt
      have l1' : D0 + 1 < S2 := hS2 ▸ l1
      have c0 : V2.cell? ⟨b1, 0, none⟩ = some (.int .i64 9) := by rw [k2.cell, ← he9]; rfl
      have c1 : V2.cell? ⟨b1, 1, none⟩ = some (.int .i64 k) := by rw [k2.cell, ← hk]; rfl
      have c2 : V2.cell? ⟨b1, 2, none⟩ = some (.string e.key.2.2) := by rw [k2.cell]; rfl
      have hnews := World.news_of_block (cs := #[.int .i64 9, .int .i64 k, .string e.key.2.2]) (t := 34) (fr := (0, 0)) (heap_alloc_new V2 (.cells #[.int .i64 9, .int .i64 k, .string e.key.2.2] 34))
      rw [hS2] at hnews
      have hb0 : D0 ≤ S2 := by omega
      have hr3 := r2
      have HK := Lib.hid (And.intro hI2 (And.intro r1 (And.intro r3 (And.intro hdk (And.intro kof (And.intro hm (And.intro he9 (And.intro hk hpre))))))))
      clear hI1 hI2 k1 k2 he9 hk hpb hpre r1 r3 hdk kof hV2 q0 q1 q2 q3 D1 D2 hm r2
      rw [hD0] at hr3
      gi_wp2_with (gi_at_builtin; refine wpListIn_append_lies rfl _ _ 45 rfl D0 34 i0 _ 3 32 Tryd.underlying45 hi hz0 hz1 hz2 rfl (by decide) _ _ _ rfl (hr3.alloc _) ⟨S2, 0, none⟩ 1 1 [.int .i64 9, .int .i64 k, .string e.key.2.2] rfl rfl hnews (by simp [Value.oneCell']) (by decide) (by unfold maxLen; omega) (by omega) (by simp; omega) _ rfl ?_)
      intro g3 cap3 w3 hown3 hgrow3 hat3 hlt3
      obtain ⟨hI2, r1, r3, hdk, kof, hm, he9, hk, hpre⟩ := HK.out
      have hra : (V2.alloc (.cells #[.int .i64 9, .int .i64 k, .string e.key.2.2] 34)).ownsRow D0 34 3 (.slice ra m rcap) m (valsC (deadK p pre)) := hr3.alloc _
      have kL3 : Blk w3 (D0 + 1) 45 #[.slice ra m rcap] := Blk.grown (r1.alloc _) hgrow3 (fun e => own_blk_ne hra (r1.alloc _) (by decide) e.symm)
      have u3 : Upd V2 w3 (fun k => (Value.slice ra m rcap).ownBlock = some k) := ((Upd.refl V2 _).alloc _).grown hgrow3 (fun k e => e)
      have u4 : Upd V2 (w3.setCell ⟨D0 + 1, 0, none⟩ (.slice (some ⟨g3, 0, none⟩) (m + 1) cap3)) (fun k => (Value.slice ra m rcap).ownBlock = some k ∨ k = D0 + 1) := (u3.mono fun k _ e => .inl e).set (D0 + 1) 0 _ (.inr rfl)
      have hlow : ∀ k, ((Value.slice ra m rcap).ownBlock = some k ∨ k = D0 + 1) → D0 ≤ k ∧ ¬ O1 k := fun k hk => by
        rcases hk with hk | rfl
        · exact ⟨(hr3.lt k hk).1, r3 k hk⟩
        · exact ⟨by omega, hI2.nL⟩
      have hfin : stepsOn O1 (fun pre W' => Dpevery  w W2 b D0 (D0 + 1) Tw (objA cl 0 false T nilS tb (.pointer (some ⟨Tw, 0, none⟩)) fv 0) p Ow pre O1 W') (fun _ _ _ => False) (pre ++ [e]) V .normal ⟨#[], []⟩ (w3.setCell ⟨D0 + 1, 0, none⟩ (.slice (some ⟨g3, 0, none⟩) (m + 1) cap3)) := by
        refine ⟨(((kof.trans (KeepsOthers.alloc V2 _)).trans (KeepsOthers.of_grownBy hgrow3 (fun j o hj ho => ?_)))).trans (KeepsOthers.setCell _ _ _), (Upd.of_below_all bV2).trans (u4.mono fun k _ e => (hlow k e).2), ⟨.slice (some ⟨g3, 0, none⟩) (m + 1) cap3, kL3.set_ 0 _, ?_, fun g hg e => ?_⟩, u4.blk hI2.kD (fun e => ?_), u4.blk hI2.kb (fun e => ?_), Upd.join hI2.upd (u4.mono fun k _ e => .inr (by have := (hlow k e).1; omega)), hI2.o, fun k hk => Nat.lt_of_lt_of_le (hI2.lt k hk) u4.size, hI2.nL, hI2.nD, hI2.nb, Nat.le_trans hI2.z u4.size⟩
        · obtain ⟨c1, f1, h1⟩ := own_kind hra j hj.symm.symm
          rw [h1] at ho; cases ho; rfl
        · rw [hdk, if_pos (by trivial), List.length_append, hm, valsC_append, hD0]
          have h4 := own_set hown3 kL3 (by decide) 0 (.slice (some ⟨g3, 0, none⟩) (m + 1) cap3)
          have e5 : valsC [e.key] = [.int .i64 9, .int .i64 k, .string e.key.2.2] := by simp [valsC, he9, hk]
          rw [e5]
          exact h4
        · obtain rfl : g3 = g := by simpa [Value.ownBlock] using hg
          rcases hat3 with q | q
          · exact r3 _ q e
          · have := hI2.lt _ e; omega
        · rcases e with e | e
          · exact own_blk_ne hr3 hI2.kD (by decide) e
          · omega
        · rcases e with e | e
          · exact own_blk_ne hr3 hI2.kb (by decide) e
          · omega
      have f3 := kL3.frozen 0
      have l3c : w3.cell? ⟨D0 + 1, 0, none⟩ = some (.slice ra m rcap) := by rw [kL3.cell]; rfl
      have l3 := kL3.lt
      have HF := Lib.hid hfin
      clear hfin hown3 hgrow3 hat3 hlt3 hI2 r1 r3 hdk kof hm he9 hk hpre hra kL3 u3 u4 hlow hr3 l0 l1 l1' c0 c1 c2 hnews
      gi_wp2_with (fail)
      exact HF.out
  case done =>
    intro O1 D V hD hnD hF hI hk
    obtain rfl : D = D0 + 3 := by omega
    clear hD
    obtain ⟨D', O', hTF, hsub, _, hlen⟩ := hF
    obtain rfl : D' = [] := List.length_eq_zero_iff.1 (by simpa using hlen)
    obtain ⟨lv, r1, r2, r3⟩ := hI.row
    obtain ⟨ra, rcap, rfl, hra⟩ := own_shape r2
    obtain ⟨m, hm⟩ : ∃ m, (deadK p wl).length = m := ⟨_, rfl⟩
    have hmb : m ≤ 4000 := by
      have h1 : (deadK p wl).length ≤ wl.length := by unfold deadK; rw [List.length_map]; exact List.length_filter_le _ _
      omega
    rw [hm] at r1 r2 r3 hra
    have l0 : V.cell? ⟨D0 + 1, 0, none⟩ = some (.slice ra m rcap) := by rw [r1.cell]; rfl
    have l1 := r1.lt
    have HV := Lib.hid (And.intro hI (And.intro r2 (And.intro r3 (And.intro hTF (And.intro hsub (And.intro hk (And.intro hm hnD)))))))
    clear hI r1 r2 r3 hTF hsub hk hm hnD hlen
    go_wp2_with (fail)
    refine wp_loop (fun a W => ∃ t : Nat → Value, ∃ j Oj, j ≤ m ∧ (TabA W Tw (((deadK p wl).take j).foldl (fun (X : List Ent) (k : K3) => delA k X) wl) [] Oj ∧ (∀ k, Oj k → O1 k ∨ V.heap.size ≤ k) ∧ Upd V W O1) ∧
      a = ⟨#[.pointer (some ⟨b, 0, none⟩), every_V, undef, .pointer (some ⟨D0, 0, none⟩), .pointer (some ⟨D0 + 1, 0, none⟩), undef, undef, t 7, .pointer (some ⟨b, 0, none⟩), .pointer (some ⟨b, 0, none⟩), .pointer (some ⟨b, 8, none⟩), .pointer (some ⟨Tw, 0, none⟩), .bool false, .pointer (some ⟨b, 0, none⟩), .pointer (some ⟨b, 0, none⟩), .pointer (some ⟨b, 8, none⟩), .pointer (some ⟨Tw, 0, none⟩), .func (.func 77) #[] #[.pointer (some ⟨D0 + 1 + 1, 0, none⟩)], undef, undef, undef, undef, undef, undef, undef, undef, undef, undef, .slice ra m rcap, .int .i64 (m : Int), .int .i64 (j : Int), t 31, t 32, t 33, t 34, t 35, t 36, t 37, t 38, t 39, t 40], [markD (D0 + 3)]⟩) (fun a _ => m - (intOf (a.tmps.getD 30 undef)).toNat) ?_ ?_
    · apply tmpsDp
      intro t ht
      exact ⟨t, 0, O', Nat.zero_le _, ⟨HV.out.2.2.2.1, fun k hk => .inl (HV.out.2.2.2.2.1 k hk), Upd.refl _ _⟩, ht⟩
    clear l0 l1
    rintro a W ⟨t, j, Oj, hj, ⟨hT, hOj, uW⟩, rfl⟩
    obtain ⟨hI, r2, r3, hTF, hsub, hk, hm, hnD⟩ := HV.out
    have hrow := uW.own r2 r3
    have hbw := uW.blk hI.kb hI.nb
    by_cases hlt : j < m
    · have t3 : decide ((j : Int) < (m : Int)) = true := by simp; omega
      have z0 : (0 : Int) ≤ (j : Int) := by omega
      have z1 : (j : Int) < (m : Int) := by omega
      have z2 : (j : Int).toNat = j := by omega
      have ac : IntKind.i64.wrap ((j : Int) + 1) = ((j + 1 : Nat) : Int) := by rw [IntWalk.i64_in _ (by omega)]; rfl
      obtain ⟨g, rfl⟩ := hra (by omega)
      obtain ⟨kk, hkk⟩ : ∃ kk, (deadK p wl)[j]? = some kk := ⟨_, List.getElem?_eq_getElem (by rw [hm]; exact hlt)⟩
      have hrow2 : W.ownsRow w.heap.size 34 3 (.slice (some ⟨g, 0, none⟩) m rcap) (deadK p wl).length (valsC (deadK p wl)) := by rw [hm]; exact hrow
      have e0 : W.cell? ⟨g, j * 3, none⟩ = some (.int .i64 kk.1) := own_elem hrow2 j kk hkk 0 (by decide)
      have e1 : W.cell? ⟨g, j * 3 + 1, none⟩ = some (.int .i64 kk.2.1) := own_elem hrow2 j kk hkk 1 (by decide)
      have e2 : W.cell? ⟨g, j * 3 + 2, none⟩ = some (.string kk.2.2) := own_elem hrow2 j kk hkk 2 (by decide)
      have htk : (deadK p wl).take (j + 1) = (deadK p wl).take j ++ [kk] := by
        rw [List.take_succ_eq_append_getElem (by rw [hm]; exact hlt)]
        rw [List.getElem?_eq_getElem (by rw [hm]; exact hlt)] at hkk
        cases hkk
        rfl
      have hks : kk.2.2.size ≤ 4000 := by
        obtain ⟨e, he, rfl⟩ := List.mem_map.1 (List.mem_of_getElem? hkk)
        exact (HB.out.2.2.2.1 e (List.mem_filter.1 he).1).2.2
      have hlenA : (((deadK p wl).take j).foldl (fun (X : List Ent) (k : K3) => delA k X) wl).length ≤ 4000 := by
        rw [foldl_del]
        exact Nat.le_trans (List.length_filter_le _ _) hwn
      have b8 : W.cell? ⟨b, 8, none⟩ = some (.pointer (some ⟨Tw, 0, none⟩)) := by rw [hbw.cell]; rfl
      have b9 := hbw.lt
      obtain ⟨S1, hS1⟩ : ∃ S1, W.heap.size = S1 := ⟨_, rfl⟩
      have b9' : b < S1 := hS1 ▸ b9
      have ba : Below W.heap.size W (W.alloc (.cells #[.int .i64 kk.1, .int .i64 kk.2.1, .string kk.2.2] 34)) := (Below.refl _ _).alloc (Nat.le_refl _) _
      have kk0 : Blk (W.alloc (.cells #[.int .i64 kk.1, .int .i64 kk.2.1, .string kk.2.2] 34)) S1 34 #[.int .i64 kk.1, .int .i64 kk.2.1, .string kk.2.2] := by rw [← hS1]; exact Blk.new _ _ _
      have HT := Lib.hid (And.intro hT (And.intro hOj (And.intro uW (And.intro ba (And.intro kk0 (And.intro hbw (And.intro htk (And.intro hks hlenA))))))))
      clear hT hOj uW hrow hrow2 hbw htk hks hlenA hkk hI r2 r3 hTF hsub hk hm hnD ba kk0
      go_wp2_with (fail)
      refine still_tail 5 (by kernel_rfl) (by kernel_rfl) (fun W2 hW2 => ?_)
      obtain ⟨hT, hOj, uW, ba, kk0, hbw, htk, hks, hlenA⟩ := HT.out
      have b2 : Below W.heap.size W W2 := by rw [hW2]; exact below_drw ba 1
      have kk2 : Blk W2 S1 34 #[.int .i64 kk.1, .int .i64 kk.2.1, .string kk.2.2] := by rw [hW2]; exact kk0.drewN 1
      have k0 : W2.cell? ⟨S1, 0, none⟩ = some (.int .i64 kk.1) := by rw [kk2.cell]; rfl
      have k1 : W2.cell? ⟨S1, 1, none⟩ = some (.int .i64 kk.2.1) := by rw [kk2.cell]; rfl
      have k2 : W2.cell? ⟨S1, 2, none⟩ = some (.string kk.2.2) := by rw [kk2.cell]; rfl
      have kb2 := hbw.below b2 hbw.lt
      have c8 : W2.cell? ⟨b, 8, none⟩ = some (.pointer (some ⟨Tw, 0, none⟩)) := by rw [kb2.cell]; rfl
      have c9 := kb2.lt
      have hdel := delete_any Tw _ [] Oj kk W2 (hT.below b2) hks (Nat.le_trans hlenA (by decide)) (by simp)
      have HD := Lib.hid (And.intro hdel (And.intro b2 (And.intro hOj (And.intro uW htk))))
      clear hT hOj uW ba kk0 hbw htk hks hlenA b2 kk2 kb2 hdel hW2 b8 b9 e0 e1 e2
      simp only [List.take_succ_cons, List.take_zero, List.drop_succ_cons, List.drop_zero]
      repeat still_step
      refine wpStill_nil ?_
      go_wp2_with (fail)
      refine HD.out.1.mono ?_
      rintro e W3 hP
      obtain ⟨hdel, b2, hOj, uW, htk⟩ := HD.out
      have hnew : ∃ O3, (∃ v, e = .returned v) ∧ TabA W3 Tw (((deadK p wl).take (j + 1)).foldl (fun (X : List Ent) (k : K3) => delA k X) wl) [] O3 ∧ (∀ k, O3 k → O1 k ∨ V.heap.size ≤ k) ∧ Upd V W3 O1 := by
        rw [htk, List.foldl_append]
        have uV2 : Upd V W2 O1 := uW.trans (Upd.of_below_all b2)
        rcases hP with ⟨rfl, hno, b3⟩ | ⟨rfl, _, hT3, u3⟩
        · refine ⟨Oj, ⟨_, rfl⟩, ?_, hOj, uV2.trans (Upd.of_below_all b3)⟩
          have e9 : delA kk (((deadK p wl).take j).foldl (fun (X : List Ent) (k : K3) => delA k X) wl) = ((deadK p wl).take j).foldl (fun (X : List Ent) (k : K3) => delA k X) wl := by
            unfold delA
            exact List.filter_eq_self.2 fun x hx => by simp only [hno x hx, Bool.not_false]
          show TabA W3 Tw (delA kk _) [] Oj
          rw [e9]
          exact (HT.out.1.below b2).below b3
        · exact ⟨_, ⟨_, rfl⟩, hT3, fun k hk => hk.elim (hOj k) (fun e => .inr (Nat.le_trans (Nat.le_trans uW.size b2.size) e.1)), Upd.join uV2 (u3.mono fun k _ e => hOj k e)⟩
      obtain ⟨O3, ⟨v3, rfl⟩, hT3, hO3, u3⟩ := hnew
      have H3 := Lib.hid (And.intro hT3 (And.intro hO3 u3))
      clear hT3 hO3 u3 hP hdel b2 hOj uW htk k0 k1 k2 c8 c9 HD HT
      go_wp2_with (fail)
      refine ⟨?_, ?_⟩
      · apply tmpsDp
        intro t' ht'
        exact ⟨t', j + 1, O3, by omega, H3.out, ht'⟩
      · show m - (intOf (.int .i64 ((j + 1 : Nat) : Int))).toNat < m - (intOf (.int .i64 (j : Int))).toNat
        simp only [intOf]; omega
    · obtain rfl : j = m := by omega
      have t3 : decide ((j : Int) < (j : Int)) = false := by simp
      rw [List.take_of_length_le (by rw [hm]; omega), drop_all p wl (fun e he => (HB.out.2.2.2.1 e he).1) (fun e he => (HB.out.2.2.2.1 e he).2.1)] at hT
      have hVs := hI.z
      have hdlt : D0 + 3 < V.heap.size := (Array.getElem?_eq_some_iff.1 hk).1
      have hdW : W.heap[D0 + 3]? = some (.deferred (some [])) := (uW.block _ hdlt hnD).trans hk
      have hDj : ¬ Oj (D0 + 3) := fun e => (hOj _ e).elim hnD (fun e => by omega)
      have hfo : ∀ k, Oj k → Ow k ∨ w.heap.size ≤ k := fun k hk => (hOj k hk).elim (fun e => (hI.o k e).imp id (fun e => by omega)) (fun e => .inr (Nat.le_trans hI.upd.size e))
      have hfu : Upd w W Ow := Upd.join hI.upd (uW.mono fun k _ e => (hI.o k e).imp id (fun e => by omega))
      have HF := Lib.hid (And.intro hT (And.intro hfu (And.intro hdW (And.intro hDj hfo))))
      clear hT hOj uW hrow hbw hI r2 r3 hTF hsub hk hm hnD hVs hdlt hdW hDj hfo hfu
      go_wp2_with (fail)
      refine marksOf (I := fun V1 => TabA V1 Tw (dropE p wl) [] Oj ∧ Upd w V1 Ow) [D0 + 3] ?_ ?_ [D0 + 3] W (fun _ h => h) (by simp) (fun E hE => by rw [List.mem_singleton.1 hE]; exact HF.out.2.2.1) ⟨HF.out.1, HF.out.2.1⟩
      · intro V1 E o h1 hE
        obtain rfl : E = D0 + 3 := List.mem_singleton.1 hE
        exact ⟨h1.1.upd (Upd.put V1 (D0 + 3) o) (fun k hk e => HF.out.2.2.2.1 (e ▸ hk)), Upd.join h1.2 ((Upd.put V1 (D0 + 3) o).mono fun k _ e => .inr (by omega))⟩
      · intro V1 h1
        exact ⟨_, results_none rfl _ _ _, ⟨_, rfl⟩, Oj, h1.1, HF.out.2.2.2.2, h1.2⟩
end Go.Proofs.YtmimnaaofpkndaaDoor.Hp
