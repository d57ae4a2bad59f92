/- HqI: several texts in one. -/
import Derived.Test.YtmimnaaofpkndaaDoorHqB
import Derived.Test.YtmimnaaofpkndaaDoorOtAl
import Derived.Test.YtmimnaaofpkndaaDoorQit
import Derived.Test.YtmimnaaofpkndaaDoorStar
/- The heap: a table's All as an iterator; a table's own blocks; yields from within rounds. -/
set_option linter.unusedVariables false
set_option linter.unusedSimpArgs false
namespace Go.Proofs.YtmimnaaofpkndaaDoor.Hp
open Go.RowKit Go.Proofs.YtmimnaaofpkndaaDoor Go.Shelf
attribute [local go_sem] Oper.semAt_some

/-- A round of an outer loop, called from within a round. -/
theorem roundIn_any {P : Program} {m m' l l2 : Nat} {f : FuncId} {tmps : Array Value} {assign body : Code} {W : World} {R : Ending → World → Prop} (h : RoundIn Fence.wide m P l f tmps assign body W R) : RoundIn (Fence.wide.inRound l2) m' P l f tmps assign body W R :=
  ⟨h.1, fun c cs _ => h.2 c cs (room_wide _)⟩
theorem roundIn_out {P : Program} {m m' l : Nat} {f : FuncId} {tmps : Array Value} {assign body : Code} {W : World} {R : Ending → World → Prop} (h : RoundIn Fence.wide m P l f tmps assign body W R) : RoundIn Fence.wide m' P l f tmps assign body W R :=
  ⟨h.1, fun c cs _ => h.2 c cs (room_wide _)⟩
/-- Blocks of cells, none of them a marker's box. -/
def Fit (O : Nat → Prop) (W : World) : Prop := ∀ k, O k → ∃ c t f, W.heap[k]? = some (.cells c t f) ∧ t ≠ tMkP
theorem Fit.upd {O P : Nat → Prop} {W W' : World} (h : Fit O W) (u : Upd W W' P) (hP : ∀ k, O k → ¬ P k) : Fit O W' := fun k hk => by
  obtain ⟨c, t, f, e, hne⟩ := h k hk
  exact ⟨c, t, f, (u.block k (Array.getElem?_eq_some_iff.1 e).1 (hP k hk)).trans e, hne⟩
theorem Fit.lt {O : Nat → Prop} {W : World} (h : Fit O W) {k : Nat} (hk : O k) : k < W.heap.size := by
  obtain ⟨c, t, f, e, _⟩ := h k hk
  exact (Array.getElem?_eq_some_iff.1 e).1
/-- A table's own blocks, no more than it wants. -/
theorem tab_fit {w : World} {T : Nat} {A : List Ent} {O : Nat → Prop} (h : TabA w T A [] O) : ∃ O', TabA w T A [] O' ∧ Fit O' w ∧ ∀ k, O' k → O k := by
  obtain ⟨lv, sv, cv, es, sl, cs, hs, h1, h2⟩ := h
  have hcs : cs = [] := List.map_eq_nil_iff.1 h2
  subst hcs
  have ht := hs.tab
  refine ⟨fun k => k = T ∨ lv.ownBlock = some k ∨ sv.ownBlock = some k ∨ cv.ownBlock = some k, ⟨lv, sv, cv, es, sl, [], ⟨⟨ht.blk, ht.ents, ht.slots, ht.curs, ht.cur, ht.nodup, .inl rfl, fun g hg => .inr (.inl hg), fun g hg => .inr (.inr (.inl hg)), fun g hg => .inr (.inr (.inr hg)), fun c hc => (List.not_mem_nil hc).elim, fun k hk => ?_⟩, hs.core, hs.slotN, hs.load, hs.room, hs.at_, hs.keyS⟩, h1, h2⟩, fun k hk => ?_, fun k hk => ?_⟩
  · rcases hk with rfl | e | e | e
    · exact ht.blk.lt
    · exact (ht.ents.lt k e).2
    · exact (ht.slots.lt k e).2
    · exact (ht.curs.lt k e).2
  · rcases hk with rfl | e | e | e
    · exact ⟨_, _, _, ht.blk, by decide⟩
    · obtain ⟨c, f, e⟩ := own_kind ht.ents k e
      exact ⟨_, _, _, e, by decide⟩
    · obtain ⟨c, f, e⟩ := own_kind ht.slots k e
      exact ⟨_, _, _, e, by decide⟩
    · obtain ⟨c, f, e⟩ := own_kind ht.curs k e
      exact ⟨_, _, _, e, by decide⟩
  · rcases hk with rfl | e | e | e
    · exact ht.oT
    · exact ht.oL k e
    · exact ht.oS k e
    · exact ht.oC k e
set_option maxRecDepth 100000 in
set_option maxHeartbeats 4000000 in
theorem all_b (n : Nat) (hn : 1 ≤ n) (l T : Nat) (A : List Ent) (D : List (Nat × Nat)) (O0 : Nat → Prop) (stop : Prop) (W : World) (b : Nat) (hb : Blk W b 44 #[.pointer (some ⟨T, 0, none⟩)]) (h : TabA W T A D O0) (hA : A.length ≤ 5000) (hD : D.length ≤ 99999) :
    SeqB Fence.wide n Tryd.prog 77 #[.func (.yield l) #[] #[], .pointer (some ⟨b, 0, none⟩)] l (fun x : Ent => #[VK x.key, VK x.val]) A O0 (AllFin T A D) stop W := by
  intro J Jx hJ hJx hst hJg hY h0
  refine callsIn_of_wp_defers Tryd.func77 rfl trivial ?_ rfl
  simp only [Tryd.ntmps77, List.size_toArray, List.length_cons, List.length_nil, Nat.reduceAdd, Nat.reduceSub, Array.replicate_succ, Array.replicate_zero, List.push_toArray, List.append_toArray, List.nil_append, List.cons_append]
  have x0 : W.cell? ⟨b, 0, none⟩ = some (.pointer (some ⟨T, 0, none⟩)) := by rw [hb.cell]; rfl
  have HJ := Lib.hid hJ
  have HJX := Lib.hid hJx
  have HY := Lib.hid hY
  have H0 := Lib.hid h0
  clear hJ hJx hY h0
  gi_wp2_with (refine ⟨trivial, ?_⟩; gi_at_call 78; refine (callsIn_wide.2 (cursor_any T A D O0 _ h (by omega))).mono ?_; rintro e w' ⟨rfl, hT, u1, hsz⟩)
  have hO1 : ∀ k, Og O0 W w' k → O0 k ∨ W.heap.size ≤ k := fun k hk => hk.imp id And.left
  have hJ0 := H0.out _ w' u1 hO1 (fun k hk => hk.elim (fun e => Nat.lt_of_lt_of_le (h.lt k e) u1.size) (fun e => e.2))
  have hc0 : Og O0 W w' W.heap.size := .inr ⟨Nat.le_refl _, hsz⟩
  obtain ⟨O1, hO1e⟩ : ∃ O1, Og O0 W w' = O1 := ⟨_, rfl⟩
  rw [hO1e] at hT hJ0 hc0
  have HO := Lib.hid hO1e
  generalize hc : W.heap.size = c at *
  clear hO1 hO1e
  have hcD : ∀ x ∈ D, x.1 ≠ c := fun x hx e => by
    obtain ⟨lv, sv, cv, es, sl, cs, hs, _, rfl⟩ := h
    obtain ⟨y, hy, rfl⟩ := List.mem_map.1 hx
    have h1 := hs.tab.oLt _ (hs.tab.oc y hy)
    have h2 : y.1 = c := e
    omega
  gi_wp2_with (fail)
  suffices key : ∀ (m k : Nat) (t : Nat → Value) (W2 : World), A.length - k = m → k ≤ A.length → J O1 (A.take k) W2 → TabA W2 T A (D ++ [(c, k)]) O1 → Upd W W2 (fun _ => True) → Code.roundsIn Fence.wide n Tryd.prog _ _ (m + 1) ⟨#[.func (.yield l) #[] #[], .pointer (some ⟨b, 0, none⟩), t 2, .pointer (some ⟨c, 0, none⟩), t 4, t 5, t 6, t 7, t 8, t 9, t 10, t 11, t 12, t 13, t 14, t 15, t 16, t 17, t 18, t 19, t 20, t 21, t 22, t 23, t 24, t 25, t 26], [closeD c]⟩ W2 by
    refine wpIn_loop_rounds (A.length + 1) ?_
    apply tmps26
    intro t ht
    rw [show (_ : Act) = _ from ht]
    exact key A.length 0 t w' (by omega) (by omega) hJ0 hT (u1.mono fun _ _ _ => trivial)
  intro m
  induction m with
  | zero =>
    intro k t W2 hm hk hJk hTk u2
    obtain rfl : k = A.length := by omega
    have HC := Lib.hid (next_over hTk hA hD hcD (by rw [List.getElem?_eq_none (Nat.le_refl _)]))
    have hl2 := fun k => hTk.lt k
    rw [List.take_length] at hJk
    clear hTk
    rw [roundsIn_succ]
    gi_wp2_with (refine ⟨trivial, ?_⟩; gi_at_call 80; refine (callsIn_wide.2 HC.out).mono ?_; rintro e W3 ⟨rfl, ⟨hF3, ac, hb3⟩, u3⟩)
    refine ⟨fun _ _ => trivial, ?_⟩
    gi_wp2_with (fail)
    have hn3 : ∀ k, O1 k → k < W3.heap.size := fun k hk => Nat.lt_of_lt_of_le (hl2 k hk) u3.size
    have u4 : Upd W3 ((W3.alloc (.cells #[.int .i64 0, .int .i64 0, .string ⟨#[]⟩] 34)).alloc (.cells #[.int .i64 0, .int .i64 0, .string ⟨#[]⟩] 34)) (fun _ => False) := ((Upd.refl _ _).alloc _).alloc _
    have hF4 := hF3.upd u4 (fun _ _ h => h)
    have hb4 := u4.blk hb3 (fun h => h)
    have hJ4 := HJ.out _ _ _ _ hJk (u3.trans (u4.mono fun _ _ h => h.elim))
    refine leavesIn_cons (f := 79) (args := #[.pointer (some ⟨c, 0, none⟩)]) (by simp) (by simp [Fence.wide]) (by simp [go_sem, invoke]) (fun _ _ => trivial) ?_
    refine (close_shut_d _ .returning c ac _ hb4).mono ?_
    rintro e u' w6 ⟨rfl, rfl, rfl⟩
    exact ⟨_, results_none rfl _ _ _, ⟨_, rfl⟩, O1, hF4, .inl hJ4⟩
  | succ m ih =>
    intro k t W2 hm hk hJk hTk u2
    have hlt : k < A.length := by omega
    obtain ⟨x, hx⟩ : ∃ x, A[k]? = some x := ⟨_, List.getElem?_eq_getElem hlt⟩
    have HC := Lib.hid (next_here hTk hA hD hcD x hx)
    have htk : A.take (k + 1) = A.take k ++ [x] := by
      have := List.take_succ_eq_append_getElem hlt
      rw [this, ← (List.getElem?_eq_some_iff.1 hx).2]
    have hpre : (A.take k ++ [x]) <+: A := by rw [← htk]; exact List.take_prefix _ _
    have HT := Lib.hid htk
    have HJ2 := Lib.hid (fun W4 (u : Upd W2 W4 O1) => HY.out O1 (A.take k) x W4 (HJ.out _ _ _ _ hJk u) hpre)
    have IH := Lib.hid ih
    clear hTk htk hpre ih
    rw [roundsIn_succ]
    gi_wp2_with (refine ⟨trivial, ?_⟩; gi_at_call 80; refine (callsIn_wide.2 HC.out).mono ?_; rintro e W3 ⟨rfl, hT3, u3⟩; have hy0 := HJ2.out ((W3.alloc (.cells #[.int .i64 x.key.1, .int .i64 x.key.2.1, .string x.key.2.2] 34)).alloc (.cells #[.int .i64 x.val.1, .int .i64 x.val.2.1, .string x.val.2.2] 34)) ((u3.alloc _).alloc _); obtain ⟨fn, tmps, assign, body, hy, hR⟩ := hy0; dsimp only [VK] at hy)
    refine hR.mono ?_
    rintro e W5 ⟨u5, hor⟩
    have hT5 := (hT3.upd ((Upd.refl W3 (fun _ => False)).alloc _ |>.alloc _) (fun _ _ h => h)).upd u5 (fun k hk h => h hk)
    rcases hor with ⟨rfl, _, hJ5⟩ | ⟨rfl, hJ5⟩
    · gi_wp2_with (fail)
      apply tmps26
      intro t' ht'
      rw [show (_ : Act) = _ from ht']
      exact IH.out (k + 1) t' W5 (by omega) (by omega) (by rw [HT.out]; exact hJ5) hT5 ((((u2.trans (u3.mono fun _ _ _ => trivial)).alloc _).alloc _).trans (u5.mono fun _ _ _ => trivial))
    · gi_wp2_with (fail)
      refine leavesIn_cons (f := 79) (args := #[.pointer (some ⟨c, 0, none⟩)]) (by simp) (by simp [Fence.wide]) (by simp [go_sem, invoke]) (fun _ _ => trivial) ?_
      refine (close_d _ .returning c T A _ O1 W5 hT5 (c, k + 1) (by simp) rfl (by simp; omega)).mono ?_
      rintro e u' w6 ⟨rfl, rfl, ⟨D', h3, h4, h5⟩, _, u6⟩
      exact ⟨_, results_none rfl _ _ _, ⟨_, rfl⟩, O1, fin_of hcD h3 h4 h5, .inr ⟨_, HJX.out _ _ _ _ hJ5 u6⟩⟩
end Go.Proofs.YtmimnaaofpkndaaDoor.Hp

/- The heap: objects with tables as bodies of a collection; what an object's Pairs yields. -/
set_option linter.unusedVariables false
set_option linter.unusedSimpArgs false
namespace Go.Proofs.YtmimnaaofpkndaaDoor.Hp
open Go.RowKit Go.Proofs.YtmimnaaofpkndaaDoor Go.Shelf Go.Sort
attribute [local go_sem] Oper.semAt_some

theorem ref_obj (r : Int) (s : ByteArray) (w : World) : Calls Tryd.prog 56 #[VS 9 r s] w fun e w' => e = .returned (.int .i64 r) ∧ Below w.heap.size w w' := by
  go_enter Tryd.func56, Tryd.ntmps56
  go_wp2
  go_ret
  exact ⟨rfl, (Below.refl _ _).alloc (Nat.le_refl _) _⟩
theorem held_nil (y : Value) (w : World) : Calls Tryd.prog 124 #[.slice none 0 0, y] w fun e w' => e = .returned (.bool true) ∧ w' = w := by
  go_enter Tryd.func124, Tryd.ntmps124
  go_wp2_with (fail)
  go_loopw [10] (fun v wr => v = .int .i64 0 ∧ wr = w) (fun _ _ => 0)
  case atStart => exact ⟨rfl, rfl⟩
  case round =>
    obtain ⟨rfl, rfl⟩ := hrel
    go_wp2
    go_ret
    exact ⟨rfl, rfl⟩
theorem gone_obj (b : Nat) (cl pr : Int) (clo : Bool) (T : Nat) (ev tb wk fa : Value) (at_ : Int) (w : World) (h : Blk w b 51 (objA cl pr clo T ev tb wk fa at_)) : Calls Tryd.prog 122 #[.pointer (some ⟨b, 0, none⟩)] w fun e w' => (∃ v, e = .returned v) ∧ w' = w := by
  have x7 : w.cell? ⟨b, 7, none⟩ = some (.pointer none) := by rw [h.cell]; rfl
  have hl := h.lt
  clear h
  go_enter Tryd.func122, Tryd.ntmps122
  go_wp2
  go_end0
  exact ⟨⟨_, rfl⟩, rfl⟩

/-- An object: its block, class, table of properties (empty), table, weak table, and the cells that it does not hold. -/
structure OI where
  b : Nat
  cl : Int
  T : Nat
  tb : Option Nat
  wk : Option Nat
  fl : List Int
/-- The objects; the weak table of one, the table of another. -/
structure BS where
  obs : List OI
  Tw : Nat
  wl : List Ent
  Ts : Nat
  tl : List Ent
def tpV : Option Nat → Value
  | none => .pointer none
  | some T => .pointer (some ⟨T, 0, none⟩)
abbrev obC (x : OI) (fv : Value) : Array Value := objA x.cl 0 false x.T nilS (tpV x.tb) (tpV x.wk) fv 0
/-- Things: objects (0, i), their tables of properties (1, i), the weak table (2, 0), the table (3, 0). -/
def bC (st : BS) (i : Nat × Nat) (O : Nat → Prop) (W : World) : Prop :=
  match i.1 with
  | 0 => ∃ x fv, st.obs[i.2]? = some x ∧ Blk W x.b 51 (obC x fv) ∧ W.ownsRow 0 3 1 fv x.fl.length (numCells x.fl) ∧ ∀ k, O k ↔ k = x.b ∨ fv.ownBlock = some k
  | 1 => ∃ x, st.obs[i.2]? = some x ∧ TabA W x.T [] [] O ∧ Fit O W
  | 2 => TabA W st.Tw st.wl [] O ∧ Fit O W
  | _ => TabA W st.Ts st.tl [] O ∧ Fit O W
def bL (st : BS) (i : Nat × Nat) : Prop :=
  match i.1 with
  | 0 => i.2 < st.obs.length
  | 1 => i.2 < st.obs.length
  | 2 => i.2 = 0
  | 3 => i.2 = 0
  | _ => False
theorem bStab (st : BS) : Stab (bC st) := ⟨fun i O W W' P h u hP => by
  obtain ⟨a, b⟩ := i
  unfold bC at h ⊢
  dsimp only at h ⊢
  split at h
  · obtain ⟨x, fv, h1, h2, h3, h4⟩ := h
    exact ⟨x, fv, h1, u.blk h2 (hP _ ((h4 _).2 (.inl rfl))), u.own h3 (fun k hk => hP _ ((h4 _).2 (.inr hk))), h4⟩
  · obtain ⟨x, h1, h2, h3⟩ := h
    exact ⟨x, h1, h2.upd u hP, h3.upd u hP⟩
  · exact ⟨h.1.upd u hP, h.2.upd u hP⟩
  · exact ⟨h.1.upd u hP, h.2.upd u hP⟩⟩
theorem bFit {st : BS} {i : Nat × Nat} {O : Nat → Prop} {W : World} (h : bC st i O W) : Fit O W := by
  obtain ⟨a, b⟩ := i
  unfold bC at h
  dsimp only at h
  split at h
  · obtain ⟨x, fv, h1, h2, h3, h4⟩ := h
    intro k hk
    rcases (h4 k).1 hk with rfl | e
    · exact ⟨_, _, _, h2, by decide⟩
    · obtain ⟨c, f, e⟩ := own_kind h3 k e
      exact ⟨_, _, _, e, by decide⟩
  · obtain ⟨x, h1, h2, h3⟩ := h
    exact h3
  · exact h.2
  · exact h.2
/-- The state of the bodies: their blocks are O. -/
def bS (st : BS) (O : Nat → Prop) (W : World) : Prop := ∃ own, Star (bC st) (bL st) own W ∧ ∀ k, O k ↔ allOf (bL st) own k
theorem bS.keep {st : BS} {O P : Nat → Prop} {W W' : World} (h : bS st O W) (u : Upd W W' P) (hP : ∀ k, O k → ¬ P k) : bS st O W' := by
  obtain ⟨own, hs, ho⟩ := h
  exact ⟨own, hs.upd (bStab st) u (fun i hi k hk => hP k ((ho k).2 ⟨i, hi, hk⟩)), ho⟩
theorem bS.fit {st : BS} {O : Nat → Prop} {W : World} (h : bS st O W) : Fit O W := fun k hk => by
  obtain ⟨own, hs, ho⟩ := h
  obtain ⟨i, hi, hk'⟩ := (ho k).1 hk
  exact bFit (hs.holds i hi) k hk'
theorem bS.obj {st : BS} {O : Nat → Prop} {W : World} (h : bS st O W) {i : Nat} {x : OI} (hx : st.obs[i]? = some x) : ∃ fv, Blk W x.b 51 (obC x fv) := by
  obtain ⟨own, hs, ho⟩ := h
  obtain ⟨y, fv, h1, h2, _⟩ := hs.holds (0, i) (show i < st.obs.length from (List.getElem?_eq_some_iff.1 hx).1)
  rw [hx] at h1
  cases h1
  exact ⟨fv, h2⟩
/-- A table of the bodies' is set aside, turns, and is put back: what the state is then. -/
theorem bS.back {st : BS} {own : Nat × Nat → Nat → Prop} {W : World} {t : Nat × Nat} {O1 : Nat → Prop} (hr : Star (bC st) (fun j => bL st j ∧ j ≠ t) own W) (ht : bL st t) (c : bC st t O1 W) (hs : ∀ j, bL st j → j ≠ t → ∀ k, own j k → ¬ O1 k) :
    bS st (fun k => allOf (fun j => bL st j ∧ j ≠ t) own k ∨ O1 k) W := by
  refine ⟨setOwn own t O1, (hr.put c hs (fun k hk => (bFit c).lt hk)).sub (fun j hj => .inl hj), fun k => ⟨fun h => ?_, fun h => ?_⟩⟩
  · rcases h with ⟨j, hj, hk⟩ | h
    · exact ⟨j, hj.1, by rw [setOwn_ne own O1 hj.2]; exact hk⟩
    · exact ⟨t, ht, by rw [setOwn_same]; exact h⟩
  · obtain ⟨j, hj, hk⟩ := h
    by_cases e : j = t
    · subst e; rw [setOwn_same] at hk; exact .inr hk
    · rw [setOwn_ne own O1 e] at hk; exact .inl ⟨j, ⟨hj, e⟩, hk⟩

/-- While a table t of the bodies' is ranged over, from world w on: J* is what the outer loop has, at its own blocks Ob; the others of the bodies'; the box of yield. -/
structure RgI (st : BS) (own : Nat × Nat → Nat → Prop) (t : Nat × Nat) (w : World) (Y : Nat) (tY : TypeId) (l : Nat) (JJ : World → Prop) (O1 : Nat → Prop) (W : World) : Prop where
  j : JJ W
  r : Star (bC st) (fun j => bL st j ∧ j ≠ t) own W
  y : Blk W Y tY #[.func (.yield l) #[] #[]]
  o : ∀ k, O1 k → own t k ∨ w.heap.size ≤ k
  z : w.heap.size + 2 ≤ W.heap.size
section
variable {st : BS} {own : Nat × Nat → Nat → Prop} {t : Nat × Nat} {w W W' : World} {Y : Nat} {tY : TypeId} {l : Nat} {JJ JJ' : World → Prop} {O1 O1' P : Nat → Prop}
theorem RgI.upd (h : RgI st own t w Y tY l JJ O1 W) (u : Upd W W' P) (hj : JJ' W') (hr : ∀ j, bL st j → j ≠ t → ∀ k, own j k → ¬ P k) (hy : ¬ P Y) : RgI st own t w Y tY l JJ' O1 W' :=
  ⟨hj, h.r.upd (bStab st) u (fun j hj => hr j hj.1 hj.2), u.blk h.y hy, h.o, Nat.le_trans h.z u.size⟩
theorem RgI.grow (h : RgI st own t w Y tY l JJ O1 W) (u : Upd W W' P) (hj : JJ' W') (hr : ∀ j, bL st j → j ≠ t → ∀ k, own j k → ¬ P k) (hy : ¬ P Y) (h2 : ∀ k, O1' k → O1 k ∨ W.heap.size ≤ k) : RgI st own t w Y tY l JJ' O1' W' :=
  ⟨hj, h.r.upd (bStab st) u (fun j hj => hr j hj.1 hj.2), u.blk h.y hy, fun k hk => (h2 k hk).elim (h.o k) (fun e => .inr (by have := h.z; omega)), Nat.le_trans h.z u.size⟩
end
def pairOf (e : Ent) : Pr := (e.key.2.1, e.val.2.1)
/-- Keys and values are objects. -/
def ObEnt (e : Ent) : Prop := e.key.1 = 9 ∧ e.val.1 = 9
set_option maxRecDepth 100000 in
set_option maxHeartbeats 4000000 in
theorem pairs_seq (st : BS) (X : Bods) (hXS : X.S = bS st) (i : Nat) (x : OI) (hx : st.obs[i]? = some x) (hw : x.wk = none ∨ x.wk = some st.Tw) (hwl : ∀ e ∈ st.wl, ObEnt e) (hwn : st.wl.length ≤ 4000) (O : Nat → Prop) (W : World) (l : Nat) (hS : bS st O W) :
    SeqB Fence.wide 8 Tryd.prog 123 #[.pointer (some ⟨x.b, 0, none⟩), .func (.yield l) #[] #[]] l (fun p : Pr => #[.int .i64 p.1, .int .i64 p.2]) (if x.wk = none then [] else st.wl.map pairOf) O (BFin X) False W := by
  intro J Jx hJ hJx hst hJg hY h0
  obtain ⟨fv, hb⟩ := hS.obj hx
  have hOl : ∀ k, O k → k < W.heap.size := fun k hk => hS.fit.lt hk
  have hbl := hb.lt
  by_cases hk : x.wk = none
  · rw [if_pos hk]
    have x8 : W.cell? ⟨x.b, 8, none⟩ = some (.pointer none) := by rw [hb.cell]; simp [hk, tpV]
    have ua := ((Upd.refl W (fun _ => False)).alloc (.cells #[.func (.yield l) #[] #[]] 39))
    have hJ0 := h0 O _ (ua.mono (fun _ _ e => e.elim)) (fun k hk => .inl hk) (fun k hk => Nat.lt_of_lt_of_le (hOl k hk) ua.size)
    have hF : BFin X O (W.alloc (.cells #[.func (.yield l) #[] #[]] 39)) := ⟨O, by rw [hXS]; exact hS.keep ua (fun _ _ e => e), fun k hk => hk⟩
    have HF := Lib.hid (And.intro hJ0 hF)
    clear hJ hJx hst hJg hY h0 hb hS hJ0 hF hw hx
    refine callsIn_of_wp Tryd.func123 rfl trivial ?_ rfl
    simp only [Tryd.ntmps123, List.size_toArray, List.length_cons, List.length_nil, Nat.reduceAdd, Nat.reduceSub, Array.replicate_succ, Array.replicate_zero, List.push_toArray, List.append_toArray, List.nil_append, List.cons_append]
    gi_wp2
    refine bodyPost_ret (results_none rfl _ _ _) rfl ?_
    exact ⟨⟨_, rfl⟩, O, HF.out.2, .inl HF.out.1⟩
  · have hw2 : x.wk = some st.Tw := hw.resolve_left hk
    simp only [if_neg hk] at hY ⊢
    obtain ⟨own, hs, ho⟩ := hS
    have ht : bL st (2, 0) := rfl
    have hT : TabA W st.Tw st.wl [] (own (2, 0)) := (hs.holds (2, 0) ht).1
    have x8 : W.cell? ⟨x.b, 8, none⟩ = some (.pointer (some ⟨st.Tw, 0, none⟩)) := by rw [hb.cell]; simp [hw2, tpV]
    obtain ⟨Y, hYe⟩ : ∃ Y, W.heap.size = Y := ⟨_, rfl⟩
    have hbY : x.b < Y := hYe ▸ hbl
    have HJ := Lib.hid (And.intro hJ (And.intro hst (And.intro hY h0)))
    have HG := Lib.hid hJg
    have HS := Lib.hid (And.intro hs (And.intro ho (And.intro hT hOl)))
    clear hJ hJx hst hJg hY h0 hb hs ho hT hOl hw hx
    refine callsIn_of_wp_marks Tryd.func123 rfl trivial ?_ rfl
    simp only [Tryd.ntmps123, List.size_toArray, List.length_cons, List.length_nil, Nat.reduceAdd, Nat.reduceSub, Array.replicate_succ, Array.replicate_zero, List.push_toArray, List.append_toArray, List.nil_append, List.cons_append]
    gi_wp2_with (refine ⟨trivial, ?_⟩; gi_at_call 55; refine (callsIn_wide.2 (all_fn st.Tw _)).mono ?_; rintro e w2 ⟨rfl, rfl⟩)
    obtain ⟨hs, ho, hT, hOl⟩ := HS.out
    obtain ⟨W2, hW2⟩ : ∃ W2, (W.alloc (.cells #[.func (.yield l) #[] #[]] 39)).alloc (.cells #[.pointer (some ⟨st.Tw, 0, none⟩)] 44) = W2 := ⟨_, rfl⟩
    have bW : Below W.heap.size W W2 := by rw [← hW2]; exact ((Below.refl _ _).alloc (Nat.le_refl _) _).alloc (by simp) _
    have kY : Blk W2 Y 39 #[.func (.yield l) #[] #[]] := by rw [← hW2, ← hYe]; exact (Blk.new W _ _).alloc _
    have kB : Blk W2 (Y + 1) 44 #[.pointer (some ⟨st.Tw, 0, none⟩)] := by
      rw [← hW2, ← hYe]
      have := Blk.new (W.alloc (.cells #[.func (.yield l) #[] #[]] 39)) 44 #[.pointer (some ⟨st.Tw, 0, none⟩)]
      rwa [World.size_alloc] at this
    have sz2 : W2.heap.size = Y + 2 := by rw [← hW2, ← hYe]; simp
    have hs2 := hs.below (bStab st) bW
    have hT2 := hT.below bW
    have hW2u : Upd W W2 (fun _ => False) := Upd.of_below_all bW
    rw [hW2]
    clear hW2
    have ownl : ∀ j, bL st j → ∀ k, own j k → k < Y := fun j hj k hk => by rw [← hYe]; exact hs.lt j hj k hk
    have H2 := Lib.hid (And.intro hs2 (And.intro hT2 (And.intro kY (And.intro kB (And.intro hW2u (And.intro ownl hs.sep))))))
    clear hs2 hT2 kY kB hs ho hT x8
    have hnO : ∀ (O1 : Nat → Prop) (pre : List Ent) (V : World), RgI st own (2, 0) W2 Y 39 l (J (fun k => O k ∨ O1 k ∨ k = Y ∨ k = W2.heap.size ∨ k = W2.heap.size + 1) (pre.map pairOf)) O1 V → (∀ j, bL st j → j ≠ (2, 0) → ∀ k, own j k → ¬ O1 k) ∧ ¬ O1 Y := fun O1 pre V h => by
      refine ⟨fun j hj hne k hk e => ?_, fun e => ?_⟩
      · rcases h.o k e with e | e
        · exact H2.out.2.2.2.2.2.2 j (2, 0) hj rfl hne k hk e
        · have := H2.out.2.2.2.2.2.1 j hj k hk; omega
      · rcases h.o Y e with e | e
        · have := H2.out.2.2.2.2.2.1 (2, 0) rfl Y e; omega
        · omega
    have HN := Lib.hid hnO
    clear hnO
    refine wpIn_range_b (F := Fence.wide) (n := 8) rfl (by decide) (gf := 77) (argsOf := fun l => #[.func (.yield l) #[] #[], .pointer (some ⟨Y + 1, 0, none⟩)]) ?res (encs := fun x : Ent => #[VK x.key, VK x.val]) (fun _ => rfl) st.wl False (own (2, 0)) ?lt0 (AllFin st.Tw st.wl []) ?seq (fun O1 W' l o hF hl => hF.put hl o)
      (fun O1 pre W' => RgI st own (2, 0) W2 Y 39 l (J (fun k => O k ∨ O1 k ∨ k = Y ∨ k = W2.heap.size ∨ k = W2.heap.size + 1) (pre.map pairOf)) O1 W') (fun _ _ _ _ => False) (fun _ _ _ _ h => h) ?iup ?igr (fun _ _ _ _ _ h _ => h) ?iput (fun _ _ _ _ _ _ _ h _ _ _ => h) ?h0
      (fun _ _ e a' W' => ∃ b1 b2, a' = ⟨#[.pointer (some ⟨x.b, 0, none⟩), .func (.yield l) #[] #[], undef, .pointer (some ⟨Y, 0, none⟩), .pointer (some ⟨b1, 0, none⟩), .pointer (some ⟨b2, 0, none⟩), .pointer (some ⟨x.b, 0, none⟩), .pointer (some ⟨x.b, 0, none⟩), .pointer (some ⟨x.b, 8, none⟩), .pointer (some ⟨st.Tw, 0, none⟩), .bool false, .pointer (some ⟨x.b, 0, none⟩), .pointer (some ⟨x.b, 0, none⟩), .pointer (some ⟨x.b, 8, none⟩), .pointer (some ⟨st.Tw, 0, none⟩), .func (.func 77) #[] #[.pointer (some ⟨Y + 1, 0, none⟩)], VK e.key, VK e.val, undef, undef, undef, undef, undef, undef, undef], []⟩ ∧ Blk W' b1 34 #[.int .i64 e.key.1, .int .i64 e.key.2.1, .string e.key.2.2] ∧ Blk W' b2 34 #[.int .i64 e.val.1, .int .i64 e.val.2.1, .string e.val.2.2]) ?ax ?assign ?body ?done (fun _ _ _ _ _ _ _ _ h _ => h.elim)
    case res => exact fun l W => ⟨({ target := .fn (.func 77) #[.pointer (some ⟨Y + 1, 0, none⟩)], args := #[.func (.yield l) #[] #[]] } : Deferred), by kernel_rfl, fun _ _ => trivial, by kernel_rfl⟩
    case lt0 => exact fun k hk => by have := H2.out.2.2.2.2.2.1 (2, 0) rfl k hk; omega
    case seq => exact fun l W' u => all_b 7 (by decide) l st.Tw st.wl [] (own (2, 0)) False W' (Y + 1) (u.blk H2.out.2.2.2.1 (fun h => h)) (H2.out.2.1.upd u (fun _ _ h => h)) (by omega) (by simp)
    case iup =>
      intro O1 pre V V' h u
      exact h.upd u (HJ.out.1 _ _ _ _ h.j (u.mono fun k _ e => .inr (.inl e))) (HN.out O1 pre V h).1 (HN.out O1 pre V h).2
    case igr =>
      intro O1 O1' pre V V' h u g1 g2 g3
      have hz := h.z
      refine h.grow u (HG.out _ _ _ _ _ h.j (u.mono fun k _ e => .inr (.inl e)) (fun k hk => ?_) (fun k hk => ?_) (fun k hk => ?_)) (HN.out O1 pre V h).1 (HN.out O1 pre V h).2 g2
      · rcases hk with e | e | e | e | e
        · exact .inl e
        · exact .inr (.inl (g1 k e))
        · exact .inr (.inr (.inl e))
        · exact .inr (.inr (.inr (.inl e)))
        · exact .inr (.inr (.inr (.inr e)))
      · rcases hk with e | e | e | e | e
        · exact .inl (.inl e)
        · exact (g2 k e).imp (fun e => .inr (.inl e)) id
        · exact .inl (.inr (.inr (.inl e)))
        · exact .inl (.inr (.inr (.inr (.inl e))))
        · exact .inl (.inr (.inr (.inr (.inr e))))
      · have := u.size
        rcases hk with e | e | e | e | e
        · have := hOl k e; omega
        · exact g3 k e
        · omega
        · omega
        · omega
    case iput =>
      intro O1 pre V l' o o' h hl hk ho'
      refine h.upd (Upd.put V l' o') (HJ.out.1 _ _ _ _ h.j ((Upd.put V l' o').mono fun k _ e => .inr (.inr (.inr (.inr (by omega)))))) (fun j hj hne k hk e => ?_) (fun e => by omega)
      have := H2.out.2.2.2.2.2.1 j hj k hk
      omega
    case h0 =>
      intro O1 V u hsz hO1 hlt
      have uo : Upd W V O := (H2.out.2.2.2.2.1.mono fun _ _ e => e.elim).trans (u.mono fun k _ e => (HS.out.2.1 k).2 ⟨(2, 0), rfl, e⟩)
      refine ⟨HJ.out.2.2.2 _ V uo (fun k hk => ?_) (fun k hk => ?_), ?_, u.blk H2.out.2.2.1 (fun e => ?_), hO1, hsz⟩
      · rcases hk with e | e | e | e | e
        · exact .inl e
        · rcases hO1 k e with e | e
          · exact .inl ((HS.out.2.1 k).2 ⟨(2, 0), rfl, e⟩)
          · exact .inr (by omega)
        · exact .inr (by omega)
        · exact .inr (by omega)
        · exact .inr (by omega)
      · rcases hk with e | e | e | e | e
        · have := hOl k e; omega
        · exact hlt k e
        · omega
        · omega
        · omega
      · exact H2.out.1.rest (bStab st) (show bL st (2, 0) from rfl) u (fun k hk => .inl hk)
      · have := H2.out.2.2.2.2.2.1 (2, 0) rfl Y e; omega
    case ax =>
      rintro _ _ e a' V l' o o' ⟨b1, b2, rfl, k1, k2⟩ hl hk ho'
      have nb : ∀ {g : Nat} {t : TypeId} {xs : Array Value}, Blk V g t xs → ¬ g = l' := fun hb e => by subst e; rw [show V.heap[_]? = _ from hb] at hk; cases hk; cases ho'
      exact ⟨b1, b2, rfl, (Upd.put V l' o').blk k1 (nb k1), (Upd.put V l' o').blk k2 (nb k2)⟩
    case assign =>
      intro l' O1 pre e V K1 hI1 _ hK1
      gi_wp2
      have b1 := ((Below.refl V.heap.size V).alloc (Nat.le_refl _) (.cells #[.int .i64 e.key.1, .int .i64 e.key.2.1, .string e.key.2.2] 34))
      have b2 := b1.alloc (by simp) (.cells #[.int .i64 e.val.1, .int .i64 e.val.2.1, .string e.val.2.2] 34)
      refine hK1 _ _ ((KeepsOthers.alloc _ _).trans (KeepsOthers.alloc _ _)) (Upd.of_below_all b2) (hI1.upd (Upd.of_below_all b2 (M := fun _ => False)) (HJ.out.1 _ _ _ _ hI1.j (Upd.of_below_all b2)) (fun _ _ _ _ _ h => h) (fun h => h)) ⟨_, _, rfl, (Blk.new V _ _).alloc _, ?_⟩
      have := Blk.new (V.alloc (.cells #[.int .i64 e.key.1, .int .i64 e.key.2.1, .string e.key.2.2] 34)) 34 #[.int .i64 e.val.1, .int .i64 e.val.2.1, .string e.val.2.2]
      rwa [World.size_alloc] at this
    case body =>
      rintro l' O1 pre e a' V hI1 ⟨b1, b2, rfl, k1, k2⟩ hpre
      obtain ⟨e9, v9⟩ := hwl e (hpre.subset (by simp))
      have hp2 : (pre.map pairOf ++ [pairOf e]) <+: st.wl.map pairOf := by
        obtain ⟨r, hr⟩ := hpre
        exact ⟨r.map pairOf, by rw [← hr]; simp⟩
      have hpm : (pre ++ [e]).map pairOf = pre.map pairOf ++ [pairOf e] := by simp
      have y0 : V.cell? ⟨Y, 0, none⟩ = some (.func (.yield l) #[] #[]) := by rw [hI1.y.cell]; rfl
      have c0 : V.cell? ⟨b1, 0, none⟩ = some (.int .i64 9) := by rw [k1.cell, ← e9]; rfl
      have c1 : V.cell? ⟨b1, 1, none⟩ = some (.int .i64 e.key.2.1) := by rw [k1.cell]; rfl
      have c2 : V.cell? ⟨b1, 2, none⟩ = some (.string e.key.2.2) := by rw [k1.cell]; rfl
      have d0 : V.cell? ⟨b2, 0, none⟩ = some (.int .i64 9) := by rw [k2.cell, ← v9]; rfl
      have d1 : V.cell? ⟨b2, 1, none⟩ = some (.int .i64 e.val.2.1) := by rw [k2.cell]; rfl
      have d2 : V.cell? ⟨b2, 2, none⟩ = some (.string e.val.2.2) := by rw [k2.cell]; rfl
      have hyy : ∀ V', Below V.heap.size V V' → YieldAt Fence.wide 7 Tryd.prog l #[.int .i64 e.key.2.1, .int .i64 e.val.2.1] V' fun en W' => en = .returned (.bool true) ∧ onlyOn O1 (fun pre W' => RgI st own (2, 0) W2 Y 39 l (J (fun k => O k ∨ O1 k ∨ k = Y ∨ k = W2.heap.size ∨ k = W2.heap.size + 1) (pre.map pairOf)) O1 W') (pre ++ [e]) V .normal ⟨#[], []⟩ W' := fun V' bV => by
        have uV : ∀ M, Upd V V' M := fun M => Upd.of_below_all bV
        have hI2 := hI1.upd (uV (fun _ => False)) (HJ.out.1 _ _ _ _ hI1.j (uV _)) (fun _ _ _ _ _ h => h) (fun h => h)
        obtain ⟨fn, tmps, assign, body, hy, hR⟩ := HJ.out.2.2.1 _ _ (pairOf e) V' hI2.j hp2
        refine ⟨fn, tmps, assign, body, hy, hR.mono ?_⟩
        rintro en W' ⟨u, ⟨rfl, hko, hj⟩ | ⟨_, hj⟩⟩
        · refine ⟨rfl, KeepsOthers.trans ⟨bV.size, fun k o hk _ => (bV.block k (Array.getElem?_eq_some_iff.1 hk).1).trans hk⟩ hko, (uV _).trans (u.mono fun k _ e hk => e (.inr (.inl hk))), ?_⟩
          show RgI _ _ _ _ _ _ _ (J _ ((pre ++ [e]).map pairOf)) _ _
          rw [hpm]
          refine hI2.upd u hj (fun j hj hne k hk e => e (.inl ((HS.out.2.1 k).2 ⟨j, hj, hk⟩))) (fun e => e (.inr (.inr (.inl rfl))))
        · exact (HJ.out.2.1 _ _ _ hj).elim
      have HY := Lib.hid hyy
      have q0 := fun d os => cell_regrown y0 d os
      have q1 := fun d os => cell_regrown c0 d os
      have q2 := fun d os => cell_regrown c1 d os
      have q3 := fun d os => cell_regrown c2 d os
      have q4 := fun d os => cell_regrown d0 d os
      have q5 := fun d os => cell_regrown d1 d os
      have q6 := fun d os => cell_regrown d2 d os
      have D1 := fun r d os => CallsIn.regrown_of (F := Fence.wide.inRound l') (r := r) (callsIn_wide.2 (ref_obj e.key.2.1 e.key.2.2 (grow (redrawn V d) os)))
      have D2 := fun r d os => CallsIn.regrown_of (F := Fence.wide.inRound l') (r := r) (callsIn_wide.2 (ref_obj e.val.2.1 e.val.2.2 (grow (redrawn V d) os)))
      clear hyy y0 c0 c1 c2 d0 d1 d2 k1 k2 hI1 e9 v9 hp2 hpm
      gi_wp2_with (fail)
      refine quietR_tail 5 (by kernel_rfl) (by kernel_rfl) (by kernel_rfl) ?_
      simp only [List.take_succ_cons, List.take_zero, List.drop_succ_cons, List.drop_zero]
      repeat (
        refine wpQuietIn_step (fun _ _ _ _ => trivial) (fun K hK => ?_)
        go_simp
        first
          | (refine hK _ ?_; clear hK K)
          | (apply Exists.intro
             refine ⟨fun _ => ?_, hK _ ?_⟩
             (first | with_reducible exact D1 _ _ _ | with_reducible exact D2 _ _ _ | exact ⟨trivial, D1 _ _ _⟩ | exact ⟨trivial, D2 _ _ _⟩ | exact D1 _ _ _ | exact D2 _ _ _)
             clear hK K))
      refine wpQuietIn_nil ?_
      rintro V2 ⟨⟨dq, osq⟩, hV2⟩
      have bV2 : Below V.heap.size V V2 := by rw [hV2]; exact below_regrown V dq osq
      obtain ⟨fn, tmps, assign, body, hy, hR⟩ := HY.out _ bV2
      clear hV2 q0 q1 q2 q3 q4 q5 q6 D1 D2
      gi_wp2_with (fail)
      refine (roundIn_any hR).mono ?_
      rintro en W5 ⟨rfl, hon⟩
      gi_wp2
      exact hon
    case done =>
      intro O1 D V hD hnD hF hI hk
      obtain rfl : D = Y + 2 := by omega
      obtain ⟨D', O', hTF, hsub, _, hlen⟩ := hF
      obtain rfl : D' = [] := List.length_eq_zero_iff.1 (by simpa using hlen)
      obtain ⟨O3, hT3, hf3, hs3⟩ := tab_fit hTF
      have c3 : bC st (2, 0) O3 V := ⟨hT3, hf3⟩
      have hb3 := bS.back hI.r (show bL st (2, 0) from rfl) c3 (fun j hj hne k hk ho => by
        rcases hI.o k (hsub k (hs3 k ho)) with e | e
        · exact H2.out.2.2.2.2.2.2 j (2, 0) hj rfl hne k hk e
        · have := H2.out.2.2.2.2.2.1 j hj k hk; omega)
      have hsub4 : ∀ k, (allOf (fun j => bL st j ∧ j ≠ (2, 0)) own k ∨ O3 k) → (O k ∨ O1 k ∨ k = Y ∨ k = W2.heap.size ∨ k = W2.heap.size + 1) := fun k hk => by
        rcases hk with ⟨j, hj, hk⟩ | hk
        · exact .inl ((HS.out.2.1 k).2 ⟨j, hj.1, hk⟩)
        · exact .inr (.inl (hsub k (hs3 k hk)))
      have hnD4 : ¬ (allOf (fun j => bL st j ∧ j ≠ (2, 0)) own (Y + 2) ∨ O3 (Y + 2)) := fun hk => by
        rcases hk with ⟨j, hj, hk⟩ | hk
        · have := H2.out.2.2.2.2.2.1 j hj.1 (Y + 2) hk; omega
        · exact hnD (hsub _ (hs3 _ hk))
      obtain ⟨O4, hO4⟩ : ∃ O4, (fun k => allOf (fun j => bL st j ∧ j ≠ (2, 0)) own k ∨ O3 k) = O4 := ⟨_, rfl⟩
      rw [hO4] at hb3
      have hsub5 : ∀ k, O4 k → (O k ∨ O1 k ∨ k = Y ∨ k = W2.heap.size ∨ k = W2.heap.size + 1) := by rw [← hO4]; exact hsub4
      have hnD5 : ¬ O4 (Y + 2) := by rw [← hO4]; exact hnD4
      have HF := Lib.hid (And.intro hI.j (And.intro hb3 (And.intro hk (And.intro hsub5 hnD5))))
      clear hTF hsub hlen hT3 hf3 hs3 c3 hb3 hI hk hsub4 hnD4 hO4 hsub5 hnD5 hnD
      gi_wp2_with (fail)
      refine marksOf (I := fun V => J (fun k => O k ∨ O1 k ∨ k = Y ∨ k = W2.heap.size ∨ k = W2.heap.size + 1) (st.wl.map pairOf) V ∧ bS st O4 V) [Y + 2] ?_ ?_ [Y + 2] V (fun _ h => h) (by simp) (fun E hE => by rw [List.mem_singleton.1 hE]; exact HF.out.2.2.1) ⟨HF.out.1, HF.out.2.1⟩
      · intro V1 E o h1 hE
        obtain rfl : E = Y + 2 := List.mem_singleton.1 hE
        exact ⟨HJ.out.1 _ _ _ _ h1.1 ((Upd.put V1 (Y + 2) o).mono fun k _ e => .inr (.inr (.inr (.inl (by omega))))), h1.2.keep (Upd.put V1 (Y + 2) o) (fun k hk e => HF.out.2.2.2.2 (e ▸ hk))⟩
      · intro V1 h1
        exact ⟨_, results_none rfl _ _ _, ⟨_, rfl⟩, _, ⟨O4, by rw [hXS]; exact h1.2, HF.out.2.2.2.1⟩, .inl h1.1⟩
end Go.Proofs.YtmimnaaofpkndaaDoor.Hp
