/- HuC: several texts in one. -/
import Derived.Test.YtmimnaaofpkndaaDoorHrZ
import Derived.Test.YtmimnaaofpkndaaDoorHrY
import Derived.Test.YtmimnaaofpkndaaDoorHsU
import Derived.Test.YtmimnaaofpkndaaDoorHpL
import Derived.Test.YtmimnaaofpkndaaDoorHrN
/- HeapRuns: both heaps in memory as one family of blocks; what a call of one object leaves. -/
set_option linter.unusedVariables false
set_option linter.unusedSimpArgs false
namespace Go.Proofs.YtmimnaaofpkndaaDoor.Hp
open Go.RowKit Go.Proofs.YtmimnaaofpkndaaDoor Go.Shelf Go.Sort
structure RS where
  oi : List PO
  od : List PO
  bs : List (Nat × Nat)
  qs : List Nat
  H : Nat
  A : Nat
  Q : Nat
  ks : List (Nat × TypeId × Array Value)
def bCells (bs : List (Nat × Nat)) : List Cell := bs.map fun x => (some (tObj, x.1), false)
theorem bCells_len (bs : List (Nat × Nat)) : (bCells bs).length = bs.length := List.length_map ..
/-- Labels: 0: the heap's objects; 1: the document's; 2: the heap and its arena; 3: the document's heap. -/
def rlC (s : RS) (i : Nat × Nat) (O : Nat → Prop) (W : World) : Prop :=
  match i.1 with
  | 0 => ∃ o b T lv Ot, s.oi[i.2]? = some o ∧ s.bs[i.2]? = some (b, T) ∧ LieO o b T lv Ot W ∧ ∀ k, O k ↔ ioB b lv Ot k
  | 1 => ∃ o q pv ev, s.od[i.2]? = some o ∧ s.qs[i.2]? = some q ∧ RO o q pv ev W ∧ ∀ k, O k ↔ roB q pv ev k
  | 2 => ∃ cv fv rv, Hx W s.H s.A s.A cv fv rv (bCells s.bs) [] [] (s.bs.length : Int) ∧ ∀ k, O k ↔ k = s.H ∨ k = s.A ∨ cv.ownBlock = some k ∨ fv.ownBlock = some k ∨ rv.ownBlock = some k
  | 3 => ∃ lv, RHp W s.Q lv s.qs ∧ ∀ k, O k ↔ k = s.Q ∨ lv.ownBlock = some k
  | 4 => ∃ x, s.ks[i.2]? = some x ∧ Blk W x.1 x.2.1 x.2.2 ∧ ∀ k, O k ↔ k = x.1
  | _ => False
def rlL (a c d : Nat) (i : Nat × Nat) : Prop :=
  match i.1 with
  | 0 => i.2 < a
  | 1 => i.2 < c
  | 2 => i.2 = 0
  | 3 => i.2 = 0
  | 4 => i.2 < d
  | _ => False
theorem rlC.lt {s : RS} {i : Nat × Nat} {O : Nat → Prop} {W : World} (h : rlC s i O W) (k : Nat) (hk : O k) : k < W.heap.size := by
  obtain ⟨a, c⟩ := i
  unfold rlC at h
  dsimp only at h
  split at h
  · obtain ⟨o, b, T, lv, Ot, -, -, h1, h2⟩ := h
    exact h1.all_lt k ((h2 k).1 hk)
  · obtain ⟨o, q, pv, ev, -, -, h1, h2⟩ := h
    exact h1.all_lt k ((h2 k).1 hk)
  · obtain ⟨cv, fv, rv, hx, ho⟩ := h
    rcases (ho k).1 hk with rfl | rfl | e | e | e
    · exact hx.hb.lt
    · exact hx.ar.blk.lt
    · exact (hx.ar.cells.lt k e).2
    · exact (hx.ar.free.lt k e).2
    · exact (hx.ar.roots.lt k e).2
  · obtain ⟨lv, hx, ho⟩ := h
    rcases (ho k).1 hk with rfl | e
    · exact hx.hb.lt
    · exact (hx.row.lt k e).2
  · obtain ⟨x, -, hx, ho⟩ := h
    rw [(ho k).1 hk]
    exact hx.lt
  · exact h.elim
theorem rlStab (s : RS) : Stab (rlC s) := ⟨fun i O W W' P h u hP => by
  obtain ⟨a, c⟩ := i
  unfold rlC at h ⊢
  dsimp only at h ⊢
  split at h
  · obtain ⟨o, b, T, lv, Ot, e1, e2, h1, h2⟩ := h
    exact ⟨o, b, T, lv, Ot, e1, e2, h1.upd u (fun k hk => hP k ((h2 k).2 hk)), h2⟩
  · obtain ⟨o, q, pv, ev, e1, e2, h1, h2⟩ := h
    exact ⟨o, q, pv, ev, e1, e2, h1.upd u (fun k hk => hP k ((h2 k).2 hk)), h2⟩
  · obtain ⟨cv, fv, rv, hx, ho⟩ := h
    exact ⟨cv, fv, rv, hx.upd u (hP _ ((ho _).2 (.inl rfl))) (hP _ ((ho _).2 (.inr (.inl rfl)))) (fun g e => hP _ ((ho _).2 (.inr (.inr (.inl e))))) (fun g e => hP _ ((ho _).2 (.inr (.inr (.inr (.inl e)))))) (fun g e => hP _ ((ho _).2 (.inr (.inr (.inr (.inr e)))))), ho⟩
  · obtain ⟨lv, hx, ho⟩ := h
    exact ⟨lv, hx.upd u (hP _ ((ho _).2 (.inl rfl))) (fun g e => hP _ ((ho _).2 (.inr e))), ho⟩
  · obtain ⟨x, e1, hx, ho⟩ := h
    exact ⟨x, e1, u.blk hx (hP _ ((ho _).2 rfl)), ho⟩
  · exact h⟩
/-- Both heaps; nothing older than w1 is theirs. -/
structure RSt (w1 : World) (s : RS) (w : World) : Prop where
  st : ∃ own, Star (rlC s) (rlL s.oi.length s.od.length s.ks.length) own w ∧ ∀ i, rlL s.oi.length s.od.length s.ks.length i → ∀ k, own i k → w1.heap.size ≤ k
  bel : Below w1.heap.size w1 w
  nb : s.bs.length = s.oi.length
  nq : s.qs.length = s.od.length
section
variable {w1 w w' : World} {s s' : RS}
theorem RSt.below (h : RSt w1 s w) (b : Below w.heap.size w w') : RSt w1 s w' := by
  obtain ⟨⟨own, hs, ho⟩, hb, h1, h2⟩ := h
  exact ⟨⟨own, hs.below (rlStab s) b, ho⟩, hb.trans (b.mono hb.size), h1, h2⟩
theorem RSt.open (h : RSt w1 s w) {i : Nat × Nat} (hi : rlL s.oi.length s.od.length s.ks.length i) : ∃ O, rlC s i O w ∧ (∀ k, O k → w1.heap.size ≤ k) ∧ ∀ (w' : World) (s' : RS) (O' : Nat → Prop), s'.oi.length = s.oi.length → s'.od.length = s.od.length → s'.bs.length = s.bs.length → s'.qs.length = s.qs.length → s'.ks.length = s.ks.length → Upd w w' O → rlC s' i O' w' → (∀ k, O' k → O k ∨ w.heap.size ≤ k) → (∀ j, rlL s.oi.length s.od.length s.ks.length j → j ≠ i → ∀ O W, rlC s j O W → rlC s' j O W) → RSt w1 s' w' := by
  obtain ⟨⟨own, hs, ho⟩, hb, h1, h2⟩ := h
  refine ⟨own i, hs.holds i hi, ho i hi, fun w' s' O' e1 e2 e3 e4 e5 u c hn hc => ⟨⟨setOwn own i O', by rw [e1, e2, e5]; exact hs.turn (rlStab s) hi u (fun k hk => .inl hk) hc c hn (rlC.lt c), fun j hj k hk => ?_⟩, hb.trans (u.below hb.size (ho i hi)), by rw [e3, e1, h1], by rw [e4, e2, h2]⟩⟩
  rw [e1, e2, e5] at hj
  by_cases e : j = i
  · subst e
    rw [setOwn_same] at hk
    rcases hn k hk with q | q
    · exact ho j hi k q
    · exact Nat.le_trans hb.size q
  · rw [setOwn_ne own O' e] at hk
    exact ho j hj k hk
/-- The heap's object i. -/
theorem RSt.obj (h : RSt w1 s w) {i : Nat} {o : PO} (hi : s.oi[i]? = some o) : ∃ b T lv Ot, s.bs[i]? = some (b, T) ∧ LieO o b T lv Ot w ∧ (∀ k, ioB b lv Ot k → w1.heap.size ≤ k) ∧ ∀ (w' : World) (o' : PO), Left o b T lv Ot w o' w' → RSt w1 { s with oi := s.oi.set i o' } w' := by
  have hil := (List.getElem?_eq_some_iff.1 hi).1
  obtain ⟨O, ⟨o2, b, T, lv, Ot, e1, e2, h1, h2⟩, hlo, hk⟩ := h.open (i := (0, i)) hil
  dsimp only at e1 e2
  rw [hi] at e1
  cases e1
  refine ⟨b, T, lv, Ot, e2, h1, fun k hk => hlo k ((h2 k).2 hk), fun w' o' hl => ?_⟩
  obtain ⟨u, lv', Ot', h3, h4⟩ := hl
  refine hk w' _ (ioB b lv' Ot') (List.length_set ..) rfl rfl rfl rfl (u.mono fun k _ e => (h2 k).2 e) ⟨o', b, T, lv', Ot', List.getElem?_set_self hil, e2, h3, fun k => Iff.rfl⟩ (fun k e => (h4 k e).imp (h2 k).2 id) (fun j hj hne O W c => ?_)
  obtain ⟨a, c'⟩ := j
  match a, hj, hne, c with
  | 0, _, hne, ⟨o3, b3, T3, l3, O3, f1, f2, f3, f4⟩ =>
    refine ⟨o3, b3, T3, l3, O3, ?_, f2, f3, f4⟩
    have : i ≠ c' := fun e => hne (by rw [e])
    show (s.oi.set i o')[c']? = some o3
    rw [List.getElem?_set_ne this]
    exact f1
  | 1, _, _, c => exact c
  | 2, _, _, c => exact c
  | 3, _, _, c => exact c
  | 4, _, _, c => exact c
  | _ + 5, hj, _, _ => exact hj.elim
/-- The document's object i. -/
theorem RSt.robj (h : RSt w1 s w) {i : Nat} {o : PO} (hi : s.od[i]? = some o) : ∃ q pv ev, s.qs[i]? = some q ∧ RO o q pv ev w ∧ (∀ k, roB q pv ev k → w1.heap.size ≤ k) ∧ ∀ (w' : World) (o' : PO), LeftR o q pv ev w o' w' → RSt w1 { s with od := s.od.set i o' } w' := by
  have hil := (List.getElem?_eq_some_iff.1 hi).1
  obtain ⟨O, ⟨o2, q, pv, ev, e1, e2, h1, h2⟩, hlo, hk⟩ := h.open (i := (1, i)) hil
  dsimp only at e1 e2
  rw [hi] at e1
  cases e1
  refine ⟨q, pv, ev, e2, h1, fun k hk => hlo k ((h2 k).2 hk), fun w' o' hl => ?_⟩
  obtain ⟨u, pv', ev', h3, h4⟩ := hl
  refine hk w' _ (roB q pv' ev') rfl (List.length_set ..) rfl rfl rfl (u.mono fun k _ e => (h2 k).2 e) ⟨o', q, pv', ev', List.getElem?_set_self hil, e2, h3, fun k => Iff.rfl⟩ (fun k e => (h4 k e).imp (h2 k).2 id) (fun j hj hne O W c => ?_)
  obtain ⟨a, c'⟩ := j
  match a, hj, hne, c with
  | 0, _, _, c => exact c
  | 1, _, hne, ⟨o3, q3, p3, l3, f1, f2, f3, f4⟩ =>
    refine ⟨o3, q3, p3, l3, ?_, f2, f3, f4⟩
    have : i ≠ c' := fun e => hne (by rw [e])
    show (s.od.set i o')[c']? = some o3
    rw [List.getElem?_set_ne this]
    exact f1
  | 2, _, _, c => exact c
  | 3, _, _, c => exact c
  | 4, _, _, c => exact c
  | _ + 5, hj, _, _ => exact hj.elim
theorem RSt.hx (h : RSt w1 s w) : ∃ cv fv rv, Hx w s.H s.A s.A cv fv rv (bCells s.bs) [] [] (s.bs.length : Int) := by
  obtain ⟨O, ⟨cv, fv, rv, hx, -⟩, -⟩ := h.open (i := (2, 0)) rfl
  exact ⟨cv, fv, rv, hx⟩
theorem RSt.rhp (h : RSt w1 s w) : ∃ lv, RHp w s.Q lv s.qs := by
  obtain ⟨O, ⟨lv, hx, -⟩, -⟩ := h.open (i := (3, 0)) rfl
  exact ⟨lv, hx⟩
/-- A new object of the heap. -/
theorem RSt.make (h : RSt w1 s w) (hl : s.oi.length ≤ 1000) (arr : Bool) (pr : Nat) :
    Calls Tryd.prog 10 #[.pointer (some ⟨s.H, 0, none⟩), .int .i64 (if arr = true then 1 else 0), .int .i64 (pr : Int)] w fun e w' => ∃ b T, e = .returned (.tuple #[.int .i64 ((s.oi.length + 1 : Nat) : Int), .pointer (some ⟨b, 0, none⟩)]) ∧ RSt w1 { s with oi := s.oi ++ [newO arr pr], bs := s.bs ++ [(b, T)] } w' ∧ Blk w' b 51 (objN (if arr = true then 1 else 0) (pr : Int) T) := by
  obtain ⟨⟨own, hs, ho⟩, hb, hnb, hnq⟩ := h
  obtain ⟨cv, fv, rv, hx, hO⟩ := hs.holds (2, 0) rfl
  have hx0 := hx
  have hcl : (bCells s.bs).length = s.oi.length := by rw [bCells_len, hnb]
  refine (make_any (if arr = true then 1 else 0) (pr : Int) hx (by omega) (by omega) (by omega) (Nat.le_of_lt hx.ar.blk.lt)).mono ?_
  rintro e w' ⟨b, T, cv', rfl, hT, hTb, hblk, htab, hx', u, hcv⟩
  refine ⟨b, T, by rw [hcl], ?_, hblk⟩
  have hgr := hs.lt
  have u4 : Upd w w' (own (2, 0)) := u.mono fun k _ e => (hO k).2 (by
    rcases e with e | e
    · exact .inr (.inl e)
    · exact .inr (.inr (.inl e)))
  have hbl := hblk.lt
  obtain ⟨s2, hs2⟩ : ∃ s2 : RS, s2 = { s with oi := s.oi ++ [newO arr pr], bs := s.bs ++ [(b, T)] } := ⟨_, rfl⟩
  rw [← hs2]
  have ho2 : s2.oi = s.oi ++ [newO arr pr] := by rw [hs2]
  have hb2 : s2.bs = s.bs ++ [(b, T)] := by rw [hs2]
  have hd2 : s2.od = s.od := by rw [hs2]
  have hq2 : s2.qs = s.qs := by rw [hs2]
  have hH2 : s2.H = s.H := by rw [hs2]
  have hA2 : s2.A = s.A := by rw [hs2]
  have hQ2 : s2.Q = s.Q := by rw [hs2]
  have hk2 : s2.ks = s.ks := by rw [hs2]
  clear hs2
  obtain ⟨n, hn⟩ : ∃ n, s.oi.length = n := ⟨_, rfl⟩
  obtain ⟨m, hm⟩ : ∃ m, s.od.length = m := ⟨_, rfl⟩
  obtain ⟨d, hd⟩ : ∃ d, s.ks.length = d := ⟨_, rfl⟩
  rw [hn, hm, hd] at hs ho hgr
  rw [hn] at hnb hcl
  have hcC : bCells s2.bs = bCells s.bs ++ [(some (tObj, b), false)] := by rw [hb2]; unfold bCells; rw [List.map_append]; rfl
  -- the heap
  have h1 := hs.turn (C' := rlC s2) (O' := fun k => k = s.H ∨ k = s.A ∨ cv'.ownBlock = some k ∨ fv.ownBlock = some k ∨ rv.ownBlock = some k) (rlStab s) (i := (2, 0)) rfl u4 (fun k hk => .inl hk) (fun j hj hne O W c => ?_) ⟨cv', fv, rv, (by rw [hcC, hH2, hA2, hb2, List.length_append, List.length_singleton]; rw [Int.natCast_add]; exact hx'), fun k => by rw [hH2, hA2]⟩ (fun k e => ?_) (fun k e => ?_)
  rotate_left
  · obtain ⟨a, c'⟩ := j
    match a, hj, hne, c with
    | 0, hj, _, ⟨o3, b3, T3, l3, O3, f1, f2, f3, f4⟩ =>
      have hj' : c' < n := hj
      refine ⟨o3, b3, T3, l3, O3, ?_, ?_, f3, f4⟩
      · show s2.oi[c']? = some o3
        rw [ho2, List.getElem?_append_left (by omega)]; exact f1
      · show s2.bs[c']? = some (b3, T3)
        rw [hb2, List.getElem?_append_left (by omega)]; exact f2
    | 1, _, _, ⟨o3, q3, p3, l3, f1, f2, f3, f4⟩ =>
      exact ⟨o3, q3, p3, l3, by rw [hd2]; exact f1, by rw [hq2]; exact f2, f3, f4⟩
    | 2, hj, hne, _ =>
      obtain rfl : c' = 0 := hj
      exact absurd rfl hne
    | 3, _, _, ⟨l3, f1, f2⟩ => exact ⟨l3, by rw [hQ2, hq2]; exact f1, by rw [hQ2]; exact f2⟩
    | 4, _, _, ⟨x3, f1, f2⟩ => exact ⟨x3, by rw [hk2]; exact f1, f2⟩
    | _ + 5, hj, _, _ => exact hj.elim
  · rcases e with e | e | e | e | e
    · exact .inl ((hO k).2 (.inl e))
    · exact .inl ((hO k).2 (.inr (.inl e)))
    · rcases hcv k e with q | q
      · exact .inl ((hO k).2 (.inr (.inr (.inl q))))
      · exact .inr (by omega)
    · exact .inl ((hO k).2 (.inr (.inr (.inr (.inl e)))))
    · exact .inl ((hO k).2 (.inr (.inr (.inr (.inr e)))))
  · rcases e with rfl | rfl | e | e | e
    · exact hx'.hb.lt
    · exact hx'.ar.blk.lt
    · exact (hx'.ar.cells.lt k e).2
    · exact (hx'.ar.free.lt k e).2
    · exact (hx'.ar.roots.lt k e).2
  have far : ∀ j, rlL n m d j → ∀ k, setOwn own (2, 0) (fun k => k = s.H ∨ k = s.A ∨ cv'.ownBlock = some k ∨ fv.ownBlock = some k ∨ rv.ownBlock = some k) j k → k < T ∨ b < k := fun j hj k hk => by
    by_cases e : j = (2, 0)
    · subst e
      rw [setOwn_same] at hk
      have h4 : ∀ k, own (2, 0) k → k < T := fun k hk => by have := hgr (2, 0) rfl k hk; omega
      rcases hk with e | e | e | e | e
      · exact .inl (h4 k ((hO k).2 (.inl e)))
      · exact .inl (h4 k ((hO k).2 (.inr (.inl e))))
      · rcases hcv k e with q | q
        · exact .inl (h4 k ((hO k).2 (.inr (.inr (.inl q)))))
        · exact .inr q
      · exact .inl (h4 k ((hO k).2 (.inr (.inr (.inr (.inl e))))))
      · exact .inl (h4 k ((hO k).2 (.inr (.inr (.inr (.inr e))))))
    · rw [setOwn_ne own _ e] at hk
      have := hgr j hj k hk
      exact .inl (by omega)
  have n0 : ∀ j, rlL n m d j → j ≠ (0, n) := fun j hj e => by subst e; exact Nat.lt_irrefl _ hj
  have hio : LieO (newO arr pr) b T nilS (fun k => k = T) w' := by
    have hat : atV (newO arr pr) = 0 := if_neg (by simp [newO])
    refine ⟨by rw [hat]; exact hblk, World.ownsRow_nil _ _ _ _, htab, fun e => by omega, fun g hg => (by simp [Value.ownBlock] at hg), fun k hk => ?_⟩
    have hk2 : k = T := hk
    omega
  have hown2 : ∀ k, ioB b nilS (fun k => k = T) k ↔ k = b ∨ k = T := fun k => by
    unfold ioB
    constructor
    · rintro (e | e | e)
      · exact .inl e
      · simp [Value.ownBlock] at e
      · exact .inr e
    · rintro (e | e)
      · exact .inl e
      · exact .inr (.inr e)
  have hg1 : s2.oi[n]? = some (newO arr pr) := by rw [ho2, ← hn, List.getElem?_append_right (Nat.le_refl _), Nat.sub_self]; rfl
  have hg2 : s2.bs[n]? = some (b, T) := by rw [hb2, ← hnb, List.getElem?_append_right (Nat.le_refl _), Nat.sub_self]; rfl
  have h2 := (h1.sub (L' := fun j => rlL n m d j ∧ j ≠ (0, n)) (fun j hj => hj.1)).put (L := rlL n m d) (i := (0, n)) (O' := ioB b nilS (fun k => k = T)) ⟨newO arr pr, b, T, nilS, _, hg1, hg2, hio, fun k => Iff.rfl⟩ (fun j hj _ k hk e => by have := far j hj k hk; rcases (hown2 k).1 e with e | e <;> omega) (fun k e => by rcases (hown2 k).1 e with e | e <;> omega)
  have hl2 : s2.oi.length = n + 1 := by rw [ho2, List.length_append, hn]; rfl
  have hm2 : s2.od.length = m := by rw [hd2, hm]
  have hL : ∀ j, rlL (n + 1) m d j → rlL n m d j ∨ j = (0, n) := fun j hj => by
    obtain ⟨a, c'⟩ := j
    match a, hj with
    | 0, hj =>
      by_cases e : c' = n
      · exact .inr (by rw [e])
      · exact .inl (show c' < n by have : c' < n + 1 := hj; omega)
    | 1, hj => exact .inl hj
    | 2, hj => exact .inl hj
    | 3, hj => exact .inl hj
    | 4, hj => exact .inl hj
    | _ + 5, hj => exact hj.elim
  refine ⟨⟨_, by rw [hl2, hm2, hk2, hd]; exact h2.sub hL, fun j hj k hk => ?_⟩, hb.trans (u4.below hb.size (ho (2, 0) rfl)), by rw [hb2, List.length_append, hl2, hnb]; rfl, by rw [hq2, hd2, hnq]⟩
  rw [hl2, hm2, hk2, hd] at hj
  have hbs := hb.size
  rcases hL j hj with hj | rfl
  · rw [setOwn_ne _ _ (n0 j hj)] at hk
    by_cases e : j = (2, 0)
    · subst e
      rw [setOwn_same] at hk
      have h4 := fun k q => ho (2, 0) (rfl : rlL n m d (2, 0)) k ((hO k).2 q)
      rcases hk with e | e | e | e | e
      · exact h4 k (.inl e)
      · exact h4 k (.inr (.inl e))
      · rcases hcv k e with q | q
        · exact h4 k (.inr (.inr (.inl q)))
        · omega
      · exact h4 k (.inr (.inr (.inr (.inl e))))
      · exact h4 k (.inr (.inr (.inr (.inr e))))
    · rw [setOwn_ne own _ e] at hk
      exact ho j hj k hk
  · rw [setOwn_same] at hk
    rcases (hown2 k).1 hk with e | e <;> omega
/-- A new object of the document's heap. -/
theorem RSt.rmake (h : RSt w1 s w) (hl : s.od.length ≤ 1000) (arr : Bool) (pr : Nat) :
    Calls Tryd.prog 58 #[.pointer (some ⟨s.Q, 0, none⟩), .bool arr, .int .i64 (pr : Int)] w fun e w' => ∃ q, e = .returned (.int .i64 ((s.od.length + 1 : Nat) : Int)) ∧ RSt w1 { s with od := s.od ++ [newO arr pr], qs := s.qs ++ [q] } w' ∧ Upd w w' (fun k => k = s.Q ∨ ∃ lv, RHp w s.Q lv s.qs ∧ lv.ownBlock = some k) := by
  obtain ⟨⟨own, hs, ho⟩, hb, hnb, hnq⟩ := h
  obtain ⟨lv, hx, hO⟩ := hs.holds (3, 0) rfl
  refine (rmake_any arr pr hx (by omega)).mono ?_
  rintro e w' ⟨rfl, lv', hx', hro, u, hcv⟩
  obtain ⟨q, hq⟩ : ∃ q, w.heap.size = q := ⟨_, rfl⟩
  rw [hq] at hx' hro hcv
  refine ⟨q, by rw [hnq], ?_, u.mono fun k _ e => e.imp id (fun e => ⟨lv, hx, e⟩)⟩
  have hgr := hs.lt
  have u4 : Upd w w' (own (3, 0)) := u.mono fun k _ e => (hO k).2 e
  have hbl := hro.ob.lt
  obtain ⟨s2, hs2⟩ : ∃ s2 : RS, s2 = { s with od := s.od ++ [newO arr pr], qs := s.qs ++ [q] } := ⟨_, rfl⟩
  rw [← hs2]
  have ho2 : s2.oi = s.oi := by rw [hs2]
  have hb2 : s2.bs = s.bs := by rw [hs2]
  have hd2 : s2.od = s.od ++ [newO arr pr] := by rw [hs2]
  have hq2 : s2.qs = s.qs ++ [q] := by rw [hs2]
  have hH2 : s2.H = s.H := by rw [hs2]
  have hA2 : s2.A = s.A := by rw [hs2]
  have hQ2 : s2.Q = s.Q := by rw [hs2]
  have hk2 : s2.ks = s.ks := by rw [hs2]
  clear hs2
  obtain ⟨n, hn⟩ : ∃ n, s.oi.length = n := ⟨_, rfl⟩
  obtain ⟨m, hm⟩ : ∃ m, s.od.length = m := ⟨_, rfl⟩
  obtain ⟨d, hd⟩ : ∃ d, s.ks.length = d := ⟨_, rfl⟩
  rw [hn, hm, hd] at hs ho hgr
  rw [hm] at hnq
  have h1 := hs.turn (C' := rlC s2) (O' := fun k => k = s.Q ∨ lv'.ownBlock = some k) (rlStab s) (i := (3, 0)) rfl u4 (fun k hk => .inl hk) (fun j hj hne O W c => ?_) ⟨lv', (by rw [hQ2, hq2]; exact hx'), fun k => by rw [hQ2]⟩ (fun k e => ?_) (fun k e => ?_)
  rotate_left
  · obtain ⟨a, c'⟩ := j
    match a, hj, hne, c with
    | 0, _, _, ⟨o3, b3, T3, l3, O3, f1, f2, f3, f4⟩ => exact ⟨o3, b3, T3, l3, O3, by rw [ho2]; exact f1, by rw [hb2]; exact f2, f3, f4⟩
    | 1, hj, _, ⟨o3, q3, p3, l3, f1, f2, f3, f4⟩ =>
      have hj' : c' < m := hj
      refine ⟨o3, q3, p3, l3, ?_, ?_, f3, f4⟩
      · show s2.od[c']? = some o3
        rw [hd2, List.getElem?_append_left (by omega)]; exact f1
      · show s2.qs[c']? = some q3
        rw [hq2, List.getElem?_append_left (by omega)]; exact f2
    | 2, _, _, ⟨c1, c2, c3, f1, f2⟩ => exact ⟨c1, c2, c3, by rw [hb2, hH2, hA2]; exact f1, by rw [hH2, hA2]; exact f2⟩
    | 3, hj, hne, _ =>
      obtain rfl : c' = 0 := hj
      exact absurd rfl hne
    | 4, _, _, ⟨x3, f1, f2⟩ => exact ⟨x3, by rw [hk2]; exact f1, f2⟩
    | _ + 5, hj, _, _ => exact hj.elim
  · rcases e with e | e
    · exact .inl ((hO k).2 (.inl e))
    · rcases hcv k e with q | q
      · exact .inl ((hO k).2 (.inr q))
      · exact .inr (by omega)
  · rcases e with rfl | e
    · exact hx'.hb.lt
    · exact (hx'.row.lt k e).2
  have far : ∀ j, rlL n m d j → ∀ k, setOwn own (3, 0) (fun k => k = s.Q ∨ lv'.ownBlock = some k) j k → k < q ∨ q < k := fun j hj k hk => by
    by_cases e : j = (3, 0)
    · subst e
      rw [setOwn_same] at hk
      have h4 : ∀ k, own (3, 0) k → k < q := fun k hk => by have := hgr (3, 0) rfl k hk; omega
      rcases hk with e | e
      · exact .inl (h4 k ((hO k).2 (.inl e)))
      · rcases hcv k e with q | q
        · exact .inl (h4 k ((hO k).2 (.inr q)))
        · exact .inr q
    · rw [setOwn_ne own _ e] at hk
      have := hgr j hj k hk
      exact .inl (by omega)
  have n0 : ∀ j, rlL n m d j → j ≠ (1, m) := fun j hj e => by subst e; exact Nat.lt_irrefl _ hj
  have hown2 : ∀ k, roB q nilS nilS k ↔ k = q := fun k => by
    unfold roB
    constructor
    · rintro (e | e | e)
      · exact e
      · simp [Value.ownBlock] at e
      · simp [Value.ownBlock] at e
    · exact fun e => .inl e
  have hg1 : s2.od[m]? = some (newO arr pr) := by rw [hd2, ← hm, List.getElem?_append_right (Nat.le_refl _), Nat.sub_self]; rfl
  have hg2 : s2.qs[m]? = some q := by rw [hq2, ← hnq, List.getElem?_append_right (Nat.le_refl _), Nat.sub_self]; rfl
  have h2 := (h1.sub (L' := fun j => rlL n m d j ∧ j ≠ (1, m)) (fun j hj => hj.1)).put (L := rlL n m d) (i := (1, m)) (O' := roB q nilS nilS) ⟨newO arr pr, q, nilS, nilS, hg1, hg2, hro, fun k => Iff.rfl⟩ (fun j hj _ k hk e => by have := far j hj k hk; have := (hown2 k).1 e; omega) (fun k e => by have := (hown2 k).1 e; omega)
  have hl2 : s2.od.length = m + 1 := by rw [hd2, List.length_append, hm]; rfl
  have hm2 : s2.oi.length = n := by rw [ho2, hn]
  have hL : ∀ j, rlL n (m + 1) d j → rlL n m d j ∨ j = (1, m) := fun j hj => by
    obtain ⟨a, c'⟩ := j
    match a, hj with
    | 0, hj => exact .inl hj
    | 1, hj =>
      by_cases e : c' = m
      · exact .inr (by rw [e])
      · exact .inl (show c' < m by have : c' < m + 1 := hj; omega)
    | 2, hj => exact .inl hj
    | 3, hj => exact .inl hj
    | 4, hj => exact .inl hj
    | _ + 5, hj => exact hj.elim
  refine ⟨⟨_, by rw [hl2, hm2, hk2, hd]; exact h2.sub hL, fun j hj k hk => ?_⟩, hb.trans (u4.below hb.size (ho (3, 0) rfl)), by rw [hb2, ho2, hnb], by rw [hq2, List.length_append, hl2, hnq]; rfl⟩
  rw [hl2, hm2, hk2, hd] at hj
  have hbs := hb.size
  rcases hL j hj with hj | rfl
  · rw [setOwn_ne _ _ (n0 j hj)] at hk
    by_cases e : j = (3, 0)
    · subst e
      rw [setOwn_same] at hk
      have h4 := fun k q => ho (3, 0) (rfl : rlL n m d (3, 0)) k ((hO k).2 q)
      rcases hk with e | e
      · exact h4 k (.inl e)
      · rcases hcv k e with q | q
        · exact h4 k (.inr q)
        · omega
    · rw [setOwn_ne own _ e] at hk
      exact ho j hj k hk
  · rw [setOwn_same] at hk
    have := (hown2 k).1 hk
    omega
/-- Blocks of the caller's that only lie there. -/
theorem RSt.keeps (h : RSt w1 s w) (h0 : s.ks = []) (b : Below w.heap.size w w') (ks : List (Nat × TypeId × Array Value)) (hks : ∀ x ∈ ks, Blk w' x.1 x.2.1 x.2.2 ∧ w.heap.size ≤ x.1) (hnd : ks.Pairwise (fun x y => x.1 ≠ y.1)) : RSt w1 { s with ks := ks } w' := by
  obtain ⟨⟨own, hs, ho⟩, hb, hnb, hnq⟩ := h
  have hsz := hb.size
  have hin : ∀ j x, ks[j]? = some x → x ∈ ks := fun j x hx => List.mem_of_getElem? hx
  obtain ⟨own2, hown2⟩ : ∃ own2 : Nat × Nat → Nat → Prop, own2 = fun i k => if i.1 = 4 then ∃ x, ks[i.2]? = some x ∧ k = x.1 else own i k := ⟨_, rfl⟩
  have o4 : ∀ j k, own2 (4, j) k ↔ ∃ x, ks[j]? = some x ∧ k = x.1 := fun j k => by rw [hown2]; simp
  have on : ∀ i, i.1 ≠ 4 → ∀ k, own2 i k ↔ own i k := fun i hi k => by rw [hown2]; simp [hi]
  have hL : ∀ i, rlL s.oi.length s.od.length ks.length i → i.1 ≠ 4 → rlL s.oi.length s.od.length s.ks.length i := fun i hi hne => by
    obtain ⟨a, c⟩ := i
    match a, hi, hne with
    | 0, hi, _ => exact hi
    | 1, hi, _ => exact hi
    | 2, hi, _ => exact hi
    | 3, hi, _ => exact hi
    | 4, _, hne => exact absurd rfl hne
    | _ + 5, hi, _ => exact hi.elim
  have hs' := hs.below (rlStab s) b
  refine ⟨⟨own2, ⟨fun i hi => ?_, fun i hi k hk => ?_, fun i j hi hj hne k hk hk' => ?_⟩, fun i hi k hk => ?_⟩, hb.trans (b.mono hb.size), hnb, hnq⟩
  · by_cases e : i.1 = 4
    · obtain ⟨a, c⟩ := i
      obtain rfl : a = 4 := e
      have hc : c < ks.length := hi
      exact ⟨ks[c], List.getElem?_eq_getElem hc, (hks _ (List.getElem_mem hc)).1, fun k => (o4 c k).trans ⟨fun ⟨x, hx, e⟩ => by rw [List.getElem?_eq_getElem hc] at hx; cases hx; exact e, fun e => ⟨_, List.getElem?_eq_getElem hc, e⟩⟩⟩
    · have h1 := hs'.holds i (hL i hi e)
      obtain ⟨a, c⟩ := i
      match a, e, h1 with
      | 0, e, ⟨o, b, T, lv, Ot, e1, e2, e3, e4⟩ => exact ⟨o, b, T, lv, Ot, e1, e2, e3, fun k => (on (0, c) e k).trans (e4 k)⟩
      | 1, e, ⟨o, q, pv, ev, e1, e2, e3, e4⟩ => exact ⟨o, q, pv, ev, e1, e2, e3, fun k => (on (1, c) e k).trans (e4 k)⟩
      | 2, e, ⟨cv, fv, rv, e3, e4⟩ => exact ⟨cv, fv, rv, e3, fun k => (on (2, c) e k).trans (e4 k)⟩
      | 3, e, ⟨lv, e3, e4⟩ => exact ⟨lv, e3, fun k => (on (3, c) e k).trans (e4 k)⟩
      | 4, e, _ => exact absurd rfl e
      | _ + 5, _, h1 => exact h1.elim
  · by_cases e : i.1 = 4
    · obtain ⟨a, c⟩ := i
      obtain rfl : a = 4 := e
      obtain ⟨x, hx, rfl⟩ := (o4 c k).1 hk
      exact (hks x (hin c x hx)).1.lt
    · exact hs'.lt i (hL i hi e) k ((on i e k).1 hk)
  · by_cases e : i.1 = 4
    · obtain ⟨a, c⟩ := i
      obtain rfl : a = 4 := e
      obtain ⟨x, hx, rfl⟩ := (o4 c k).1 hk
      by_cases e2 : j.1 = 4
      · obtain ⟨a', c'⟩ := j
        obtain rfl : a' = 4 := e2
        obtain ⟨y, hy, hxy⟩ := (o4 c' _).1 hk'
        have hcc : c ≠ c' := fun e => hne (by rw [e])
        obtain ⟨l1, g1⟩ := List.getElem?_eq_some_iff.1 hx
        obtain ⟨l2, g2⟩ := List.getElem?_eq_some_iff.1 hy
        have hp := List.pairwise_iff_getElem.1 hnd
        rcases Nat.lt_or_gt_of_ne hcc with h4 | h4
        · exact hp c c' l1 l2 h4 (by rw [g1, g2]; exact hxy)
        · exact hp c' c l2 l1 h4 (by rw [g1, g2]; exact hxy.symm)
      · have h1 := hs.lt j (hL j hj e2) _ ((on j e2 _).1 hk')
        have h2 := (hks x (hin c x hx)).2
        omega
    · by_cases e2 : j.1 = 4
      · obtain ⟨a', c'⟩ := j
        obtain rfl : a' = 4 := e2
        obtain ⟨y, hy, rfl⟩ := (o4 c' _).1 hk'
        have h1 := hs.lt i (hL i hi e) _ ((on i e _).1 hk)
        have h2 := (hks y (hin c' y hy)).2
        omega
      · exact hs.sep i j (hL i hi e) (hL j hj e2) hne k ((on i e k).1 hk) ((on j e2 k).1 hk')
  · by_cases e : i.1 = 4
    · obtain ⟨a, c⟩ := i
      obtain rfl : a = 4 := e
      obtain ⟨x, hx, rfl⟩ := (o4 c k).1 hk
      exact Nat.le_trans hsz (hks x (hin c x hx)).2
    · exact ho i (hL i hi e) k ((on i e k).1 hk)
theorem RSt.box (h : RSt w1 s w) {j : Nat} {x : Nat × TypeId × Array Value} (hx : s.ks[j]? = some x) : Blk w x.1 x.2.1 x.2.2 := by
  obtain ⟨O, ⟨y, e1, hy, -⟩, -⟩ := h.open (i := (4, j)) (show j < s.ks.length from (List.getElem?_eq_some_iff.1 hx).1)
  dsimp only at e1
  rw [hx] at e1
  cases e1
  exact hy
theorem RSt.drop (h : RSt w1 s w) : RSt w1 { s with ks := [] } w := by
  obtain ⟨⟨own, hs, ho⟩, hb, hnb, hnq⟩ := h
  have hL : ∀ i, rlL s.oi.length s.od.length 0 i → rlL s.oi.length s.od.length s.ks.length i ∧ i.1 ≠ 4 := fun i hi => by
    obtain ⟨a, c⟩ := i
    match a, hi with
    | 0, hi => exact ⟨hi, by simp⟩
    | 1, hi => exact ⟨hi, by simp⟩
    | 2, hi => exact ⟨hi, by simp⟩
    | 3, hi => exact ⟨hi, by simp⟩
    | 4, hi => exact absurd hi (Nat.not_lt_zero _)
    | _ + 5, hi => exact hi.elim
  refine ⟨⟨own, (hs.sub (fun i hi => (hL i hi).1)).chg (fun i hi O W c => ?_), fun i hi => ho i (hL i hi).1⟩, hb, hnb, hnq⟩
  obtain ⟨a, c'⟩ := i
  match a, hi, c with
  | 0, _, c => exact c
  | 1, _, c => exact c
  | 2, _, c => exact c
  | 3, _, c => exact c
  | 4, hi, _ => exact absurd hi (Nat.not_lt_zero _)
  | _ + 5, _, c => exact c
end
end Go.Proofs.YtmimnaaofpkndaaDoor.Hp

/- HeapRuns: the contracts of both heaps' functions over the state. -/
set_option linter.unusedVariables false
set_option linter.unusedSimpArgs false
namespace Go.Proofs.YtmimnaaofpkndaaDoor.Hp
open Go.RowKit Go.Proofs.YtmimnaaofpkndaaDoor Go.Shelf Go.Sort
def RS.bl (s : RS) (i : Nat) : Nat := (s.bs.getD i (0, 0)).1
def RS.ql (s : RS) (i : Nat) : Nat := s.qs.getD i 0
/-- What holds of the objects purely. -/
structure RP (os : List PO) (N : Nat) : Prop where
  ok : ∀ o ∈ os, o.Ok
  len : ∀ o ∈ os, o.A.length ≤ N
  ends : Ends os
  le : os.length ≤ 12
theorem bl_at {s : RS} {i b T : Nat} (h : s.bs[i]? = some (b, T)) : s.bl i = b := by unfold RS.bl; rw [List.getD_eq_getElem?_getD, h]; rfl
theorem ql_at {s : RS} {i q : Nat} (h : s.qs[i]? = some q) : s.ql i = q := by unfold RS.ql; rw [List.getD_eq_getElem?_getD, h]; rfl
theorem objB_at {bs : List (Nat × Nat)} {i b T : Nat} (h : bs[i]? = some (b, T)) : objP (bCells bs) ((i : Int) + 1) = .pointer (some ⟨b, 0, none⟩) := by
  have hl := (List.getElem?_eq_some_iff.1 h).1
  unfold objP
  rw [bCells_len, if_pos (by omega)]
  have e : ((i : Int) + 1 - 1).toNat = i := by omega
  rw [e]
  have h2 : (bCells bs).getD i (none, false) = (some (tObj, b), false) := by
    unfold bCells
    rw [List.getD_eq_getElem?_getD, List.getElem?_map, h]
    rfl
  rw [h2]
  rfl
theorem objB_out {bs : List (Nat × Nat)} {r : Int} (h : r < 1 ∨ (bs.length : Int) < r) : objP (bCells bs) r = .pointer none := by
  unfold objP
  rw [bCells_len, if_neg (by omega)]
theorem robjV_at {qs : List Nat} {i q : Nat} (h : qs[i]? = some q) : robjV qs ((i : Int) + 1) = .pointer (some ⟨q, 0, none⟩) := by
  have hl := (List.getElem?_eq_some_iff.1 h).1
  unfold robjV
  rw [if_pos (by omega)]
  have e : ((i : Int) + 1 - 1).toNat = i := by omega
  rw [e, List.getD_eq_getElem?_getD, h]
  rfl
theorem robjV_out {qs : List Nat} {r : Int} (h : r < 1 ∨ (qs.length : Int) < r) : robjV qs r = .pointer none := by
  unfold robjV
  rw [if_neg (by omega)]
/-- Put, purely: l is the chain of the object's prototype. -/
def putO (os : List PO) (o : PO) (l : List Nat) (k v : K3) : Bool × PO :=
  if (o.own k).2.2 = true then
    if ((bits .and .i64 (o.own k).2.1 1 == 0) || (bits .and .i64 (o.own k).2.1 8 != 0)) = true then (false, o) else o.def1 k v (o.own k).2.1
  else if ((findC os k l).2.2 && ((bits .and .i64 (findC os k l).2.1 1 == 0) || (bits .and .i64 (findC os k l).2.1 8 != 0))) = true then (false, o) else o.def1 k v 7
theorem set_same {α : Type} {l : List α} {i : Nat} {x : α} (h : l[i]? = some x) : l.set i x = l := by
  apply List.ext_getElem?
  intro j
  by_cases e : i = j
  · subst e; rw [List.getElem?_set_self (List.getElem?_eq_some_iff.1 h).1, h]
  · rw [List.getElem?_set_ne e]
theorem RS.oi_same {s : RS} {i : Nat} {o : PO} (h : s.oi[i]? = some o) : { s with oi := s.oi.set i o } = s := by rw [set_same h]
theorem RS.od_same {s : RS} {i : Nat} {o : PO} (h : s.od[i]? = some o) : { s with od := s.od.set i o } = s := by rw [set_same h]
section
variable {w1 w : World} {s : RS} {N : Nat}
theorem RSt.lg (h : RSt w1 s w) (hG : LG w1) : LG w := hG.below h.bel
theorem RSt.pg (h : RSt w1 s w) (hP : PG w1) : PG w := hP.below h.bel
theorem RSt.blInj (h : RSt w1 s w) : ∀ i j, i < s.oi.length → j < s.oi.length → s.bl i = s.bl j → i = j := fun i j hi hj e => by
  obtain ⟨own, hs, -⟩ := h.st
  obtain ⟨o, b, T, lv, Ot, e1, e2, -, h2⟩ := hs.holds (0, i) hi
  obtain ⟨o', b', T', lv', Ot', e1', e2', -, h2'⟩ := hs.holds (0, j) hj
  dsimp only at e2 e2'
  rw [bl_at e2, bl_at e2'] at e
  rcases Nat.decEq i j with hne | rfl
  · exact absurd ((h2' b).2 (by subst e; exact .inl rfl)) (hs.sep (0, i) (0, j) hi hj (fun h => hne (by injection h)) b ((h2 b).2 (.inl rfl)))
  · rfl
theorem RSt.qlInj (h : RSt w1 s w) : ∀ i j, i < s.od.length → j < s.od.length → s.ql i = s.ql j → i = j := fun i j hi hj e => by
  obtain ⟨own, hs, -⟩ := h.st
  obtain ⟨o, q, pv, ev, e1, e2, -, h2⟩ := hs.holds (1, i) hi
  obtain ⟨o', q', pv', ev', e1', e2', -, h2'⟩ := hs.holds (1, j) hj
  dsimp only at e2 e2'
  rw [ql_at e2, ql_at e2'] at e
  rcases Nat.decEq i j with hne | rfl
  · exact absurd ((h2' q).2 (by subst e; exact .inl rfl)) (hs.sep (1, i) (1, j) hi hj (fun h => hne (by injection h)) q ((h2 q).2 (.inl rfl)))
  · rfl
theorem RSt.hobj (h : RSt w1 s w) (hl : s.oi.length ≤ 1000) (r : Int) : Calls Tryd.prog 11 #[.pointer (some ⟨s.H, 0, none⟩), .int .i64 r] w fun e w' => e = .returned (objP (bCells s.bs) r) ∧ Below w.heap.size w w' := by
  obtain ⟨cv, fv, rv, hx⟩ := h.hx
  have hnb := h.nb
  refine (obj_any r hx (by rw [bCells_len]; omega) (fun i n hn => .inl ?_)).mono (by rintro e w' ⟨rfl, q, rfl⟩; exact ⟨rfl, below_drw (Below.refl _ _) q⟩)
  unfold bCells at hn
  rw [List.getD_eq_getElem?_getD, List.getElem?_map] at hn
  cases hx : s.bs[i]? with
  | none => rw [hx] at hn; cases hn
  | some x =>
    rw [hx] at hn
    have : some (tObj, x.1) = some n := hn
    cases this
    rfl
theorem RSt.rob (h : RSt w1 s w) (hl : s.od.length ≤ 1000) (r : Int) : Calls Tryd.prog 37 #[.pointer (some ⟨s.Q, 0, none⟩), .int .i64 r] w fun e w' => e = .returned (robjV s.qs r) ∧ Below w.heap.size w w' := by
  obtain ⟨lv, hx⟩ := h.rhp
  have hnq := h.nq
  exact (robj_any r hx (by omega)).mono (by rintro e w' ⟨rfl, rfl⟩; exact ⟨rfl, Below.refl _ _⟩)
theorem RSt.bAt (h : RSt w1 s w) {i : Nat} {o : PO} (hi : s.oi[i]? = some o) : s.bs[i]? = some (s.bl i, (s.bs.getD i (0, 0)).2) := by
  have hl := (List.getElem?_eq_some_iff.1 hi).1
  have hnb := h.nb
  unfold RS.bl
  rw [List.getD_eq_getElem?_getD, List.getElem?_eq_getElem (by omega)]
  rfl
theorem RSt.qAt (h : RSt w1 s w) {i : Nat} {o : PO} (hi : s.od[i]? = some o) : s.qs[i]? = some (s.ql i) := by
  have hl := (List.getElem?_eq_some_iff.1 hi).1
  have hnq := h.nq
  unfold RS.ql
  rw [List.getD_eq_getElem?_getD, List.getElem?_eq_getElem (by omega)]
  rfl
theorem RSt.hobjC (h : RSt w1 s w) (hl : s.oi.length ≤ 1000) (r : Nat) (m : List Nat) (hm : Chn s.oi r m) : Calls Tryd.prog 11 #[.pointer (some ⟨s.H, 0, none⟩), .int .i64 (r : Int)] w fun e w' => e = .returned (bP s.bl r) ∧ Below w.heap.size w w' := by
  have h1 := h.hobj hl (r : Int)
  cases m with
  | nil =>
    obtain rfl : r = 0 := hm
    rw [objB_out (.inl (by decide))] at h1
    exact h1
  | cons i m =>
    obtain ⟨rfl, o, ho, -⟩ := hm
    rw [show (((i + 1 : Nat) : Int)) = (i : Int) + 1 by omega, objB_at (h.bAt ho)] at h1
    rw [show (((i + 1 : Nat) : Int)) = (i : Int) + 1 by omega]
    exact h1
theorem RSt.robC (h : RSt w1 s w) (hl : s.od.length ≤ 1000) (r : Nat) (m : List Nat) (hm : Chn s.od r m) : Calls Tryd.prog 37 #[.pointer (some ⟨s.Q, 0, none⟩), .int .i64 (r : Int)] w fun e w' => e = .returned (bP s.ql r) ∧ Below w.heap.size w w' := by
  have h1 := h.rob hl (r : Int)
  cases m with
  | nil =>
    obtain rfl : r = 0 := hm
    rw [robjV_out (.inl (by decide))] at h1
    exact h1
  | cons i m =>
    obtain ⟨rfl, o, ho, -⟩ := hm
    rw [show (((i + 1 : Nat) : Int)) = (i : Int) + 1 by omega, robjV_at (h.qAt ho)] at h1
    rw [show (((i + 1 : Nat) : Int)) = (i : Int) + 1 by omega]
    exact h1
/-- Own, of both. -/
theorem RSt.own (h : RSt w1 s w) (hG : LG w1) (hp : RP s.oi N) {i : Nat} {o : PO} (hi : s.oi[i]? = some o) {k : K3} (hk : KS k) :
    Calls Tryd.prog 18 #[.pointer (some ⟨s.bl i, 0, none⟩), VK k] w fun e w' => e = .returned (.tuple #[VK (o.own k).1, .int .i64 (o.own k).2.1, .bool (o.own k).2.2]) ∧ Below w.heap.size w w' := by
  obtain ⟨b, T, lv, Ot, e1, hio, -, -⟩ := h.obj hi
  rw [bl_at e1]
  exact own_io hio (hp.ok o (List.mem_of_getElem? hi)) hk (h.lg hG).lg
theorem RSt.rown (h : RSt w1 s w) (hG : LG w1) (hp : RP s.od N) (hN : N ≤ 4000) {i : Nat} {o : PO} (hi : s.od[i]? = some o) {k : K3} (hk : KS k) :
    Calls Tryd.prog 62 #[.pointer (some ⟨s.ql i, 0, none⟩), VK k] w fun e w' => e = .returned (.tuple #[PV (rkey o k) (o.own k).1 (o.own k).2.1, .bool (o.own k).2.2]) ∧ Below w.heap.size w w' := by
  obtain ⟨q, pv, ev, e1, hro, -, -⟩ := h.robj hi
  rw [ql_at e1]
  exact rown_any hro (hp.ok o (List.mem_of_getElem? hi)) hk (h.lg hG) (Nat.le_trans (hp.len o (List.mem_of_getElem? hi)) hN)
theorem RSt.prI (h : RSt w1 s w) {i : Nat} {o : PO} (hi : s.oi[i]? = some o) : w.cell? ⟨s.bl i, 1, none⟩ = some (.int .i64 (o.pr : Int)) ∧ s.bl i < w.heap.size := by
  obtain ⟨b, T, lv, Ot, e1, hio, -, -⟩ := h.obj hi
  rw [bl_at e1]
  exact ⟨by rw [hio.ob.cell]; rfl, hio.ob.lt⟩
theorem RSt.prD (h : RSt w1 s w) {i : Nat} {o : PO} (hi : s.od[i]? = some o) : w.cell? ⟨s.ql i, 3, none⟩ = some (.int .i64 (o.pr : Int)) ∧ s.ql i < w.heap.size := by
  obtain ⟨q, pv, ev, e1, hro, -, -⟩ := h.robj hi
  rw [ql_at e1]
  exact ⟨by rw [hro.ob.cell]; rfl, hro.ob.lt⟩
/-- Find, of both. -/
theorem RSt.find (h : RSt w1 s w) (hG : LG w1) (hp : RP s.oi N) {r : Nat} {l : List Nat} (hl : Chn s.oi r l) {k : K3} (hk : KS k) :
    Calls Tryd.prog 14 #[.pointer (some ⟨s.H, 0, none⟩), .int .i64 (r : Int), VK k] w fun e w' => e = .returned (.tuple #[VK (findC s.oi k l).1, .int .i64 (findC s.oi k l).2.1, .bool (findC s.oi k l).2.2]) ∧ Below w.heap.size w w' :=
  find_chn hl h.blInj (fun W b r m hm => (h.below b).hobjC (by have := hp.le; omega) r m hm) (fun W b i o ho => (h.below b).own hG hp ho hk) (fun W b i o ho => (h.below b).prI ho)
theorem RSt.rfnd (h : RSt w1 s w) (hG : LG w1) (hp : RP s.od N) (hN : N ≤ 4000) {r : Nat} {l : List Nat} (hl : Chn s.od r l) {k : K3} (hk : KS k) :
    Calls Tryd.prog 63 #[.pointer (some ⟨s.Q, 0, none⟩), .int .i64 (r : Int), VK k] w fun e w' => e = .returned (.tuple #[PV (findK s.od k l) (findC s.od k l).1 (findC s.od k l).2.1, .bool (findC s.od k l).2.2]) ∧ Below w.heap.size w w' := by
  obtain ⟨lv, hx⟩ := h.rhp
  obtain ⟨la, cap, rfl, -⟩ := own_shape hx.row
  refine rfind_chn (n := s.od.length) (la := la) (cap := cap) hl rfl (by have := hp.le; omega) h.qlInj (fun W b r m hm => (h.below b).robC (by have := hp.le; omega) r m hm) (fun W b i o ho => (h.below b).rown hG hp hN ho hk) (fun W b i o ho => (h.below b).prD ho) (fun W b => ?_)
  have hb := hx.hb.below b hx.hb.lt
  rw [h.nq] at hb
  exact ⟨by rw [hb.cell]; rfl, hb.lt⟩
/-- Define, of both. -/
theorem RSt.def_ (h : RSt w1 s w) (hG : LG w1) (hp : RP s.oi N) (hN : N ≤ 4000) {i : Nat} {o : PO} (hi : s.oi[i]? = some o) {k v : K3} (hk : KS k) (f : Int) :
    Calls Tryd.prog 12 #[.pointer (some ⟨s.bl i, 0, none⟩), VK k, VK v, .int .i64 f] w fun e w' => e = .returned (.bool (o.def1 k v f).1) ∧ RSt w1 { s with oi := s.oi.set i (o.def1 k v f).2 } w' := by
  obtain ⟨b, T, lv, Ot, e1, hio, -, hcl⟩ := h.obj hi
  rw [bl_at e1]
  exact (define_io hio (hp.ok o (List.mem_of_getElem? hi)) hk (h.lg hG).lg (Nat.le_trans (hp.len o (List.mem_of_getElem? hi)) hN)).mono fun e w' ⟨h1, h2⟩ => ⟨h1, hcl w' _ h2⟩
theorem RSt.rdef (h : RSt w1 s w) (hG : LG w1) (hp : RP s.od N) (hN : N ≤ 4000) {i : Nat} {o : PO} (hi : s.od[i]? = some o) {k v : K3} (hk : KS k) {f : Int} (hf0 : 0 ≤ f) (hf1 : f < 16) :
    Calls Tryd.prog 60 #[.pointer (some ⟨s.ql i, 0, none⟩), VK k, VK v, .int .i64 f] w fun e w' => e = .returned (.bool (o.def1 k v f).1) ∧ RSt w1 { s with od := s.od.set i (o.def1 k v f).2 } w' := by
  obtain ⟨q, pv, ev, e1, hro, -, hcl⟩ := h.robj hi
  rw [ql_at e1]
  exact (rdefine_any hro (hp.ok o (List.mem_of_getElem? hi)) hk (h.lg hG) (Nat.le_trans (hp.len o (List.mem_of_getElem? hi)) hN) hf0 hf1).mono fun e w' ⟨h1, h2⟩ => ⟨h1, hcl w' _ h2⟩
/-- Delete, of both. -/
theorem RSt.del (h : RSt w1 s w) (hG : LG w1) (hp : RP s.oi N) (hN : N ≤ 4000) {i : Nat} {o : PO} (hi : s.oi[i]? = some o) {k : K3} (hk : KS k) :
    Calls Tryd.prog 19 #[.pointer (some ⟨s.bl i, 0, none⟩), VK k] w fun e w' => e = .returned (.bool (o.del1 k).1) ∧ RSt w1 { s with oi := s.oi.set i (o.del1 k).2 } w' := by
  obtain ⟨b, T, lv, Ot, e1, hio, -, hcl⟩ := h.obj hi
  rw [bl_at e1]
  exact (delete_io hio (hp.ok o (List.mem_of_getElem? hi)) hk (h.lg hG).lg (Nat.le_trans (hp.len o (List.mem_of_getElem? hi)) hN)).mono fun e w' ⟨h1, h2⟩ => ⟨h1, hcl w' _ h2⟩
theorem RSt.rdel (h : RSt w1 s w) (hG : LG w1) (hp : RP s.od N) (hN : N ≤ 4000) {i : Nat} {o : PO} (hi : s.od[i]? = some o) {k : K3} (hk : KS k) :
    Calls Tryd.prog 61 #[.pointer (some ⟨s.ql i, 0, none⟩), VK k] w fun e w' => e = .returned (.bool (o.del1 k).1) ∧ RSt w1 { s with od := s.od.set i (o.del1 k).2 } w' := by
  obtain ⟨q, pv, ev, e1, hro, -, hcl⟩ := h.robj hi
  rw [ql_at e1]
  exact (rdelete_any hro (hp.ok o (List.mem_of_getElem? hi)) hk (h.lg hG) (Nat.le_trans (hp.len o (List.mem_of_getElem? hi)) hN)).mono fun e w' ⟨h1, h2⟩ => ⟨h1, hcl w' _ h2⟩
/-- Freeze, of both. -/
theorem RSt.frz (h : RSt w1 s w) (hG : LG w1) (hp : RP s.oi N) (hN : N ≤ 4000) {i : Nat} {o : PO} (hi : s.oi[i]? = some o) :
    Calls Tryd.prog 64 #[.pointer (some ⟨s.bl i, 0, none⟩)] w fun e w' => (∃ v, e = .returned v) ∧ RSt w1 { s with oi := s.oi.set i o.freeze } w' := by
  obtain ⟨b, T, lv, Ot, e1, hio, hge, hcl⟩ := h.obj hi
  rw [bl_at e1]
  exact (freeze_io hio (hp.ok o (List.mem_of_getElem? hi)) (Nat.le_trans (hp.len o (List.mem_of_getElem? hi)) hN) (h.lg hG).lg (fun k hk => Nat.le_trans hG.sz (hge k hk))).mono fun e w' ⟨h1, h2⟩ => ⟨h1, hcl w' _ h2⟩
theorem RSt.rfrz (h : RSt w1 s w) (hp : RP s.od N) (hN : N ≤ 4000) {i : Nat} {o : PO} (hi : s.od[i]? = some o) :
    Calls Tryd.prog 65 #[.pointer (some ⟨s.ql i, 0, none⟩)] w fun e w' => (∃ v, e = .returned v) ∧ RSt w1 { s with od := s.od.set i o.freeze } w' := by
  obtain ⟨q, pv, ev, e1, hro, hge, hcl⟩ := h.robj hi
  rw [ql_at e1]
  exact (rfreeze_any hro (hp.ok o (List.mem_of_getElem? hi)) (Nat.le_trans (hp.len o (List.mem_of_getElem? hi)) hN)).mono fun e w' ⟨h1, h2⟩ => ⟨h1, hcl w' _ h2⟩
/-- Keys, of both. -/
theorem RSt.keys (h : RSt w1 s w) (hG : LG w1) (hp : RP s.oi N) (hN : N ≤ 4000) {i : Nat} {o : PO} (hi : s.oi[i]? = some o) :
    Calls Tryd.prog 36 #[.pointer (some ⟨s.bl i, 0, none⟩)] w fun e w' => ∃ rv, e = .returned rv ∧ w'.ownsRow w.heap.size 34 3 rv o.keys.length (valsC o.keys) ∧ RSt w1 s w' := by
  obtain ⟨b, T, lv, Ot, e1, hio, hge, hcl⟩ := h.obj hi
  rw [bl_at e1]
  refine (keys_io hio (hp.ok o (List.mem_of_getElem? hi)) (Nat.le_trans (hp.len o (List.mem_of_getElem? hi)) hN) (h.lg hG).lg (fun e => by have := hge 0 (.inr (.inr e)); have := hG.sz; omega)).mono ?_
  rintro e w' ⟨rv, O', rfl, hrow, hT, hO, u, hnr⟩
  refine ⟨rv, rfl, hrow, ?_⟩
  have hl : Left o b T lv Ot w o w' := by
    refine ⟨u.mono fun k _ e => .inr (.inr e), lv, O', ⟨u.blk hio.ob hio.nb, u.own hio.row hio.nl, hT, fun e => ?_, fun g hg e => ?_, hT.lt⟩, fun k hk => ?_⟩
    · exact (hO _ e).elim hio.nb (fun e => by have := hio.ob.lt; omega)
    · exact (hO _ e).elim (hio.nl g hg) (fun e => by have := (hio.row.lt g hg).2; omega)
    · rcases hk with e | e | e
      · exact .inl (.inl e)
      · exact .inl (.inr (.inl e))
      · exact (hO _ e).imp (fun q => .inr (.inr q)) id
  have := hcl w' o hl
  rw [RS.oi_same hi] at this
  exact this
theorem RSt.rkeys (h : RSt w1 s w) (hG : LG w1) (hP : PG w1) (hp : RP s.od N) (hN : N ≤ 4000) {i : Nat} {o : PO} (hi : s.od[i]? = some o) :
    Calls Tryd.prog 38 #[.pointer (some ⟨s.ql i, 0, none⟩)] w fun e w' => ∃ rv, e = .returned rv ∧ w'.ownsRow w.heap.size 34 3 rv o.keys.length (valsC o.keys) ∧ Below w.heap.size w w' := by
  obtain ⟨q, pv, ev, e1, hro, hge, hcl⟩ := h.robj hi
  rw [ql_at e1]
  exact rkeys_any hro (hp.ok o (List.mem_of_getElem? hi)) (h.lg hG) (h.pg hP) (Nat.le_trans (hp.len o (List.mem_of_getElem? hi)) hN)
/-- Put, of both. -/
theorem RSt.put (h : RSt w1 s w) (hG : LG w1) (hp : RP s.oi N) (hN : N ≤ 4000) {i : Nat} {o : PO} (hi : s.oi[i]? = some o) {l : List Nat} (hl : Chn s.oi o.pr l) {k v : K3} (hk : KS k) :
    Calls Tryd.prog 16 #[.pointer (some ⟨s.H, 0, none⟩), .int .i64 ((i : Int) + 1), VK k, VK v] w fun e w' => e = .returned (.bool (putO s.oi o l k v).1) ∧ RSt w1 { s with oi := s.oi.set i (putO s.oi o l k v).2 } w' := by
  have hb := h.bAt hi
  have hobj : ∀ W, Below w.heap.size w W → Calls Tryd.prog 11 #[.pointer (some ⟨s.H, 0, none⟩), .int .i64 ((i : Int) + 1)] W fun e w' => e = .returned (.pointer (some ⟨s.bl i, 0, none⟩)) ∧ Below W.heap.size W w' := fun W b => by
    have h1 := (h.below b).hobj (by have := hp.le; omega) ((i : Int) + 1)
    rw [objB_at hb] at h1
    exact h1
  have hsame : ∀ w', Below w.heap.size w w' → RSt w1 { s with oi := s.oi.set i o } w' := fun w' b => by rw [RS.oi_same hi]; exact h.below b
  unfold putO
  cases hown : (o.own k).2.2 with
  | true =>
    rw [if_pos rfl]
    refine (hput_own (o.def1 k v (o.own k).2.1).1 (fun w' => RSt w1 { s with oi := s.oi.set i (o.def1 k v (o.own k).2.1).2 } w') hobj (fun W b => (by have := (h.below b).own hG hp hi hk; rw [hown] at this; exact this)) (fun W b => (h.below b).def_ hG hp hN hi hk _)).mono ?_
    rintro e w' (⟨hc, rfl, hP⟩ | ⟨hc, rfl, hb⟩)
    · rw [if_neg (by
        cases h1 : (bits .and .i64 (o.own k).2.1 1 == 0) <;> cases h2 : (bits .and .i64 (o.own k).2.1 8 == 0) <;> simp [bne, h1, h2] at hc ⊢)]
      exact ⟨rfl, hP⟩
    · rw [if_pos (by
        cases h1 : (bits .and .i64 (o.own k).2.1 1 == 0) <;> cases h2 : (bits .and .i64 (o.own k).2.1 8 == 0) <;> simp [bne, h1, h2] at hc ⊢)]
      exact ⟨rfl, hsame w' hb⟩
  | false =>
    rw [if_neg (by decide)]
    refine (hput_new (o.def1 k v 7).1 (fun w' => RSt w1 { s with oi := s.oi.set i (o.def1 k v 7).2 } w') hobj (fun W b => (by have := (h.below b).own hG hp hi hk; rw [hown] at this; exact this)) (fun W b => (h.below b).prI hi) (fun W b => (h.below b).find hG hp hl hk) (fun W b => (h.below b).def_ hG hp hN hi hk _)).mono ?_
    rintro e w' (⟨hc, rfl, hP⟩ | ⟨hc, rfl, hb⟩)
    · rw [if_neg (by rw [hc]; decide)]
      exact ⟨rfl, hP⟩
    · rw [if_pos hc]
      exact ⟨rfl, hsame w' hb⟩
theorem RSt.rput (h : RSt w1 s w) (hG : LG w1) (hp : RP s.od N) (hN : N ≤ 4000) {i : Nat} {o : PO} (hi : s.od[i]? = some o) {l : List Nat} (hl : Chn s.od o.pr l) {k v : K3} (hk : KS k) :
    Calls Tryd.prog 59 #[.pointer (some ⟨s.Q, 0, none⟩), .int .i64 ((i : Int) + 1), VK k, VK v] w fun e w' => e = .returned (.bool (putO s.od o l k v).1) ∧ RSt w1 { s with od := s.od.set i (putO s.od o l k v).2 } w' := by
  have hq := h.qAt hi
  have hok := hp.ok o (List.mem_of_getElem? hi)
  have hobj : ∀ W, Below w.heap.size w W → Calls Tryd.prog 37 #[.pointer (some ⟨s.Q, 0, none⟩), .int .i64 ((i : Int) + 1)] W fun e w' => e = .returned (.pointer (some ⟨s.ql i, 0, none⟩)) ∧ Below W.heap.size W w' := fun W b => by
    have h1 := (h.below b).rob (by have := hp.le; omega) ((i : Int) + 1)
    rw [robjV_at hq] at h1
    exact h1
  have hsame : ∀ w', Below w.heap.size w w' → RSt w1 { s with od := s.od.set i o } w' := fun w' b => by rw [RS.od_same hi]; exact h.below b
  unfold putO
  cases hown : (o.own k).2.2 with
  | true =>
    rw [if_pos rfl]
    refine (rput_own (o.def1 k v (o.own k).2.1).1 (fun w' => RSt w1 { s with od := s.od.set i (o.def1 k v (o.own k).2.1).2 } w') hobj (fun W b => (by have := (h.below b).rown hG hp hN hi hk; rw [hown] at this; exact this)) (fun W b => (h.below b).rdef hG hp hN hi hk (own_flags hok k).1 (own_flags hok k).2)).mono ?_
    rintro e w' (⟨hc, rfl, hP⟩ | ⟨hc, rfl, hb⟩)
    · rw [if_neg (by rw [hc]; decide)]
      exact ⟨rfl, hP⟩
    · rw [if_pos hc]
      exact ⟨rfl, hsame w' hb⟩
  | false =>
    rw [if_neg (by decide)]
    refine (rput_new (o.def1 k v 7).1 (fun w' => RSt w1 { s with od := s.od.set i (o.def1 k v 7).2 } w') hobj (fun W b => (by have := (h.below b).rown hG hp hN hi hk; rw [hown] at this; exact this)) (fun W b => (h.below b).prD hi) (fun W b => (h.below b).rfnd hG hp hN hl hk) (fun W b => (h.below b).rdef hG hp hN hi hk (by decide) (by decide))).mono ?_
    rintro e w' (⟨hc, rfl, hP⟩ | ⟨hc, rfl, hb⟩)
    · rw [if_neg (by rw [hc]; decide)]
      exact ⟨rfl, hP⟩
    · rw [if_pos hc]
      exact ⟨rfl, hsame w' hb⟩
theorem RSt.chn (h : RSt w1 s w) (hp : RP s.oi N) {p : Nat} {l : List Nat} (hl : Chn s.oi p l) (r : Int) :
    Calls Tryd.prog 15 #[.pointer (some ⟨s.H, 0, none⟩), .int .i64 r, .int .i64 (p : Int)] w fun e w' => e = .returned (.bool (chnOk r l)) ∧ Below w.heap.size w w' :=
  chain_chn hl (fun W b r m hm => (h.below b).hobjC (by have := hp.le; omega) r m hm) (fun W b i o ho => (h.below b).prI ho)
theorem RSt.chnOut (h : RSt w1 s w) (hp : RP s.oi N) {p : Int} (h0 : 0 ≤ p) (hl : (s.oi.length : Int) < p) (r : Int) :
    Calls Tryd.prog 15 #[.pointer (some ⟨s.H, 0, none⟩), .int .i64 r, .int .i64 p] w fun e w' => e = .returned (.bool false) ∧ Below w.heap.size w w' :=
  chain_out (by omega) (fun W b => by
    have h1 := (h.below b).hobj (by have := hp.le; omega) p
    rw [objB_out (.inr (by rw [h.nb]; exact hl))] at h1
    exact h1)
end
end Go.Proofs.YtmimnaaofpkndaaDoor.Hp

/- HeapRuns: what a call of play leaves; the state ahead of its kinds. -/
set_option linter.unusedVariables false
set_option linter.unusedSimpArgs false
namespace Go.Proofs.YtmimnaaofpkndaaDoor.Hp
open Go.RowKit Go.Proofs.YtmimnaaofpkndaaDoor Go.Shelf Go.Sort
def PlayP (w1 : World) (s : RS) (N : Nat) (w' : World) : Prop := ∃ s', RSt w1 s' w' ∧ s'.od = s'.oi ∧ RP s'.oi (N + 1) ∧ s'.H = s.H ∧ s'.Q = s.Q ∧ s'.ks = []
theorem RP.set {os : List PO} {N i : Nat} {o o' : PO} (h : RP os N) (hi : os[i]? = some o) (hO : o'.Ok) (hA : o'.A.length ≤ o.A.length + 1) (hpr : o'.pr = o.pr) : RP (os.set i o') (N + 1) := by
  refine ⟨fun x hx => ?_, fun x hx => ?_, h.ends.same hi hpr, by rw [List.length_set]; exact h.le⟩
  · rcases List.mem_or_eq_of_mem_set hx with e | e
    · exact h.ok x e
    · rw [e]; exact hO
  · rcases List.mem_or_eq_of_mem_set hx with e | e
    · exact Nat.le_succ_of_le (h.len x e)
    · rw [e]
      have := h.len o (List.mem_of_getElem? hi)
      omega
theorem RP.mono {os : List PO} {N : Nat} (h : RP os N) : RP os (N + 1) := ⟨h.ok, fun o ho => Nat.le_succ_of_le (h.len o ho), h.ends, h.le⟩
theorem def1_pr (o : PO) (k v : K3) (f : Int) : (o.def1 k v f).2.pr = o.pr := by
  unfold PO.def1
  repeat' split
  all_goals rfl
theorem del1_pr (o : PO) (k : K3) : (o.del1 k).2.pr = o.pr := by
  unfold PO.del1
  repeat' split
  all_goals rfl
theorem putO_two (os : List PO) (o : PO) (l : List Nat) (k v : K3) : (putO os o l k v).2 = o ∨ ∃ f, (putO os o l k v).2 = (o.def1 k v f).2 ∧ (f = 7 ∨ f = (o.own k).2.1) := by
  unfold putO
  split
  · split
    · exact .inl rfl
    · exact .inr ⟨_, rfl, .inr rfl⟩
  · split
    · exact .inl rfl
    · exact .inr ⟨_, rfl, .inl rfl⟩
theorem RP.put {os : List PO} {N i : Nat} {o : PO} (h : RP os N) (hi : os[i]? = some o) {l : List Nat} {k v : K3} (hk : KS k) (hv : v.2.1 ≤ 40) : RP (os.set i (putO os o l k v).2) (N + 1) := by
  have hO := h.ok o (List.mem_of_getElem? hi)
  rcases putO_two os o l k v with e | ⟨f, e, hf⟩
  · rw [e, set_same hi]; exact h.mono
  · rw [e]
    have hf2 : 0 ≤ f ∧ f < 16 := by
      rcases hf with rfl | rfl
      · decide
      · exact own_flags hO k
    exact h.set hi (hO.def1 hk hf2.1 hf2.2 hv) (def1_len o k v f) (def1_pr o k v f)
theorem RP.def_ {os : List PO} {N i : Nat} {o : PO} (h : RP os N) (hi : os[i]? = some o) {k v : K3} {f : Int} (hk : KS k) (hv : v.2.1 ≤ 40) (h0 : 0 ≤ f) (h1 : f < 16) : RP (os.set i (o.def1 k v f).2) (N + 1) :=
  h.set hi ((h.ok o (List.mem_of_getElem? hi)).def1 hk h0 h1 hv) (def1_len o k v f) (def1_pr o k v f)
theorem RP.del {os : List PO} {N i : Nat} {o : PO} (h : RP os N) (hi : os[i]? = some o) {k : K3} (hk : KS k) : RP (os.set i (o.del1 k).2) (N + 1) :=
  h.set hi ((h.ok o (List.mem_of_getElem? hi)).del1 hk) (Nat.le_succ_of_le (del1_len o k)) (del1_pr o k)
theorem RP.frz {os : List PO} {N i : Nat} {o : PO} (h : RP os N) (hi : os[i]? = some o) : RP (os.set i o.freeze) (N + 1) :=
  h.set hi (h.ok o (List.mem_of_getElem? hi)).freeze (by show (o.A.map frzE).length ≤ _; rw [List.length_map]; omega) rfl
theorem k3set {W : World} {g : Nat} {T : TypeId} {a b c : Value} (h : Blk W g T #[a, b, c]) (x y z : Value) : Blk (((W.setCell ⟨g, 0, none⟩ x).setCell ⟨g, 1, none⟩ y).setCell ⟨g, 2, none⟩ z) g T #[x, y, z] := ((h.set_ 0 _).set_ 1 _).set_ 2 _
theorem k3far {W : World} {g q : Nat} {T : TypeId} {cs : Array Value} (h : Blk W q T cs) (hne : q ≠ g) (x y z : Value) : Blk (((W.setCell ⟨g, 0, none⟩ x).setCell ⟨g, 1, none⟩ y).setCell ⟨g, 2, none⟩ z) q T cs := ((h.far (p := ⟨g, 0, none⟩) hne _).far (p := ⟨g, 1, none⟩) hne _).far (p := ⟨g, 2, none⟩) hne _
theorem b3set {B : Nat} {w W : World} {g : Nat} (h : Below B w W) (hB : B ≤ g) (x y z : Value) : Below B w (((W.setCell ⟨g, 0, none⟩ x).setCell ⟨g, 1, none⟩ y).setCell ⟨g, 2, none⟩ z) := ((h.setCell (p := ⟨g, 0, none⟩) hB _).setCell (p := ⟨g, 1, none⟩) hB _).setCell (p := ⟨g, 2, none⟩) hB _
theorem k3c {W : World} {g : Nat} {T : TypeId} {a b c : Value} (h : Blk W g T #[a, b, c]) : W.cell? ⟨g, 0, none⟩ = some a ∧ W.cell? ⟨g, 1, none⟩ = some b ∧ W.cell? ⟨g, 2, none⟩ = some c ∧ W.frozen? ⟨g, 0, none⟩ = false ∧ W.frozen? ⟨g, 1, none⟩ = false ∧ W.frozen? ⟨g, 2, none⟩ = false ∧ g < W.heap.size :=
  ⟨by rw [h.cell]; rfl, by rw [h.cell]; rfl, by rw [h.cell]; rfl, h.frozen 0, h.frozen 1, h.frozen 2, h.lt⟩
/-- Ahead of the kinds: the call's box, the key's and the value's lie beside the heaps. -/
structure PF (w1 : World) (s : RS) (N : Nat) (H Q g h p : Nat) (k : K3) (vv : Nat) (kd rr ky vl fl : Int) (w w' : World) (s0 : RS) : Prop where
  st : RSt w1 s0 w'
  oi : s0.oi = s.oi
  od : s0.od = s.oi
  ks : s0.ks = [(g, 34, #[.int .i64 k.1, .int .i64 k.2.1, .string k.2.2]), (h, 34, #[.int .i64 3, .int .i64 (vv : Int), .string ⟨#[]⟩]), (p, 80, #[.int .i64 kd, .int .i64 rr, .int .i64 ky, .int .i64 vl, .int .i64 fl])]
  hH : s0.H = H
  hQ : s0.Q = Q
  sH : s.H = H
  sQ : s.Q = Q
  kk : KS k
  rp : RP s.oi N
  nN : N ≤ 4000
  lg : LG w1
  pg : PG w1
  v9 : vv ≤ 31
section
variable {w1 w w' W : World} {s s0 s2 : RS} {N H Q g h p vv : Nat} {k : K3} {kd rr ky vl fl : Int}
theorem PF.boxes (hf : PF w1 s N H Q g h p k vv kd rr ky vl fl w w' s0) (h2 : RSt w1 s2 W) (hk : s2.ks = s0.ks) : Blk W g 34 #[.int .i64 k.1, .int .i64 k.2.1, .string k.2.2] ∧ Blk W h 34 #[.int .i64 3, .int .i64 (vv : Int), .string ⟨#[]⟩] ∧ Blk W p 80 #[.int .i64 kd, .int .i64 rr, .int .i64 ky, .int .i64 vl, .int .i64 fl] :=
  ⟨h2.box (j := 0) (by rw [hk, hf.ks]; rfl), h2.box (j := 1) (by rw [hk, hf.ks]; rfl), h2.box (j := 2) (by rw [hk, hf.ks]; rfl)⟩
theorem PF.fin (hf : PF w1 s N H Q g h p k vv kd rr ky vl fl w w' s0) (h2 : RSt w1 s2 W) (hd : s2.od = s2.oi) (hr : RP s2.oi (N + 1)) (hH : s2.H = s0.H) (hQ : s2.Q = s0.Q) : PlayP w1 s N W :=
  ⟨{ s2 with ks := [] }, h2.drop, hd, hr, by rw [hf.sH, ← hf.hH]; exact hH, by rw [hf.sQ, ← hf.hQ]; exact hQ, rfl⟩
end
end Go.Proofs.YtmimnaaofpkndaaDoor.Hp
