/- HqV: several texts in one. -/
import Derived.Test.YtmimnaaofpkndaaDoorHqJ
import Derived.Test.YtmimnaaofpkndaaDoorHqL
import Derived.Test.YtmimnaaofpkndaaDoorHqF
import Derived.Test.YtmimnaaofpkndaaDoorHqG
import Derived.Test.YtmimnaaofpkndaaDoorHpO
import Derived.Deep.Grids
/- The heap: objects with tables as bodies of a collection, and what Collect does to them. -/
set_option linter.unusedVariables false
set_option linter.unusedSimpArgs false
namespace Go.Proofs.YtmimnaaofpkndaaDoor.Hp
open Go.RowKit Go.Proofs.YtmimnaaofpkndaaDoor Go.Shelf Go.Sort

/-- What a state must be for a collection. -/
structure WOk (st : BS) : Prop where
  nd : ∀ (i j : Nat) (x y : OI), st.obs[i]? = some x → st.obs[j]? = some y → x.b = y.b → i = j
  tb : ∀ x ∈ st.obs, x.tb = none ∨ x.tb = some st.Ts
  wk : ∀ x ∈ st.obs, x.wk = none ∨ x.wk = some st.Tw
  tl : ∀ e ∈ st.tl, RfEnt e
  wl : ∀ e ∈ st.wl, ObEnt e ∧ e.grave = false ∧ e.key.2.2.size ≤ 4000
  tn : st.tl.length ≤ 4000
  wn : st.wl.length ≤ 4000
  fl : ∀ x ∈ st.obs, x.fl.length ≤ 1000000
def bX (st : BS) : Bods where
  S := bS st
  to_ := fun N => if st.obs.any (fun x => x.b == N.2 && x.tb.isSome) then st.tl.flatMap refsOf else []
  tab := fun N => if st.obs.any (fun x => x.b == N.2 && x.wk.isSome) then st.wl.map pairOf else []
def bB (st : BS) (N : Nat × Nat) : Prop := N.1 = tObj ∧ ∃ (i : Nat) (x : OI), st.obs[i]? = some x ∧ N.2 = x.b
theorem WOk.any {st : BS} (h : WOk st) {i : Nat} {x : OI} (hx : st.obs[i]? = some x) (f : OI → Bool) : st.obs.any (fun y => y.b == x.b && f y) = f x := by
  cases hf : f x with
  | true => exact List.any_eq_true.2 ⟨x, List.mem_of_getElem? hx, by simp [hf]⟩
  | false =>
    rw [List.any_eq_false]
    intro y hy
    obtain ⟨j, hj⟩ := List.getElem?_of_mem hy
    by_cases e : y.b = x.b
    · obtain rfl := h.nd _ _ _ _ hj hx e
      rw [hx] at hj
      cases hj
      simp [hf]
    · simp [e]
theorem WOk.to_ {st : BS} (h : WOk st) {i : Nat} {x : OI} (hx : st.obs[i]? = some x) (t : Nat) : (bX st).to_ (t, x.b) = if x.tb = none then [] else st.tl.flatMap refsOf := by
  show (if st.obs.any (fun y => y.b == x.b && y.tb.isSome) then _ else _) = _
  rw [h.any hx (fun y => y.tb.isSome)]
  cases x.tb <;> simp
theorem WOk.tab {st : BS} (h : WOk st) {i : Nat} {x : OI} (hx : st.obs[i]? = some x) (t : Nat) : (bX st).tab (t, x.b) = if x.wk = none then [] else st.wl.map pairOf := by
  show (if st.obs.any (fun y => y.b == x.b && y.wk.isSome) then _ else _) = _
  rw [h.any hx (fun y => y.wk.isSome)]
  cases x.wk <;> simp
theorem WOk.ok {st : BS} (h : WOk st) : BodsOk (bX st) (bB st) where
  keep := fun hS u hP => bS.keep hS u hP
  fit := fun {O W k} hS hk => bS.fit hS k hk
  typ := fun N hN => .inl hN.1
  each := fun N hN O W l hS => by
    obtain ⟨t, b⟩ := N
    obtain ⟨rfl, i, x, hx, rfl⟩ := hN
    rw [h.to_ hx]
    exact each_seq st (bX st) rfl i x hx (h.tb x (List.mem_of_getElem? hx)) h.tl h.tn O W l hS
  pairs := fun N hN ht O W l hS => by
    obtain ⟨t, b⟩ := N
    obtain ⟨rfl, i, x, hx, rfl⟩ := hN
    rw [h.tab hx]
    exact pairs_seq st (bX st) rfl i x hx (h.wk x (List.mem_of_getElem? hx)) (fun e he => (h.wl e he).1) h.wn O W l hS
/-- Objects ahead of c are cleared. -/
def setC (p : Int → Bool) (c : Nat) (obs : List OI) : List OI := obs.mapIdx fun i x => if i < c then { x with fl := clr x.cl p 0 x.fl } else x
theorem setC_get (p : Int → Bool) (c : Nat) (obs : List OI) (i : Nat) : (setC p c obs)[i]? = (obs[i]?).map (fun x => if i < c then { x with fl := clr x.cl p 0 x.fl } else x) := by
  simp [setC, List.getElem?_mapIdx]
theorem setC_len (p : Int → Bool) (c : Nat) (obs : List OI) : (setC p c obs).length = obs.length := by simp [setC]
def stg (p : Int → Bool) (iw c d : Nat) (st : BS) : BS := { st with obs := setC p c st.obs, wl := if iw < d then dropE p st.wl else st.wl }
theorem stg_zero (p : Int → Bool) (iw : Nat) (st : BS) : stg p iw 0 0 st = st := by
  have : setC p 0 st.obs = st.obs := List.ext_getElem? fun i => by rw [setC_get]; simp
  simp [stg, this]
theorem clr_nil (cl : Int) (p : Int → Bool) (i : Nat) : clr cl p i [] = [] := rfl
theorem bS.obj' {st : BS} {O : Nat → Prop} {W : World} (h : bS st O W) {i : Nat} {x : OI} (hx : st.obs[i]? = some x) : ∃ own, Star (bC st) (bL st) own W ∧ (∀ k, O k ↔ allOf (bL st) own k) ∧ bL st (0, i) ∧
    ∃ fv, Blk W x.b 51 (obC x fv) ∧ W.ownsRow 0 3 1 fv x.fl.length (numCells x.fl) ∧ ∀ k, own (0, i) k ↔ k = x.b ∨ fv.ownBlock = some k := by
  obtain ⟨own, hs, ho⟩ := h
  have hl : bL st (0, i) := show i < st.obs.length from (List.getElem?_eq_some_iff.1 hx).1
  obtain ⟨y, fv, h1, h2, h3, h4⟩ := hs.holds (0, i) hl
  rw [hx] at h1
  cases h1
  exact ⟨own, hs, ho, hl, fv, h2, h3, h4⟩
theorem allOf_set {L : Nat × Nat → Prop} {own : Nat × Nat → Nat → Prop} {t : Nat × Nat} {O1 : Nat → Prop} {O : Nat → Prop} {n : Nat} (ho : ∀ k, O k ↔ allOf L own k) (ht : L t) (h1 : ∀ k, O1 k → own t k ∨ n ≤ k) : ∀ k, allOf L (setOwn own t O1) k → O k ∨ n ≤ k := by
  rintro k ⟨j, hj, hk⟩
  by_cases e : j = t
  · subst e
    rw [setOwn_same] at hk
    exact (h1 k hk).imp (fun q => (ho k).2 ⟨j, hj, q⟩) id
  · rw [setOwn_ne own O1 e] at hk
    exact .inl ((ho k).2 ⟨j, hj, hk⟩)
/-- What the second loop of Collect does to objects. -/
theorem WOk.col {st : BS} (h : WOk st) {csM : List Cell} {A iw : Nat} (hcs : ∀ i N m, csM.getD i (none, false) = (some N, m) → ∃ x, st.obs[i]? = some x ∧ N = (tObj, x.b)) (hlen : csM.length = st.obs.length)
    (hun : ∀ i x, st.obs[i]? = some x → (csM.getD i (none, false)).2 = false → x.fl = []) (hsm : ∀ i x, st.obs[i]? = some x → ∃ N m, csM.getD i (none, false) = (some N, m)) (hiw : ∀ i x, st.obs[i]? = some x → (x.wk ≠ none ↔ i = iw)) (hiM : (csM.getD iw (none, false)).2 = true) :
    ColOk (fun j => bS (stg (deadP csM) iw j j st)) (fun j => bS (stg (deadP csM) iw j (j + 1) st)) (bB st) csM A where
  keepT := fun hS u hP => bS.keep hS u hP
  keepU := fun hS u hP => bS.keep hS u hP
  ltT := fun hS hk => (bS.fit hS).lt hk
  ltU := fun hS hk => (bS.fit hS).lt hk
  skip := fun {j O W} hS hj => by
    have e : stg (deadP csM) iw (j + 1) (j + 1) st = stg (deadP csM) iw j j st := by
      have e1 : setC (deadP csM) (j + 1) st.obs = setC (deadP csM) j st.obs := List.ext_getElem? fun i => by
        rw [setC_get, setC_get]
        cases hx : st.obs[i]? with
        | none => rfl
        | some x =>
          simp only [Option.map_some]
          by_cases ij : i = j
          · subst ij
            have hm : (csM.getD i (none, false)).2 = false := by
              cases hm : (csM.getD i (none, false)).2 with
              | false => rfl
              | true =>
                exfalso
                obtain ⟨N, m, e⟩ := hsm i x hx
                rw [e] at hm
                obtain rfl : m = true := hm
                obtain ⟨y, _, rfl⟩ := hcs i N true e
                exact hj _ e rfl
            have := hun i x hx hm
            simp [this, clr_nil]
            cases x
            dsimp only at this
            subst this
            rfl
          · simp only [show (i < j + 1) = (i < j) from propext ⟨fun h => by omega, fun h => by omega⟩]
      have e2 : iw ≠ j := by
        rintro rfl
        by_cases hl : iw < st.obs.length
        · obtain ⟨N, m, e⟩ := hsm iw _ (List.getElem?_eq_getElem hl)
          rw [e] at hiM
          obtain rfl : m = true := hiM
          obtain ⟨y, _, rfl⟩ := hcs iw N true e
          exact hj _ e rfl
        · rw [List.getD_eq_getElem?_getD, List.getElem?_eq_none (by omega)] at hiM
          cases hiM
      simp only [stg, e1, show (iw < j + 1) = (iw < j) from propext ⟨fun h => by omega, fun h => by omega⟩]
    show bS (stg (deadP csM) iw (j + 1) (j + 1) st) O W
    rw [e]
    exact hS
  drop := fun {j N O W} hj ht hS hD => by
    obtain ⟨x, hx, rfl⟩ := hcs j N true hj
    have hx' : (stg (deadP csM) iw j j st).obs[j]? = some x := by
      show (setC (deadP csM) j st.obs)[j]? = _
      rw [setC_get, hx]; simp
    obtain ⟨own, hs, ho, hl, fv, hb, hr, hown⟩ := bS.obj' hS hx'
    by_cases hw : x.wk = none
    · have e2 : iw ≠ j := fun e => ((hiw j x hx).2 e.symm) hw
      have e : stg (deadP csM) iw j (j + 1) st = stg (deadP csM) iw j j st := by
        simp only [stg, show (iw < j + 1) = (iw < j) from propext ⟨fun h => by omega, fun h => by omega⟩]
      have hb' := hb
      rw [obC, hw] at hb'
      refine (drop_nil_dead x.b x.T x.cl _ fv A W hb').mono ?_
      rintro en W' ⟨hv, hbl⟩
      have u : Upd W W' (fun _ => False) := Upd.of_below_all hbl
      exact ⟨hv, u.mono (fun _ _ q => q.elim), O, by rw [e]; exact bS.keep hS u (fun _ _ q => q), fun k hk => .inl hk⟩
    · have hiwj := (hiw j x hx).1 hw
      subst hiwj
      have hw2 := (h.wk x (List.mem_of_getElem? hx)).resolve_left hw
      have hlw : bL (stg (deadP csM) j j j st) (2, 0) := rfl
      have ewl : (stg (deadP csM) j j j st).wl = st.wl := by simp [stg]
      have hT : TabA W st.Tw st.wl [] (own (2, 0)) := by
        have := (hs.holds (2, 0) hlw).1
        rwa [ewl] at this
      have hb' := hb
      rw [obC, hw2] at hb'
      refine (drop_dead (deadP csM) x.b x.T st.Tw x.cl _ fv A st.wl (own (2, 0)) W hb' hT (fun e => hs.sep (0, j) (2, 0) hl hlw (by simp) x.b ((hown _).2 (.inl rfl)) e) h.wl h.wn (fun W1 k u => (hD W1 k (u.mono fun k _ q => (ho k).2 ⟨(2, 0), hlw, q⟩)).mono ?_)).mono ?_
      · rintro e W2 ⟨rfl, rfl⟩
        exact ⟨rfl, Below.refl _ _⟩
      rintro en W' ⟨hv, O1, hT1, hn1, u⟩
      obtain ⟨O2, hT2, hf2, hs2⟩ := tab_fit hT1
      have ewl2 : (stg (deadP csM) j j (j + 1) st).wl = dropE (deadP csM) st.wl := by simp [stg]
      have hst := hs.turn (C' := bC (stg (deadP csM) j j (j + 1) st)) (O' := O2) (bStab _) hlw u (fun k hk => .inl hk) (fun i hi hne O W c => ?a) ?b (fun k hk => hn1 k (hs2 k hk)) (fun k hk => hf2.lt hk)
      case a =>
        obtain ⟨a, b⟩ := i
        match a, hi, hne, c with
        | 0, _, _, c => exact c
        | 1, _, _, c => exact c
        | 2, hi, hne, _ =>
          obtain rfl : b = 0 := hi
          exact absurd rfl hne
        | 3, _, _, c => exact c
        | _ + 4, hi, _, _ => exact hi.elim
      case b =>
        show TabA W' st.Tw _ [] O2 ∧ Fit O2 W'
        rw [ewl2]
        exact ⟨hT2, hf2⟩
      exact ⟨hv, u.mono (fun k _ q => (ho k).2 ⟨(2, 0), hlw, q⟩), _, ⟨_, hst, fun k => Iff.rfl⟩, allOf_set ho hlw (fun k hk => hn1 k (hs2 k hk))⟩
  clear := fun {j N O W} hj ht hS hD => by
    obtain ⟨x, hx, rfl⟩ := hcs j N true hj
    have hx' : (stg (deadP csM) iw j (j + 1) st).obs[j]? = some x := by
      show (setC (deadP csM) j st.obs)[j]? = _
      rw [setC_get, hx]; simp
    obtain ⟨own, hs, ho, hl, fv, hb, hr, hown⟩ := bS.obj' hS hx'
    refine (clear_obj (deadP csM) x.b A 0 x.T x.cl _ _ fv x.fl W hb hr (h.fl x (List.mem_of_getElem? hx)) (fun W1 k u => hD W1 k (u.mono fun k _ q => (ho k).2 ⟨(0, j), hl, (hown k).2 (.inr q)⟩))).mono ?_
    rintro en W' ⟨hv, hr', u⟩
    have hx2 : (stg (deadP csM) iw (j + 1) (j + 1) st).obs[j]? = some { x with fl := clr x.cl (deadP csM) 0 x.fl } := by
      show (setC (deadP csM) (j + 1) st.obs)[j]? = _
      rw [setC_get, hx]; simp
    have hne : ¬ fv.ownBlock = some x.b := own_blk_ne hr hb (by decide)
    have hb2 := u.blk hb hne
    have hst := hs.turn (C' := bC (stg (deadP csM) iw (j + 1) (j + 1) st)) (O' := own (0, j)) (bStab _) hl u (fun k hk => .inl ((hown k).2 (.inr hk))) (fun i hi hne O W c => ?a) ?b (fun k hk => .inl hk) (fun k hk => Nat.lt_of_lt_of_le (hs.lt _ hl k hk) u.size)
    case a =>
      obtain ⟨a, b⟩ := i
      have hget : ∀ b, b ≠ j → (stg (deadP csM) iw (j + 1) (j + 1) st).obs[b]? = (stg (deadP csM) iw j (j + 1) st).obs[b]? := fun b hb => by
        show (setC (deadP csM) (j + 1) st.obs)[b]? = (setC (deadP csM) j st.obs)[b]?
        rw [setC_get, setC_get]
        simp only [show (b < j + 1) = (b < j) from propext ⟨fun h => by omega, fun h => by omega⟩]
      match a, hi, hne, c with
      | 0, hi, hne, c =>
        have hbj : b ≠ j := fun e => hne (by rw [e])
        obtain ⟨y, fv, h1, h2⟩ := c
        exact ⟨y, fv, by rw [← h1]; exact hget b hbj, h2⟩
      | 1, hi, hne, c =>
        obtain ⟨y, h1, h2⟩ := c
        dsimp only at h1
        by_cases hbj : b = j
        · subst hbj
          rw [hx'] at h1
          cases h1
          exact ⟨_, hx2, h2⟩
        · exact ⟨y, by rw [← h1]; exact hget b hbj, h2⟩
      | 2, _, _, c => exact c
      | 3, _, _, c => exact c
      | _ + 4, hi, _, _ => exact hi.elim
    case b =>
      refine ⟨{ x with fl := clr x.cl (deadP csM) 0 x.fl }, fv, hx2, hb2, ?_, hown⟩
      show W'.ownsRow 0 3 1 fv (clr x.cl (deadP csM) 0 x.fl).length _
      rw [clr_len]
      exact hr'
    have hL : ∀ i, bL (stg (deadP csM) iw (j + 1) (j + 1) st) i → bL (stg (deadP csM) iw j (j + 1) st) i := fun i hi => by
      obtain ⟨a, b⟩ := i
      have e1 : (stg (deadP csM) iw (j + 1) (j + 1) st).obs.length = (stg (deadP csM) iw j (j + 1) st).obs.length := by
        show (setC (deadP csM) (j + 1) st.obs).length = (setC (deadP csM) j st.obs).length
        rw [setC_len, setC_len]
      match a, hi with
      | 0, hi => exact Nat.lt_of_lt_of_le hi (Nat.le_of_eq e1)
      | 1, hi => exact Nat.lt_of_lt_of_le hi (Nat.le_of_eq e1)
      | 2, hi => exact hi
      | 3, hi => exact hi
      | _ + 4, hi => exact hi.elim
    exact ⟨hv, u.mono (fun k _ q => (ho k).2 ⟨(0, j), hl, (hown k).2 (.inr q)⟩), _, ⟨_, hst.sub hL, fun k => Iff.rfl⟩, fun k hk => allOf_set ho hl (fun k hk => .inl hk) k (by obtain ⟨i, hi, hk⟩ := hk; exact ⟨i, hL i hi, hk⟩)⟩
  gone := fun N hN ht O W hS => by
    obtain ⟨t, b⟩ := N
    obtain ⟨rfl, i, x, hx, rfl⟩ := hN
    have hx2 : (stg (deadP csM) iw csM.length csM.length st).obs[i]? = some (if i < csM.length then { x with fl := clr x.cl (deadP csM) 0 x.fl } else x) := by
      show (setC (deadP csM) csM.length st.obs)[i]? = _
      rw [setC_get, hx]; rfl
    obtain ⟨fv, hb⟩ := bS.obj hS hx2
    have hil : i < csM.length := by rw [hlen]; exact (List.getElem?_eq_some_iff.1 hx).1
    rw [if_pos hil] at hb
    exact gone_obj _ _ _ _ _ _ _ _ _ _ W hb
end Go.Proofs.YtmimnaaofpkndaaDoor.Hp

/- The arena: what is marked is closed, and no more than must be. No program in sight. -/
set_option linter.unusedVariables false
set_option linter.unusedSimpArgs false
namespace Go.Proofs.YtmimnaaofpkndaaDoor.Hp
open Go.RowKit Go.Proofs.YtmimnaaofpkndaaDoor Go.Shelf

/-- r is the number of a cell with a body. -/
def Valid (cs : List Cell) (r : Int) : Prop := ∃ (i : Nat) (N : Nat × Nat), r = (i : Int) + 1 ∧ (cs.getD i (none, false)).1 = some N
theorem get_lt {cs : List Cell} {i : Nat} {N : Nat × Nat} (h : (cs.getD i (none, false)).1 = some N) : i < cs.length := by
  apply Decidable.byContradiction
  intro hi
  rw [List.getD_eq_getElem?_getD, List.getElem?_eq_none (by omega)] at h
  cases h
theorem Valid.iff {cs : List Cell} {r : Int} : deadP cs r = true ↔ ∃ (i : Nat) (N : Nat × Nat), r = (i : Int) + 1 ∧ (cs.getD i (none, false)).1 = some N ∧ (cs.getD i (none, false)).2 = false := by
  constructor
  · intro h
    obtain ⟨i, N, e, _, h1, h2⟩ := dead_ix h
    exact ⟨i, N, e, h1, h2⟩
  · rintro ⟨i, N, rfl, h1, h2⟩
    rw [deadP_at cs i (get_lt h1), h1, h2]
    rfl
theorem live_of {cs : List Cell} {i : Nat} {N : Nat × Nat} (h1 : (cs.getD i (none, false)).1 = some N) (h : deadP cs ((i : Int) + 1) = false) : (cs.getD i (none, false)).2 = true := by
  rw [deadP_at cs i (get_lt h1), h1] at h
  simpa using h
/-- What no more is dead. -/
structure Go2 (s s' : List Cell × List Int) : Prop where
  live : ∀ r, deadP s.1 r = false → deadP s'.1 r = false
  keep : ∀ i, (s.1.getD i (none, false)).2 = true → (s'.1.getD i (none, false)).2 = true
  new : ∀ i, (s'.1.getD i (none, false)).2 = true → (s.1.getD i (none, false)).2 = true ∨ ((i : Int) + 1) ∈ s'.2
  work : ∀ r ∈ s.2, r ∈ s'.2
  more : s.2.length ≤ s'.2.length
  same : s'.2.length = s.2.length → s' = s
theorem Go2.refl (s : List Cell × List Int) : Go2 s s := ⟨fun _ h => h, fun _ h => h, fun _ h => .inl h, fun _ h => h, Nat.le_refl _, fun _ => rfl⟩
theorem Go2.trans {a b c : List Cell × List Int} (h : Go2 a b) (k : Go2 b c) : Go2 a c :=
  ⟨fun r hr => k.live r (h.live r hr), fun i hi => k.keep i (h.keep i hi), fun i hi => by
    rcases k.new i hi with q | q
    · rcases h.new i q with q' | q'
      · exact .inl q'
      · exact .inr (k.work _ q')
    · exact .inr q, fun r hr => k.work r (h.work r hr), Nat.le_trans h.more k.more, fun e => by
    have := h.more; have := k.more
    rw [k.same (by omega), h.same (by omega)]⟩
theorem reachP_go (s : List Cell × List Int) (r : Int) : Go2 s (reachP s r) ∧ deadP (reachP s r).1 r = false := by
  by_cases hd : deadP s.1 r = true
  · have e : reachP s r = (s.1.set (r - 1).toNat ((s.1.getD (r - 1).toNat (none, false)).1, true), s.2 ++ [r]) := by unfold reachP; rw [if_pos hd]
    obtain ⟨j, N, rfl, hj, h1, h2⟩ := dead_ix hd
    rw [show ((j : Int) + 1 - 1).toNat = j by omega] at e
    have hg : ∀ i, ((s.1.set j ((s.1.getD j (none, false)).1, true)).getD i (none, false)) = if i = j then ((s.1.getD j (none, false)).1, true) else s.1.getD i (none, false) := by
      intro i
      simp only [List.getD_eq_getElem?_getD, List.getElem?_set]
      by_cases e2 : j = i
      · subst e2
        rw [if_pos rfl, if_pos hj, if_pos rfl]; rfl
      · rw [if_neg e2, if_neg (fun q => e2 q.symm)]
    have hlive : ∀ r', deadP s.1 r' = false → deadP (s.1.set j ((s.1.getD j (none, false)).1, true)) r' = false := by
      intro r' hr'
      apply Bool.eq_false_iff.2
      intro hc
      obtain ⟨i, N', e3, q1, q2⟩ := Valid.iff.1 hc
      rw [hg] at q1 q2
      by_cases e2 : i = j
      · rw [if_pos e2] at q2; cases q2
      · rw [if_neg e2] at q1 q2
        rw [Valid.iff.2 ⟨i, N', e3, q1, q2⟩] at hr'
        cases hr'
    rw [e]
    refine ⟨⟨hlive, fun i hi => ?_, fun i hi => ?_, fun r' hr' => List.mem_append_left _ hr', by simp, fun q => by simp at q⟩, ?_⟩
    · dsimp only; rw [hg]; split
      · rfl
      · exact hi
    · dsimp only at hi; rw [hg] at hi
      by_cases e2 : i = j
      · subst e2; exact .inr (by simp)
      · rw [if_neg e2] at hi; exact .inl hi
    · apply Bool.eq_false_iff.2
      intro hc
      obtain ⟨i, N', e3, q1, q2⟩ := Valid.iff.1 hc
      have : j = i := by omega
      subst this
      dsimp only at q2
      rw [hg, if_pos rfl] at q2; cases q2
  · have e : reachP s r = s := by unfold reachP; rw [if_neg hd]
    rw [e]
    exact ⟨Go2.refl s, by simpa using hd⟩
theorem foldl_go {α : Type} (f : List Cell × List Int → α → List Cell × List Int) (hf : ∀ s x, Go2 s (f s x)) (l : List α) (s : List Cell × List Int) : Go2 s (l.foldl f s) := by
  induction l generalizing s with
  | nil => exact Go2.refl s
  | cons x l ih => exact (hf s x).trans (ih _)
theorem reach_all (l : List Int) (s : List Cell × List Int) : ∀ r ∈ l, deadP (l.foldl reachP s).1 r = false := by
  induction l generalizing s with
  | nil => exact fun r hr => (List.not_mem_nil hr).elim
  | cons x l ih =>
    intro r hr
    rw [List.foldl_cons]
    rcases List.mem_cons.1 hr with rfl | hr
    · exact (foldl_go reachP (fun s x => (reachP_go s x).1) l _).live _ (reachP_go s r).2
    · exact ih _ r hr
theorem prF_go (s : List Cell × List Int) (p : Pr) : Go2 s (prF s p) := by
  unfold prF; split
  · exact Go2.refl s
  · exact (reachP_go s _).1
theorem foldl_same {α : Type} (f : List Cell × List Int → α → List Cell × List Int) (hf : ∀ s x, Go2 s (f s x)) (l : List α) (s : List Cell × List Int) (h : (l.foldl f s).2.length = s.2.length) : l.foldl f s = s ∧ ∀ x ∈ l, f s x = s := by
  induction l generalizing s with
  | nil => exact ⟨rfl, fun x hx => (List.not_mem_nil hx).elim⟩
  | cons x l ih =>
    rw [List.foldl_cons] at h ⊢
    have h1 := (hf s x).more
    have h2 := (foldl_go f hf l (f s x)).more
    have e := (hf s x).same (by omega)
    rw [e] at h ⊢
    obtain ⟨i1, i2⟩ := ih s h
    exact ⟨i1, fun y hy => by
      rcases List.mem_cons.1 hy with rfl | hy
      · exact e
      · exact i2 y hy⟩
/-- Where draining stands. -/
structure DInv (toF : Nat × Nat → List Int) (cs : List Cell) (wk : List Int) (pr : List (Nat × Nat)) : Prop where
  all : ∀ i N, (cs.getD i (none, false)) = (some N, true) → ((i : Int) + 1) ∈ wk ∨ N ∈ pr
  done : ∀ N ∈ pr, ∀ r ∈ toF N, deadP cs r = false
  obj : ∀ i N, (cs.getD i (none, false)).1 = some N → N.1 = tObj
theorem drainP_inv (toF : Nat × Nat → List Int) (f : Nat) (cs : List Cell) (wk : List Int) (pr : List (Nat × Nat)) (hok : WorkOk cs wk) (hf : wk.length + (cs.length - mc cs) ≤ f) (hs : Somes cs) (h : DInv toF cs wk pr) :
    DInv toF (drainP toF f cs wk pr).1 [] (drainP toF f cs wk pr).2 ∧ (∀ r, deadP cs r = false → deadP (drainP toF f cs wk pr).1 r = false) ∧ (∀ i, (cs.getD i (none, false)).2 = true → ((drainP toF f cs wk pr).1.getD i (none, false)).2 = true) := by
  induction f generalizing cs wk pr with
  | zero =>
    obtain rfl : wk = [] := List.eq_nil_of_length_eq_zero (by omega)
    exact ⟨h, fun _ h => h, fun _ h => h⟩
  | succ f ih =>
    rcases snoc_cases wk with rfl | ⟨wk2, r, rfl⟩
    · exact ⟨h, fun _ h => h, fun _ h => h⟩
    · obtain ⟨i, N, rfl, hi, hN⟩ := hok r (by simp)
      rw [drainP]
      simp only [List.getLast?_append, List.getLast?_singleton, Option.some_or, List.dropLast_concat]
      rw [show ((i : Int) + 1 - 1).toNat = i by omega, hN]
      dsimp only
      rw [if_pos (h.obj i N hN)]
      have hk : Mk (cs, wk2) ((toF N).foldl reachP (cs, wk2)) := foldl_mk _ reachP_mk _ _
      have hg : Go2 (cs, wk2) ((toF N).foldl reachP (cs, wk2)) := foldl_go _ (fun s x => (reachP_go s x).1) _ _
      have ha := reach_all (toF N) (cs, wk2)
      generalize (toF N).foldl reachP (cs, wk2) = s at *
      have hl := hk.len
      have hc := hk.cnt
      have hm := hk.mono
      have hle := mc_le s.1
      dsimp only at hl hc hm
      have hlen : (wk2 ++ [(i : Int) + 1]).length = wk2.length + 1 := by simp
      rw [hlen] at hf
      have := ih s.1 s.2 (pr ++ [N]) (hk.ok (fun r hr => hok r (List.mem_append_left _ hr))) (by omega) (hk.some hs) ⟨fun j M hj => ?_, fun M hM r hr => ?_, fun j M hj => ?_⟩
      · exact ⟨this.1, fun r hr => this.2.1 r (hg.live r hr), fun j hj => this.2.2 j (hg.keep j hj)⟩
      · rcases hg.new j (by rw [hj]) with q | q
        · have hb := hk.body j
          dsimp only at q hb
          rw [hj] at hb
          rcases h.all j M (Prod.ext hb.symm q) with q2 | q2
          · rcases List.mem_append.1 q2 with q3 | q3
            · exact .inl (hg.work _ q3)
            · have : j = i := by have := List.mem_singleton.1 q3; omega
              subst this
              rw [hN] at hb
              cases hb
              exact .inr (by simp)
          · exact .inr (List.mem_append_left _ q2)
        · exact .inl q
      · rcases List.mem_append.1 hM with q | q
        · exact hg.live r (h.done M q r hr)
        · rw [List.mem_singleton.1 q] at hr
          exact ha r hr
      · exact h.obj j M ((hk.body j).symm.trans hj)
/-- What is settled. -/
structure SInv (toF : Nat × Nat → List Int) (tab : Nat × Nat → List Pr) (cs : List Cell) : Prop where
  to_ : ∀ i N, (cs.getD i (none, false)) = (some N, true) → ∀ r ∈ toF N, deadP cs r = false
  pair : ∀ i N, (cs.getD i (none, false)) = (some N, true) → ∀ p ∈ tab N, deadP cs p.1 = false → deadP cs p.2 = false
theorem settleP_inv (toF : Nat × Nat → List Int) (tab : Nat × Nat → List Pr) (f : Nat) (cs : List Cell) (pr : List (Nat × Nat)) (hf : cs.length - mc cs < f) (hs : Somes cs) (h : DInv toF cs [] pr) :
    SInv toF tab (settleP toF tab f cs pr).1 ∧ (∀ r, deadP cs r = false → deadP (settleP toF tab f cs pr).1 r = false) := by
  induction f generalizing cs pr with
  | zero => omega
  | succ f ih =>
    have hk := pairsP_mk tab pr (cs, [])
    have hg : Go2 (cs, []) (pairsP tab pr (cs, [])) := foldl_go _ (fun s N => foldl_go prF prF_go (tab N) s) pr _
    have hsame := foldl_same (ndF tab) (fun s N => foldl_go prF prF_go (tab N) s) pr (cs, [])
    rw [show pr.foldl (ndF tab) (cs, []) = pairsP tab pr (cs, []) from rfl] at hsame
    rw [settleP]
    split
    · rename_i he
      obtain ⟨e1, e2⟩ := hsame (by rw [he])
      rw [e1]
      dsimp only
      refine ⟨⟨fun i N hi r hr => ?_, fun i N hi p hp hd => ?_⟩, fun r hr => hr⟩
      · rcases h.all i N hi with q | q
        · exact (List.not_mem_nil q).elim
        · exact h.done N q r hr
      · rcases h.all i N hi with q | q
        · exact (List.not_mem_nil q).elim
        · obtain ⟨f1, f2⟩ := foldl_same prF prF_go (tab N) (cs, []) (by rw [show (tab N).foldl prF (cs, []) = ndF tab (cs, []) N from rfl, e2 N q])
          have := f2 p hp
          unfold prF at this
          dsimp only at this
          rw [if_neg (by rw [hd]; decide)] at this
          have h2 := (reachP_go (cs, []) p.2).2
          rw [this] at h2
          exact h2
    · rename_i hne
      generalize pairsP tab pr (cs, []) = s at *
      have hl := hk.len
      have hc := hk.cnt
      dsimp only at hl hc
      have hpos : 0 < s.2.length := List.length_pos_iff.2 hne
      have hle := mc_le s.1
      have hwk : WorkOk s.1 s.2 := hk.ok (fun r hr => (List.not_mem_nil hr).elim)
      have hd := drainP_dr toF (dfu s) s.1 s.2 pr hwk (Nat.le_refl _)
      have hi := drainP_inv toF (dfu s) s.1 s.2 pr hwk (Nat.le_refl _) (hk.some hs) ⟨fun i N hiN => ?_, fun N hN r hr => hg.live r (h.done N hN r hr), fun j M hj => h.obj j M ((hk.body j).symm.trans hj)⟩
      · have := ih _ _ (by rw [hd.len]; have := hd.mono; simp only [List.length_nil] at hc; omega) (hd.some (hk.some hs)) hi.1
        exact ⟨this.1, fun r hr => this.2 r (hi.2.1 r (hg.live r hr))⟩
      · rcases hg.new i (by rw [hiN]) with q | q
        · have hb := hk.body i
          dsimp only at q hb
          rw [hiN] at hb
          rcases h.all i N (Prod.ext hb.symm q) with q2 | q2
          · exact (List.not_mem_nil q2).elim
          · exact .inr q2
        · exact .inl q
/-- Marking is closed. -/
theorem markP_closed (toF : Nat × Nat → List Int) (tab : Nat × Nat → List Pr) (cs : List Cell) (ro : List Int) (hum : ∀ c ∈ cs, c.2 = false) (hob : ∀ i N, (cs.getD i (none, false)).1 = some N → N.1 = tObj) :
    SInv toF tab (markP toF tab cs ro) ∧ (∀ r ∈ ro, deadP (markP toF tab cs ro) r = false) := by
  have hun : ∀ i, (cs.getD i (none, false)).2 = false := fun i => by
    by_cases hi : i < cs.length
    · rw [List.getD_eq_getElem?_getD, List.getElem?_eq_getElem hi]; exact hum _ (List.getElem_mem hi)
    · rw [List.getD_eq_getElem?_getD, List.getElem?_eq_none (by omega)]; rfl
  have hs0 : Somes cs := fun i hi => by rw [hun i] at hi; cases hi
  have hk : Mk (cs, []) (startP cs ro) := foldl_mk _ reachP_mk _ _
  have hg : Go2 (cs, []) (startP cs ro) := foldl_go _ (fun s x => (reachP_go s x).1) _ _
  have hr0 : ∀ r ∈ ro, deadP (startP cs ro).1 r = false := reach_all ro (cs, [])
  have hwk : WorkOk (startP cs ro).1 (startP cs ro).2 := hk.ok (fun r hr => (List.not_mem_nil hr).elim)
  have hd : Dr (startP cs ro).1 (startP cs ro).2 [] (firstP toF cs ro) := drainP_dr toF _ _ _ _ hwk (Nat.le_refl _)
  have hi := drainP_inv toF (dfu (startP cs ro)) (startP cs ro).1 (startP cs ro).2 [] hwk (Nat.le_refl _) (hk.some hs0) ⟨fun i N hiN => by
    rcases hg.new i (by rw [hiN]) with q | q
    · dsimp only at q; rw [hun i] at q; cases q
    · exact .inl q, fun N hN => (List.not_mem_nil hN).elim, fun j M hj => hob j M ((hk.body j).symm.trans hj)⟩
  have hse := settleP_inv toF tab ((firstP toF cs ro).1.length + 1) (firstP toF cs ro).1 (firstP toF cs ro).2 (by omega) (hd.some (hk.some hs0)) hi.1
  exact ⟨hse.1, fun r hr => hse.2 r (hi.2.1 r (hr0 r hr))⟩
/-! No more is marked than must be -/
structure Inn (S : Int → Prop) (cs0 : List Cell) (s : List Cell × List Int) : Prop where
  body : ∀ i, (s.1.getD i (none, false)).1 = (cs0.getD i (none, false)).1
  mark : ∀ i, (s.1.getD i (none, false)).2 = true → S ((i : Int) + 1)
  work : ∀ r ∈ s.2, S r
theorem Inn.reach {S : Int → Prop} {cs0 : List Cell} {s : List Cell × List Int} (h : Inn S cs0 s) (r : Int) (hr : Valid cs0 r → S r) : Inn S cs0 (reachP s r) := by
  refine ⟨fun i => (reachP_body s r i).trans (h.body i), fun i hi => ?_, fun q hq => ?_⟩
  · unfold reachP at hi
    split at hi
    · rename_i hd
      obtain ⟨j, N, rfl, hj, h1, h2⟩ := dead_ix hd
      rw [show ((j : Int) + 1 - 1).toNat = j by omega] at hi
      by_cases e : j = i
      · subst e
        exact hr ⟨j, N, rfl, (h.body j).symm.trans h1⟩
      · apply h.mark i
        simp only [List.getD_eq_getElem?_getD, List.getElem?_set, if_neg e] at hi ⊢
        exact hi
    · exact h.mark i hi
  · unfold reachP at hq
    split at hq
    · rename_i hd
      rcases List.mem_append.1 hq with hq | hq
      · exact h.work q hq
      · rw [List.mem_singleton.1 hq]
        obtain ⟨j, N, e, hj, h1, h2⟩ := dead_ix hd
        exact hr ⟨j, N, e, (h.body j).symm.trans h1⟩
    · exact h.work q hq
theorem Inn.reaches {S : Int → Prop} {cs0 : List Cell} (l : List Int) {s : List Cell × List Int} (h : Inn S cs0 s) (hl : ∀ r ∈ l, Valid cs0 r → S r) : Inn S cs0 (l.foldl reachP s) := by
  induction l generalizing s with
  | nil => exact h
  | cons r l ih => exact ih (h.reach r (hl r (List.mem_cons_self ..))) (fun q hq => hl q (List.mem_cons_of_mem _ hq))
theorem Inn.pair {S : Int → Prop} {cs0 : List Cell} {s : List Cell × List Int} (h : Inn S cs0 s) (p : Pr) (hp : (Valid cs0 p.1 → S p.1) → Valid cs0 p.2 → S p.2) : Inn S cs0 (prF s p) := by
  unfold prF
  split
  · exact h
  · rename_i hd
    refine h.reach p.2 (hp ?_)
    rintro ⟨i, N, e, hb⟩
    rw [e] at hd ⊢
    exact h.mark i (live_of ((h.body i).trans hb) (by simpa using hd))
theorem Inn.pairs {S : Int → Prop} {cs0 : List Cell} (l : List Pr) {s : List Cell × List Int} (h : Inn S cs0 s) (hl : ∀ p ∈ l, (Valid cs0 p.1 → S p.1) → Valid cs0 p.2 → S p.2) : Inn S cs0 (l.foldl prF s) := by
  induction l generalizing s with
  | nil => exact h
  | cons p l ih => exact ih (h.pair p (hl p (List.mem_cons_self ..))) (fun q hq => hl q (List.mem_cons_of_mem _ hq))
def PrIn (S : Int → Prop) (cs0 : List Cell) (pr : List (Nat × Nat)) : Prop := ∀ N ∈ pr, ∃ i, (cs0.getD i (none, false)).1 = some N ∧ S ((i : Int) + 1)
section
variable {S : Int → Prop} {cs0 : List Cell} {toF : Nat × Nat → List Int} {tab : Nat × Nat → List Pr}
theorem drainP_in (hT : ∀ i N, (cs0.getD i (none, false)).1 = some N → S ((i : Int) + 1) → ∀ r ∈ toF N, Valid cs0 r → S r) (f : Nat) (cs : List Cell) (wk : List Int) (pr : List (Nat × Nat)) (h : Inn S cs0 (cs, wk)) (hp : PrIn S cs0 pr) (hok : WorkOk cs wk) :
    Inn S cs0 ((drainP toF f cs wk pr).1, []) ∧ PrIn S cs0 (drainP toF f cs wk pr).2 := by
  induction f generalizing cs wk pr with
  | zero => exact ⟨⟨h.body, h.mark, fun r hr => (List.not_mem_nil hr).elim⟩, hp⟩
  | succ f ih =>
    rcases snoc_cases wk with rfl | ⟨wk2, r, rfl⟩
    · exact ⟨h, hp⟩
    · obtain ⟨i, N, rfl, hi, hN⟩ := hok r (by simp)
      have hN0 : (cs0.getD i (none, false)).1 = some N := (h.body i).symm.trans hN
      have hS : S ((i : Int) + 1) := h.work _ (by simp)
      rw [drainP]
      simp only [List.getLast?_append, List.getLast?_singleton, Option.some_or, List.dropLast_concat]
      rw [show ((i : Int) + 1 - 1).toNat = i by omega, hN]
      dsimp only
      have hk : Mk (cs, wk2) ((toF N).foldl reachP (cs, wk2)) := foldl_mk _ reachP_mk _ _
      refine ih _ _ _ (Inn.reaches (toF N) (s := (cs, wk2)) ⟨h.body, h.mark, fun r hr => h.work r (List.mem_append_left _ hr)⟩ (hT i N hN0 hS)) (fun M hM => ?_) (hk.ok (fun r hr => hok r (List.mem_append_left _ hr)))
      rcases List.mem_append.1 hM with q | q
      · exact hp M q
      · split at q
        · rw [List.mem_singleton.1 q]; exact ⟨i, hN0, hS⟩
        · exact (List.not_mem_nil q).elim
theorem pairsP_in (hP : ∀ i N, (cs0.getD i (none, false)).1 = some N → S ((i : Int) + 1) → ∀ p ∈ tab N, (Valid cs0 p.1 → S p.1) → Valid cs0 p.2 → S p.2) (pr : List (Nat × Nat)) (s : List Cell × List Int) (h : Inn S cs0 s) (hp : PrIn S cs0 pr) : Inn S cs0 (pairsP tab pr s) := by
  unfold pairsP
  induction pr generalizing s with
  | nil => exact h
  | cons N pr ih =>
    obtain ⟨i, h1, h2⟩ := hp N (List.mem_cons_self ..)
    exact ih _ (Inn.pairs (tab N) h (hP i N h1 h2)) (fun M hM => hp M (List.mem_cons_of_mem _ hM))
theorem settleP_in (hT : ∀ i N, (cs0.getD i (none, false)).1 = some N → S ((i : Int) + 1) → ∀ r ∈ toF N, Valid cs0 r → S r) (hP : ∀ i N, (cs0.getD i (none, false)).1 = some N → S ((i : Int) + 1) → ∀ p ∈ tab N, (Valid cs0 p.1 → S p.1) → Valid cs0 p.2 → S p.2)
    (f : Nat) (cs : List Cell) (pr : List (Nat × Nat)) (h : Inn S cs0 (cs, [])) (hp : PrIn S cs0 pr) : Inn S cs0 ((settleP toF tab f cs pr).1, []) := by
  induction f generalizing cs pr with
  | zero => exact h
  | succ f ih =>
    have hk := pairsP_mk tab pr (cs, [])
    have hi := pairsP_in hP pr (cs, []) h hp
    rw [settleP]
    split
    · exact ⟨hi.body, hi.mark, fun r hr => (List.not_mem_nil hr).elim⟩
    · obtain ⟨d1, d2⟩ := drainP_in hT (dfu (pairsP tab pr (cs, []))) (pairsP tab pr (cs, [])).1 (pairsP tab pr (cs, [])).2 pr hi hp (hk.ok (fun r hr => (List.not_mem_nil hr).elim))
      exact ih _ _ d1 d2
/-- Whatever is closed holds all that is marked. -/
theorem markP_in (cs : List Cell) (ro : List Int) (hum : ∀ c ∈ cs, c.2 = false) (hR : ∀ r ∈ ro, Valid cs r → S r) (hT : ∀ i N, (cs.getD i (none, false)).1 = some N → S ((i : Int) + 1) → ∀ r ∈ toF N, Valid cs r → S r)
    (hP : ∀ i N, (cs.getD i (none, false)).1 = some N → S ((i : Int) + 1) → ∀ p ∈ tab N, (Valid cs p.1 → S p.1) → Valid cs p.2 → S p.2) : ∀ i, ((markP toF tab cs ro).getD i (none, false)).2 = true → S ((i : Int) + 1) := by
  have hun : ∀ i, (cs.getD i (none, false)).2 = false := fun i => by
    by_cases hi : i < cs.length
    · rw [List.getD_eq_getElem?_getD, List.getElem?_eq_getElem hi]; exact hum _ (List.getElem_mem hi)
    · rw [List.getD_eq_getElem?_getD, List.getElem?_eq_none (by omega)]; rfl
  have h0 : Inn S cs (startP cs ro) := Inn.reaches ro (s := (cs, [])) ⟨fun _ => rfl, fun i hi => (by dsimp only at hi; rw [hun i] at hi; cases hi), fun r hr => (List.not_mem_nil hr).elim⟩ hR
  have hk : Mk (cs, []) (startP cs ro) := foldl_mk _ reachP_mk _ _
  obtain ⟨d1, d2⟩ := drainP_in hT (dfu (startP cs ro)) (startP cs ro).1 (startP cs ro).2 [] h0 (fun N hN => (List.not_mem_nil hN).elim) (hk.ok (fun r hr => (List.not_mem_nil hr).elim))
  exact (settleP_in hT hP ((firstP toF cs ro).1.length + 1) _ _ d1 d2).mark
end
end Go.Proofs.YtmimnaaofpkndaaDoor.Hp

/- The heap: the state of HeapWeak: objects, tables, the arena, the rows of numbers; what steps do to it. -/
set_option linter.unusedVariables false
set_option linter.unusedSimpArgs false
namespace Go.Proofs.YtmimnaaofpkndaaDoor.Hp
open Go.RowKit Go.Proofs.YtmimnaaofpkndaaDoor Go.Shelf Go.Sort

structure LS where
  st : BS
  H : Nat
  A : Nat
  cs : List Cell
  fr : List Int
  ro : List Int
  live : Int
  rv : Value
  rl : List Int
  vv : Value
  vl : List Int
def hC (s : LS) (O : Nat → Prop) (W : World) : Prop := ∃ cv fv rv, Hx W s.H s.A s.A cv fv rv s.cs s.fr s.ro s.live ∧ ∀ k, O k ↔ k = s.H ∨ k = s.A ∨ cv.ownBlock = some k ∨ fv.ownBlock = some k ∨ rv.ownBlock = some k
def rC (v : Value) (l : List Int) (O : Nat → Prop) (W : World) : Prop := W.ownsRow 0 3 1 v l.length (numCells l) ∧ ∀ k, O k ↔ v.ownBlock = some k
/-- Labels: as bC's; 4: the heap and its arena; 5, 6: refs, vals. -/
def lC (s : LS) (i : Nat × Nat) (O : Nat → Prop) (W : World) : Prop :=
  match i.1 with
  | 4 => hC s O W
  | 5 => rC s.rv s.rl O W
  | 6 => rC s.vv s.vl O W
  | _ => bC s.st i O W
def lL (m t : Nat) (i : Nat × Nat) : Prop :=
  match i.1 with
  | 0 => i.2 < m
  | 1 => i.2 < m
  | 2 => i.2 = 0 ∧ 1 ≤ t
  | 3 => i.2 = 0 ∧ 2 ≤ t
  | 4 => i.2 = 0
  | 5 => i.2 = 0
  | 6 => i.2 = 0
  | _ => False
theorem rC.lt {v : Value} {l : List Int} {O : Nat → Prop} {W : World} (h : rC v l O W) (k : Nat) (hk : O k) : k < W.heap.size := (h.1.lt k ((h.2 k).1 hk)).2
theorem hC.lt {s : LS} {O : Nat → Prop} {W : World} (h : hC s O W) (k : Nat) (hk : O k) : k < W.heap.size := by
  obtain ⟨cv, fv, rv, hx, ho⟩ := h
  rcases (ho k).1 hk with rfl | rfl | e | e | e
  · exact hx.hb.lt
  · exact hx.ar.blk.lt
  · exact (hx.ar.cells.lt k e).2
  · exact (hx.ar.free.lt k e).2
  · exact (hx.ar.roots.lt k e).2
theorem lStab (s : LS) : Stab (lC s) := ⟨fun i O W W' P h u hP => by
  obtain ⟨a, b⟩ := i
  unfold lC at h ⊢
  dsimp only at h ⊢
  split at h
  · obtain ⟨cv, fv, rv, hx, ho⟩ := h
    exact ⟨cv, fv, rv, hx.upd u (hP _ ((ho _).2 (.inl rfl))) (hP _ ((ho _).2 (.inr (.inl rfl)))) (fun g e => hP _ ((ho _).2 (.inr (.inr (.inl e))))) (fun g e => hP _ ((ho _).2 (.inr (.inr (.inr (.inl e)))))) (fun g e => hP _ ((ho _).2 (.inr (.inr (.inr (.inr e)))))), ho⟩
  · exact ⟨u.own h.1 (fun k hk => hP _ ((h.2 k).2 hk)), h.2⟩
  · exact ⟨u.own h.1 (fun k hk => hP _ ((h.2 k).2 hk)), h.2⟩
  · exact (bStab s.st).keep _ _ _ _ _ h u hP⟩
theorem lC.lt {s : LS} {i : Nat × Nat} {O : Nat → Prop} {W : World} (h : lC s i O W) (k : Nat) (hk : O k) : k < W.heap.size := by
  obtain ⟨a, b⟩ := i
  unfold lC at h
  dsimp only at h
  split at h
  · exact hC.lt h k hk
  · exact rC.lt h k hk
  · exact rC.lt h k hk
  · exact (bFit h).lt hk
structure SS (w1 : World) (s : LS) (m t : Nat) (w : World) : Prop where
  st : ∃ own, Star (lC s) (lL m t) own w ∧ ∀ i, lL m t i → ∀ k, own i k → w1.heap.size ≤ k
  bel : Below w1.heap.size w1 w
section
variable {w1 w w' : World} {s s' : LS} {m t : Nat}
theorem SS.below (h : SS w1 s m t w) (b : Below w.heap.size w w') : SS w1 s m t w' := by
  obtain ⟨⟨own, hs, ho⟩, hb⟩ := h
  exact ⟨⟨own, hs.below (lStab s) b, ho⟩, hb.trans (b.mono hb.size)⟩
theorem SS.open (h : SS w1 s m t w) {i : Nat × Nat} (hi : lL m t i) : ∃ O, lC s i O w ∧ (∀ k, O k → k < w.heap.size) ∧ ∀ (w' : World) (s' : LS) (O' : Nat → Prop), Upd w w' O → lC s' i O' w' → (∀ k, O' k → O k ∨ w.heap.size ≤ k) → (∀ j, lL m t j → j ≠ i → ∀ O W, lC s j O W → lC s' j O W) → SS w1 s' m t w' := by
  obtain ⟨⟨own, hs, ho⟩, hb⟩ := h
  refine ⟨own i, hs.holds i hi, hs.lt i hi, fun w' s' O' u c hn hc => ⟨⟨setOwn own i O', hs.turn (lStab s) hi u (fun k hk => .inl hk) hc c hn (lC.lt c), fun j hj k hk => ?_⟩, hb.trans (u.below hb.size (ho i hi))⟩⟩
  by_cases e : j = i
  · subst e
    rw [setOwn_same] at hk
    rcases hn k hk with q | q
    · exact ho j hi k q
    · exact Nat.le_trans hb.size q
  · rw [setOwn_ne own O' e] at hk
    exact ho j hj k hk
/-- The heap's part. -/
theorem SS.heap (h : SS w1 s m t w) : ∃ cv fv rv, Hx w s.H s.A s.A cv fv rv s.cs s.fr s.ro s.live ∧ ∀ (w' : World) (cv' fv' rv' : Value) (cs : List Cell) (fr ro : List Int) (live : Int), Upd w w' (fun k => k = s.A ∨ cv.ownBlock = some k ∨ fv.ownBlock = some k ∨ rv.ownBlock = some k) → Hx w' s.H s.A s.A cv' fv' rv' cs fr ro live → (∀ g, cv'.ownBlock = some g → cv.ownBlock = some g ∨ w.heap.size ≤ g) → (∀ g, fv'.ownBlock = some g → fv.ownBlock = some g ∨ w.heap.size ≤ g) → (∀ g, rv'.ownBlock = some g → rv.ownBlock = some g ∨ w.heap.size ≤ g) → SS w1 { s with cs := cs, fr := fr, ro := ro, live := live } m t w' := by
  obtain ⟨O, ⟨cv, fv, rv, hx, ho⟩, _, hk⟩ := h.open (i := (4, 0)) rfl
  refine ⟨cv, fv, rv, hx, fun w' cv' fv' rv' cs fr ro live u hx' h1 h2 h3 => hk w' _ (fun k => k = s.H ∨ k = s.A ∨ cv'.ownBlock = some k ∨ fv'.ownBlock = some k ∨ rv'.ownBlock = some k) (u.mono fun k _ e => (ho k).2 (.inr e)) ⟨cv', fv', rv', hx', fun k => Iff.rfl⟩ (fun k e => ?_) (fun j hj hne O W c => ?_)⟩
  · rcases e with e | e | e | e | e
    · exact .inl ((ho k).2 (.inl e))
    · exact .inl ((ho k).2 (.inr (.inl e)))
    · exact (h1 k e).imp (fun q => (ho k).2 (.inr (.inr (.inl q)))) id
    · exact (h2 k e).imp (fun q => (ho k).2 (.inr (.inr (.inr (.inl q))))) id
    · exact (h3 k e).imp (fun q => (ho k).2 (.inr (.inr (.inr (.inr q))))) id
  · obtain ⟨a, b⟩ := j
    match a, hj, hne, c with
    | 0, _, _, c => exact c
    | 1, _, _, c => exact c
    | 2, _, _, c => exact c
    | 3, _, _, c => exact c
    | 4, hj, hne, _ =>
      obtain rfl : b = 0 := hj
      exact absurd rfl hne
    | 5, _, _, c => exact c
    | 6, _, _, c => exact c
    | _ + 7, hj, _, _ => exact hj.elim
/-- An object. -/
theorem SS.obj (h : SS w1 s m t w) {i : Nat} {x : OI} (hx : s.st.obs[i]? = some x) (hi : i < m) : ∃ fv, Blk w x.b 51 (obC x fv) ∧ w.ownsRow 0 3 1 fv x.fl.length (numCells x.fl) ∧ ∀ (w' : World) (x' : OI) (fv' : Value), x'.b = x.b → x'.T = x.T → Upd w w' (fun k => k = x.b ∨ fv.ownBlock = some k) → Blk w' x.b 51 (obC x' fv') → w'.ownsRow 0 3 1 fv' x'.fl.length (numCells x'.fl) → (∀ g, fv'.ownBlock = some g → fv.ownBlock = some g ∨ w.heap.size ≤ g) →
    SS w1 { s with st := { s.st with obs := s.st.obs.set i x' } } m t w' := by
  obtain ⟨O, ⟨y, fv, h1, h2, h3, h4⟩, _, hk⟩ := h.open (i := (0, i)) hi
  dsimp only at h1
  rw [hx] at h1
  cases h1
  have hlen : i < s.st.obs.length := (List.getElem?_eq_some_iff.1 hx).1
  refine ⟨fv, h2, h3, fun w' x' fv' e1 e2 u hb hr hg => hk w' _ (fun k => k = x.b ∨ fv'.ownBlock = some k) (u.mono fun k _ e => (h4 k).2 e) ⟨x', fv', List.getElem?_set_self hlen, by rw [e1]; exact hb, hr, fun k => by rw [e1]⟩ (fun k e => ?_) (fun j hj hne O W c => ?_)⟩
  · rcases e with e | e
    · exact .inl ((h4 k).2 (.inl e))
    · exact (hg k e).imp (fun q => (h4 k).2 (.inr q)) id
  · obtain ⟨a, b⟩ := j
    match a, hj, hne, c with
    | 0, _, hne, c =>
      obtain ⟨y, fv2, q1, q2⟩ := c
      have hbi : i ≠ b := fun e => hne (by rw [e])
      exact ⟨y, fv2, by rw [← q1]; exact List.getElem?_set_ne hbi, q2⟩
    | 1, _, _, c =>
      obtain ⟨y, q1, q2⟩ := c
      dsimp only at q1
      by_cases hbi : i = b
      · subst hbi
        rw [hx] at q1
        cases q1
        exact ⟨x', List.getElem?_set_self hlen, by rw [e2]; exact q2⟩
      · exact ⟨y, by rw [← q1]; exact List.getElem?_set_ne hbi, q2⟩
    | 2, _, _, c => exact c
    | 3, _, _, c => exact c
    | 4, _, _, c => exact c
    | 5, _, _, c => exact c
    | 6, _, _, c => exact c
    | _ + 7, hj, _, _ => exact hj.elim
/-- The weak table. -/
theorem SS.weak (h : SS w1 s m t w) (ht : 1 ≤ t) : ∃ O, TabA w s.st.Tw s.st.wl [] O ∧ ∀ (w' : World) (wl : List Ent) (O' : Nat → Prop), Upd w w' O → TabA w' s.st.Tw wl [] O' → (∀ k, O' k → O k ∨ w.heap.size ≤ k) → SS w1 { s with st := { s.st with wl := wl } } m t w' := by
  obtain ⟨O, ⟨h1, h2⟩, _, hk⟩ := h.open (i := (2, 0)) ⟨rfl, ht⟩
  refine ⟨O, h1, fun w' wl O' u hT hn => ?_⟩
  obtain ⟨O2, q1, q2, q3⟩ := tab_fit hT
  refine hk w' _ O2 u ⟨q1, q2⟩ (fun k e => hn k (q3 k e)) (fun j hj hne O W c => ?_)
  obtain ⟨a, b⟩ := j
  match a, hj, hne, c with
  | 0, _, _, c => exact c
  | 1, _, _, c => exact c
  | 2, hj, hne, _ =>
    obtain rfl : b = 0 := hj.1
    exact absurd rfl hne
  | 3, _, _, c => exact c
  | 4, _, _, c => exact c
  | 5, _, _, c => exact c
  | 6, _, _, c => exact c
  | _ + 7, hj, _, _ => exact hj.elim
theorem SS.tabl (h : SS w1 s m t w) (ht : 2 ≤ t) : ∃ O, TabA w s.st.Ts s.st.tl [] O ∧ ∀ (w' : World) (tl : List Ent) (O' : Nat → Prop), Upd w w' O → TabA w' s.st.Ts tl [] O' → (∀ k, O' k → O k ∨ w.heap.size ≤ k) → SS w1 { s with st := { s.st with tl := tl } } m t w' := by
  obtain ⟨O, ⟨h1, h2⟩, _, hk⟩ := h.open (i := (3, 0)) ⟨rfl, ht⟩
  refine ⟨O, h1, fun w' wl O' u hT hn => ?_⟩
  obtain ⟨O2, q1, q2, q3⟩ := tab_fit hT
  refine hk w' _ O2 u ⟨q1, q2⟩ (fun k e => hn k (q3 k e)) (fun j hj hne O W c => ?_)
  obtain ⟨a, b⟩ := j
  match a, hj, hne, c with
  | 0, _, _, c => exact c
  | 1, _, _, c => exact c
  | 2, _, _, c => exact c
  | 3, hj, hne, _ =>
    obtain rfl : b = 0 := hj.1
    exact absurd rfl hne
  | 4, _, _, c => exact c
  | 5, _, _, c => exact c
  | 6, _, _, c => exact c
  | _ + 7, hj, _, _ => exact hj.elim
/-- The rows. -/
theorem SS.refs (h : SS w1 s m t w) : w.ownsRow 0 3 1 s.rv s.rl.length (numCells s.rl) ∧ ∀ (w' : World) (rv : Value) (rl : List Int), Upd w w' (fun k => s.rv.ownBlock = some k) → w'.ownsRow 0 3 1 rv rl.length (numCells rl) → (∀ g, rv.ownBlock = some g → s.rv.ownBlock = some g ∨ w.heap.size ≤ g) → SS w1 { s with rv := rv, rl := rl } m t w' := by
  obtain ⟨O, ⟨h1, h2⟩, _, hk⟩ := h.open (i := (5, 0)) rfl
  refine ⟨h1, fun w' rv rl u hr hn => hk w' _ (fun k => rv.ownBlock = some k) (u.mono fun k _ e => (h2 k).2 e) ⟨hr, fun k => Iff.rfl⟩ (fun k e => (hn k e).imp (fun q => (h2 k).2 q) id) (fun j hj hne O W c => ?_)⟩
  obtain ⟨a, b⟩ := j
  match a, hj, hne, c with
  | 0, _, _, c => exact c
  | 1, _, _, c => exact c
  | 2, _, _, c => exact c
  | 3, _, _, c => exact c
  | 4, _, _, c => exact c
  | 5, hj, hne, _ =>
    obtain rfl : b = 0 := hj
    exact absurd rfl hne
  | 6, _, _, c => exact c
  | _ + 7, hj, _, _ => exact hj.elim
theorem SS.vals (h : SS w1 s m t w) : w.ownsRow 0 3 1 s.vv s.vl.length (numCells s.vl) ∧ ∀ (w' : World) (rv : Value) (rl : List Int), Upd w w' (fun k => s.vv.ownBlock = some k) → w'.ownsRow 0 3 1 rv rl.length (numCells rl) → (∀ g, rv.ownBlock = some g → s.vv.ownBlock = some g ∨ w.heap.size ≤ g) → SS w1 { s with vv := rv, vl := rl } m t w' := by
  obtain ⟨O, ⟨h1, h2⟩, _, hk⟩ := h.open (i := (6, 0)) rfl
  refine ⟨h1, fun w' rv rl u hr hn => hk w' _ (fun k => rv.ownBlock = some k) (u.mono fun k _ e => (h2 k).2 e) ⟨hr, fun k => Iff.rfl⟩ (fun k e => (hn k e).imp (fun q => (h2 k).2 q) id) (fun j hj hne O W c => ?_)⟩
  obtain ⟨a, b⟩ := j
  match a, hj, hne, c with
  | 0, _, _, c => exact c
  | 1, _, _, c => exact c
  | 2, _, _, c => exact c
  | 3, _, _, c => exact c
  | 4, _, _, c => exact c
  | 5, _, _, c => exact c
  | 6, hj, hne, _ =>
    obtain rfl : b = 0 := hj
    exact absurd rfl hne
  | _ + 7, hj, _, _ => exact hj.elim
/-- A table comes to be. -/
theorem SS.newWeak (h : SS w1 s m 0 w) {T : Nat} (b : Below w.heap.size w w') (hT : TabA w' T [] [] (fun k => k = T)) (hl : w.heap.size ≤ T) : SS w1 { s with st := { s.st with Tw := T, wl := [] } } m 1 w' := by
  obtain ⟨⟨own, hs, ho⟩, hb⟩ := h
  obtain ⟨O2, q1, q2, q3⟩ := tab_fit hT
  have h1 := hs.add (lStab s) (i := (2, 0)) (C' := lC { s with st := { s.st with Tw := T, wl := [] } }) (O' := O2) (fun e => absurd e.2 (by decide)) b (fun j hj O W c => ?_) ⟨q1, q2⟩ (fun k hk => by rw [q3 k hk]; exact hl) (fun k hk => q2.lt hk)
  · refine ⟨⟨_, h1.sub (fun j hj => ?_), fun j hj k hk => ?_⟩, hb.trans (b.mono hb.size)⟩
    · obtain ⟨a, c⟩ := j
      match a, hj with
      | 0, hj => exact .inl hj
      | 1, hj => exact .inl hj
      | 2, hj => exact .inr (by obtain rfl : c = 0 := hj.1; rfl)
      | 3, hj => exact absurd hj.2 (by decide)
      | 4, hj => exact .inl hj
      | 5, hj => exact .inl hj
      | 6, hj => exact .inl hj
      | _ + 7, hj => exact hj.elim
    · by_cases e : j = (2, 0)
      · subst e
        rw [setOwn_same] at hk
        rw [q3 k hk]
        exact Nat.le_trans hb.size hl
      · rw [setOwn_ne own O2 e] at hk
        refine ho j ?_ k hk
        obtain ⟨a, c⟩ := j
        match a, hj, e with
        | 0, hj, _ => exact hj
        | 1, hj, _ => exact hj
        | 2, hj, e => exact absurd (by obtain rfl : c = 0 := hj.1; rfl) e
        | 3, hj, _ => exact absurd hj.2 (by decide)
        | 4, hj, _ => exact hj
        | 5, hj, _ => exact hj
        | 6, hj, _ => exact hj
        | _ + 7, hj, _ => exact hj.elim
  · obtain ⟨a, b⟩ := j
    match a, hj, c with
    | 0, _, c => exact c
    | 1, _, c => exact c
    | 2, hj, _ => exact absurd hj.2 (by decide)
    | 3, _, c => exact c
    | 4, _, c => exact c
    | 5, _, c => exact c
    | 6, _, c => exact c
    | _ + 7, hj, _ => exact hj.elim
theorem SS.newTabl (h : SS w1 s m 1 w) {T : Nat} (b : Below w.heap.size w w') (hT : TabA w' T [] [] (fun k => k = T)) (hl : w.heap.size ≤ T) : SS w1 { s with st := { s.st with Ts := T, tl := [] } } m 2 w' := by
  obtain ⟨⟨own, hs, ho⟩, hb⟩ := h
  obtain ⟨O2, q1, q2, q3⟩ := tab_fit hT
  have h1 := hs.add (lStab s) (i := (3, 0)) (C' := lC { s with st := { s.st with Ts := T, tl := [] } }) (O' := O2) (fun e => absurd e.2 (by decide)) b (fun j hj O W c => ?_) ⟨q1, q2⟩ (fun k hk => by rw [q3 k hk]; exact hl) (fun k hk => q2.lt hk)
  · refine ⟨⟨_, h1.sub (fun j hj => ?_), fun j hj k hk => ?_⟩, hb.trans (b.mono hb.size)⟩
    · obtain ⟨a, c⟩ := j
      match a, hj with
      | 0, hj => exact .inl hj
      | 1, hj => exact .inl hj
      | 2, hj => exact .inl ⟨hj.1, by decide⟩
      | 3, hj => exact .inr (by obtain rfl : c = 0 := hj.1; rfl)
      | 4, hj => exact .inl hj
      | 5, hj => exact .inl hj
      | 6, hj => exact .inl hj
      | _ + 7, hj => exact hj.elim
    · by_cases e : j = (3, 0)
      · subst e
        rw [setOwn_same] at hk
        rw [q3 k hk]
        exact Nat.le_trans hb.size hl
      · rw [setOwn_ne own O2 e] at hk
        refine ho j ?_ k hk
        obtain ⟨a, c⟩ := j
        match a, hj, e with
        | 0, hj, _ => exact hj
        | 1, hj, _ => exact hj
        | 2, hj, _ => exact ⟨hj.1, by decide⟩
        | 3, hj, e => exact absurd (by obtain rfl : c = 0 := hj.1; rfl) e
        | 4, hj, _ => exact hj
        | 5, hj, _ => exact hj
        | 6, hj, _ => exact hj
        | _ + 7, hj, _ => exact hj.elim
  · obtain ⟨a, b⟩ := j
    match a, hj, c with
    | 0, _, c => exact c
    | 1, _, c => exact c
    | 2, _, c => exact c
    | 3, hj, _ => exact absurd hj.2 (by decide)
    | 4, _, c => exact c
    | 5, _, c => exact c
    | 6, _, c => exact c
    | _ + 7, hj, _ => exact hj.elim
end
end Go.Proofs.YtmimnaaofpkndaaDoor.Hp

/- The heap: HeapWeak's steps: Make, Push, Put, Collect, Drop. -/
set_option linter.unusedVariables false
set_option linter.unusedSimpArgs false
namespace Go.Proofs.YtmimnaaofpkndaaDoor.Hp
open Go.RowKit Go.Proofs.YtmimnaaofpkndaaDoor Go.Shelf Go.Sort

section
variable {w1 w w' : World} {s s' : LS} {m t : Nat}
def LS.mk1 (s : LS) (cl : Int) (b T : Nat) : LS := { s with st := { s.st with obs := s.st.obs ++ [⟨b, cl, T, none, none, []⟩] }, cs := s.cs ++ [(some (tObj, b), false)], live := s.live + 1 }
theorem SS.make (h : SS w1 s m t w) (hm : s.st.obs.length = m) (hfr : s.fr = []) (hl : 0 ≤ s.live) (hl2 : s.live < 4194304) (hc : s.cs.length ≤ 100000000) (cl : Int) :
    Calls Tryd.prog 10 #[.pointer (some ⟨s.H, 0, none⟩), .int .i64 cl, .int .i64 0] w fun e w' => ∃ b T, e = .returned (.tuple #[.int .i64 ((s.cs.length + 1 : Nat) : Int), .pointer (some ⟨b, 0, none⟩)]) ∧ SS w1 (s.mk1 cl b T) (m + 1) t w' ∧ (∀ x ∈ s.st.obs, x.b < b) := by
  obtain ⟨⟨own, hs, ho⟩, hb⟩ := h
  obtain ⟨cv, fv, rv, hx, hO⟩ := hs.holds (4, 0) rfl
  have hx0 := hx
  rw [hfr] at hx
  refine (make_any cl 0 hx hl hl2 hc (Nat.le_of_lt hx.ar.blk.lt)).mono ?_
  rintro e w' ⟨b, T, cv', rfl, hT, hTb, hblk, htab, hx', u, hcv⟩
  have hold : ∀ x ∈ s.st.obs, x.b < w.heap.size := fun x hx => by
    obtain ⟨i, hi⟩ := List.getElem?_of_mem hx
    have hil : i < m := by rw [← hm]; exact (List.getElem?_eq_some_iff.1 hi).1
    obtain ⟨y, fv, h1, h2, _⟩ := hs.holds (0, i) hil
    dsimp only at h1
    rw [hi] at h1
    cases h1
    exact h2.lt
  refine ⟨b, T, rfl, ?_, fun x hx => by have := hold x hx; omega⟩
  have hgr := hs.lt
  have u4 : Upd w w' (own (4, 0)) := u.mono fun k _ e => (hO k).2 (by
    rcases e with e | e
    · exact .inr (.inl e)
    · exact .inr (.inr (.inl e)))
  obtain ⟨O2, q1, q2, q3⟩ := tab_fit htab
  have hbl := hblk.lt
  -- the heap
  have h1 := hs.turn (C' := lC (s.mk1 cl b T)) (O' := fun k => k = s.H ∨ k = s.A ∨ cv'.ownBlock = some k ∨ fv.ownBlock = some k ∨ rv.ownBlock = some k) (lStab s) (i := (4, 0)) rfl u4 (fun k hk => .inl hk) (fun j hj hne O W c => ?_) ⟨cv', fv, rv, (by show Hx w' s.H s.A s.A cv' fv rv (s.cs ++ [(some (tObj, b), false)]) s.fr s.ro (s.live + 1); rw [hfr]; exact hx'), fun k => Iff.rfl⟩ (fun k e => ?_) (fun k e => ?_)
  rotate_left
  · obtain ⟨a, c'⟩ := j
    match a, hj, hne, c with
    | 0, hj, _, c =>
      obtain ⟨y, fv2, q1, q2⟩ := c
      have hj' : c' < s.st.obs.length := by rw [hm]; exact hj
      exact ⟨y, fv2, by rw [← q1]; exact List.getElem?_append_left hj', q2⟩
    | 1, hj, _, c =>
      obtain ⟨y, q1, q2⟩ := c
      have hj' : c' < s.st.obs.length := by rw [hm]; exact hj
      exact ⟨y, by rw [← q1]; exact List.getElem?_append_left hj', q2⟩
    | 2, _, _, c => exact c
    | 3, _, _, c => exact c
    | 4, hj, hne, _ =>
      obtain rfl : c' = 0 := hj
      exact absurd rfl hne
    | 5, _, _, c => exact c
    | 6, _, _, c => exact c
    | _ + 7, hj, _, _ => exact hj.elim
  · rcases e with e | e | e | e | e
    · exact .inl ((hO k).2 (.inl e))
    · exact .inl ((hO k).2 (.inr (.inl e)))
    · rcases hcv k e with q | q
      · exact .inl ((hO k).2 (.inr (.inr (.inl q))))
      · exact .inr (by omega)
    · exact .inl ((hO k).2 (.inr (.inr (.inr (.inl e)))))
    · exact .inl ((hO k).2 (.inr (.inr (.inr (.inr e)))))
  · rcases e with rfl | rfl | e | e | e
    · exact hx'.hb.lt
    · exact hx'.ar.blk.lt
    · exact (hx'.ar.cells.lt k e).2
    · exact (hx'.ar.free.lt k e).2
    · exact (hx'.ar.roots.lt k e).2
  -- whatever is owned is below T, or above b
  have far : ∀ j, lL m t j → ∀ k, setOwn own (4, 0) (fun k => k = s.H ∨ k = s.A ∨ cv'.ownBlock = some k ∨ fv.ownBlock = some k ∨ rv.ownBlock = some k) j k → k < T ∨ b < k := fun j hj k hk => by
    by_cases e : j = (4, 0)
    · subst e
      rw [setOwn_same] at hk
      have h4 : ∀ k, own (4, 0) k → k < T := fun k hk => by have := hgr (4, 0) rfl k hk; omega
      rcases hk with e | e | e | e | e
      · exact .inl (h4 k ((hO k).2 (.inl e)))
      · exact .inl (h4 k ((hO k).2 (.inr (.inl e))))
      · rcases hcv k e with q | q
        · exact .inl (h4 k ((hO k).2 (.inr (.inr (.inl q)))))
        · exact .inr q
      · exact .inl (h4 k ((hO k).2 (.inr (.inr (.inr (.inl e))))))
      · exact .inl (h4 k ((hO k).2 (.inr (.inr (.inr (.inr e))))))
    · rw [setOwn_ne own _ e] at hk
      have := hgr j hj k hk
      exact .inl (by omega)
  have hlen : (s.mk1 cl b T).st.obs[m]? = some ⟨b, cl, T, none, none, []⟩ := by
    show (s.st.obs ++ [_])[m]? = _
    rw [← hm, List.getElem?_append_right (Nat.le_refl _), Nat.sub_self]; rfl
  have n0 : ∀ j, lL m t j → j ≠ (0, m) := fun j hj e => by subst e; exact Nat.lt_irrefl _ hj
  have n1 : ∀ j, lL m t j → j ≠ (1, m) := fun j hj e => by subst e; exact Nat.lt_irrefl _ hj
  have h2 := (h1.sub (L' := fun j => lL m t j ∧ j ≠ (0, m)) (fun j hj => hj.1)).put (L := lL m t) (i := (0, m)) (O' := fun k => k = b) ⟨⟨b, cl, T, none, none, []⟩, nilS, hlen, hblk, World.ownsRow_nil _ _ _ _, fun k => ⟨fun e => .inl e, fun e => e.elim id (fun q => by simp [Value.ownBlock] at q)⟩⟩ (fun j hj _ k hk e => by have := far j hj k hk; omega) (fun k e => by rw [e]; exact hbl)
  have h3 := (h2.sub (L' := fun j => (lL m t j ∨ j = (0, m)) ∧ j ≠ (1, m)) (fun j hj => hj.1)).put (L := fun j => lL m t j ∨ j = (0, m)) (i := (1, m)) (O' := O2) ⟨⟨b, cl, T, none, none, []⟩, hlen, q1, q2⟩ (fun j hj _ k hk e => ?_) (fun k e => q2.lt e)
  rotate_left
  · have eT := q3 k e
    by_cases e2 : j = (0, m)
    · subst e2
      rw [setOwn_same] at hk
      omega
    · rw [setOwn_ne _ _ e2] at hk
      have := far j (hj.resolve_right e2) k hk
      omega
  refine ⟨⟨_, h3.sub (fun j hj => ?_), fun j hj k hk => ?_⟩, hb.trans (u4.below hb.size (ho (4, 0) rfl))⟩
  · obtain ⟨a, c'⟩ := j
    match a, hj with
    | 0, hj =>
      by_cases e : c' = m
      · exact .inl (.inr (by rw [e]))
      · exact .inl (.inl (show c' < m by have : c' < m + 1 := hj; omega))
    | 1, hj =>
      by_cases e : c' = m
      · exact .inr (by rw [e])
      · exact .inl (.inl (show c' < m by have : c' < m + 1 := hj; omega))
    | 2, hj => exact .inl (.inl hj)
    | 3, hj => exact .inl (.inl hj)
    | 4, hj => exact .inl (.inl hj)
    | 5, hj => exact .inl (.inl hj)
    | 6, hj => exact .inl (.inl hj)
    | _ + 7, hj => exact hj.elim
  · have hbs := hb.size
    have hLj : j = (0, m) ∨ j = (1, m) ∨ lL m t j := by
      obtain ⟨a, c'⟩ := j
      match a, hj with
      | 0, hj =>
        by_cases e : c' = m
        · exact .inl (by rw [e])
        · exact .inr (.inr (show c' < m by have : c' < m + 1 := hj; omega))
      | 1, hj =>
        by_cases e : c' = m
        · exact .inr (.inl (by rw [e]))
        · exact .inr (.inr (show c' < m by have : c' < m + 1 := hj; omega))
      | 2, hj => exact .inr (.inr hj)
      | 3, hj => exact .inr (.inr hj)
      | 4, hj => exact .inr (.inr hj)
      | 5, hj => exact .inr (.inr hj)
      | 6, hj => exact .inr (.inr hj)
      | _ + 7, hj => exact hj.elim
    rcases hLj with rfl | rfl | hj
    · rw [setOwn_ne _ _ (by simp), setOwn_same] at hk
      omega
    · rw [setOwn_same] at hk
      have := q3 k hk
      omega
    · rw [setOwn_ne _ _ (n1 j hj), setOwn_ne _ _ (n0 j hj)] at hk
      by_cases e : j = (4, 0)
      · subst e
        rw [setOwn_same] at hk
        have h4 := fun k q => ho (4, 0) (rfl : lL m t (4, 0)) k ((hO k).2 q)
        rcases hk with e | e | e | e | e
        · exact h4 k (.inl e)
        · exact h4 k (.inr (.inl e))
        · rcases hcv k e with q | q
          · exact h4 k (.inr (.inr (.inl q)))
          · omega
        · exact h4 k (.inr (.inr (.inr (.inl e))))
        · exact h4 k (.inr (.inr (.inr (.inr e))))
      · rw [setOwn_ne _ _ e] at hk
        exact ho j hj k hk
/-- Push. -/
theorem SS.push (h : SS w1 s m t w) (xs : List Int) (ad : Addr) (c : Nat) (hm : 0 < xs.length) (hn : ∀ j u, (numCells xs)[j]? = some u → w.cell? (ad.add j) = some u) (hro : s.ro.length ≤ 1000000) (hxs : xs.length ≤ 1000000) :
    ∃ A0, A0 = s.A ∧ Calls Tryd.prog 26 #[.pointer (some ⟨A0, 0, none⟩), .slice (some ad) xs.length c] w fun e w' => (∃ v, e = .returned v) ∧ SS w1 { s with ro := s.ro ++ xs } m t w' := by
  obtain ⟨cv, fv, rv, hx, hk⟩ := h.heap
  refine ⟨s.A, rfl, (push_any xs ad c hx.ar hm hn hro hxs (Nat.le_of_lt hx.ar.blk.lt)).mono ?_⟩
  rintro e w' ⟨hv, rv', har, u, hr⟩
  have hH : ¬ (s.H = s.A ∨ rv.ownBlock = some s.H) := fun e => by
    rcases e with e | e
    · exact hx.hb.ne_ hx.ar.blk (by decide) e
    · exact own_blk_ne hx.ar.roots hx.hb (by decide) e
  exact ⟨hv, hk w' cv fv rv' s.cs s.fr (s.ro ++ xs) s.live (u.mono fun k _ e => e.elim .inl (fun q => .inr (.inr (.inr q)))) ⟨u.blk hx.hb hH, har⟩ (fun g e => .inl e) (fun g e => .inl e) hr⟩
theorem SS.putWeak (h : SS w1 s m t w) (ht : 1 ≤ t) (k v : K3) (f : Int) (hk : k.2.2.size ≤ 4000) (hn : s.st.wl.length ≤ 4000) :
    Calls Tryd.prog 29 #[.pointer (some ⟨s.st.Tw, 0, none⟩), VK k, VK v, .int .i64 f] w fun e w' => e = .returned (.tuple #[]) ∧ SS w1 { s with st := { s.st with wl := putA k v f s.st.wl } } m t w' := by
  obtain ⟨O, hT, hK⟩ := h.weak ht
  refine (put_any s.st.Tw s.st.wl [] O k v f w hT hk hn (by simp)).mono ?_
  rintro e w' ⟨rfl, hT', u⟩
  exact ⟨rfl, hK w' _ _ u hT' (fun k e => e.imp id (fun q => q.1))⟩
theorem SS.putTabl (h : SS w1 s m t w) (ht : 2 ≤ t) (k v : K3) (f : Int) (hk : k.2.2.size ≤ 4000) (hn : s.st.tl.length ≤ 4000) :
    Calls Tryd.prog 29 #[.pointer (some ⟨s.st.Ts, 0, none⟩), VK k, VK v, .int .i64 f] w fun e w' => e = .returned (.tuple #[]) ∧ SS w1 { s with st := { s.st with tl := putA k v f s.st.tl } } m t w' := by
  obtain ⟨O, hT, hK⟩ := h.tabl ht
  refine (put_any s.st.Ts s.st.tl [] O k v f w hT hk hn (by simp)).mono ?_
  rintro e w' ⟨rfl, hT', u⟩
  exact ⟨rfl, hK w' _ _ u hT' (fun k e => e.imp id (fun q => q.1))⟩
/-- Get of the weak table. -/
theorem SS.get (h : SS w1 s m t w) (ht : 1 ≤ t) (k : K3) (hk : k.2.2.size ≤ 4000) :
    Calls Tryd.prog 30 #[.pointer (some ⟨s.st.Tw, 0, none⟩), VK k] w fun e w' => Below w.heap.size w w' ∧ ∃ v f, e = .returned (.tuple #[VK v, .int .i64 f, .bool (s.st.wl.any (isKey k))]) := by
  obtain ⟨O, hT, hK⟩ := h.weak ht
  refine (Go.Proofs.YtmimnaaofpkndaaDoor.get_any s.st.Tw s.st.wl [] O k w hT hk).mono ?_
  rintro e w' ⟨hb, ⟨x, hx, hkx, rfl⟩ | ⟨hn, rfl⟩⟩
  · refine ⟨hb, x.val, x.flags, ?_⟩
    rw [List.any_eq_true.2 ⟨x, hx, hkx⟩]
  · refine ⟨hb, (0, 0, ⟨#[]⟩), 0, ?_⟩
    rw [List.any_eq_false.2 (fun x hx => by rw [hn x hx]; decide)]
/-- A weak table is set. -/
theorem SS.setWk (h : SS w1 s m t w) {i : Nat} {x : OI} (hx : s.st.obs[i]? = some x) (hi : i < m) (T : Nat) : SS w1 { s with st := { s.st with obs := s.st.obs.set i { x with wk := some T } } } m t (w.setCell ⟨x.b, 8, none⟩ (.pointer (some ⟨T, 0, none⟩))) := by
  obtain ⟨fv, hb, hr, hk⟩ := h.obj hx hi
  refine hk _ { x with wk := some T } fv rfl rfl ((Upd.refl _ _).set _ _ _ (.inl rfl)) (hb.set_ 8 _) (own_set hr hb (by decide) 8 _) (fun g e => .inl e)
theorem SS.setTb (h : SS w1 s m t w) {i : Nat} {x : OI} (hx : s.st.obs[i]? = some x) (hi : i < m) (T : Nat) : SS w1 { s with st := { s.st with obs := s.st.obs.set i { x with tb := some T } } } m t (w.setCell ⟨x.b, 6, none⟩ (.pointer (some ⟨T, 0, none⟩))) := by
  obtain ⟨fv, hb, hr, hk⟩ := h.obj hx hi
  refine hk _ { x with tb := some T } fv rfl rfl ((Upd.refl _ _).set _ _ _ (.inl rfl)) (hb.set_ 6 _) (own_set hr hb (by decide) 6 _) (fun g e => .inl e)
/-- Collect. -/
theorem SS.collect (h : SS w1 s m 2 w) (hm : s.st.obs.length = m) (hk : WOk s.st) (hcs : s.cs = s.st.obs.map (fun x => (some (tObj, x.b), false))) (hfr : s.fr = []) (hl : s.cs.length ≤ 100000) (hro : s.ro.length ≤ 100000) (hlv : 0 ≤ s.live ∧ s.live ≤ 1000000000)
    (csM : List Cell) (hM : markP (bX s.st).to_ (bX s.st).tab s.cs s.ro = csM) (iw : Nat) (hun : ∀ i x, s.st.obs[i]? = some x → (csM.getD i (none, false)).2 = false → x.fl = []) (hiw : ∀ i x, s.st.obs[i]? = some x → (x.wk ≠ none ↔ i = iw)) (hiM : (csM.getD iw (none, false)).2 = true) :
    Calls Tryd.prog 27 #[.pointer (some ⟨s.A, 0, none⟩), .nilFunc] w fun e w' => (∃ v, e = .returned v) ∧ SS w1 { s with st := stg (deadP csM) iw csM.length csM.length s.st, cs := swL csM, fr := (goneL 0 csM).reverse, live := s.live - (goneL 0 csM).length } m 2 w' := by
  obtain ⟨⟨own, hs, ho⟩, hb⟩ := h
  obtain ⟨cv, fv, rv, hx, hO⟩ := hs.holds (4, 0) rfl
  have hse := markP_se (bX s.st).to_ (bX s.st).tab s.cs s.ro
  rw [hM] at hse
  have hlen : csM.length = s.st.obs.length := by rw [hse.len, hcs, List.length_map]
  have hget : ∀ i, s.cs.getD i (none, false) = match s.st.obs[i]? with | some x => (some (tObj, x.b), false) | none => (none, false) := fun i => by
    rw [hcs, List.getD_eq_getElem?_getD, List.getElem?_map]
    cases s.st.obs[i]? <;> rfl
  have hbody : ∀ i N, (csM.getD i (none, false)).1 = some N → ∃ x, s.st.obs[i]? = some x ∧ N = (tObj, x.b) := fun i N e => by
    rw [hse.body i, hget] at e
    cases hx : s.st.obs[i]? with
    | none => rw [hx] at e; cases e
    | some x => rw [hx] at e; exact ⟨x, rfl, by simpa using e.symm⟩
  have hcol := hk.col (csM := csM) (A := s.A) (iw := iw) (fun i N m e => hbody i N (by rw [e])) hlen hun (fun i x hx => ⟨(tObj, x.b), (csM.getD i (none, false)).2, Prod.ext (by rw [hse.body i, hget, hx]) rfl⟩) hiw hiM
  have hLo : ∀ j, bL s.st j → lL m 2 j := fun j hj => by
    obtain ⟨a, c'⟩ := j
    match a, hj with
    | 0, hj => exact (show c' < m by rw [← hm]; exact hj)
    | 1, hj => exact (show c' < m by rw [← hm]; exact hj)
    | 2, hj => exact ⟨hj, by decide⟩
    | 3, hj => exact ⟨hj, by decide⟩
    | _ + 4, hj => exact hj.elim
  have hn4 : ∀ j, bL s.st j → j.1 < 4 := fun j hj => by
    obtain ⟨a, c'⟩ := j
    match a, hj with
    | 0, _ => exact (show (0 : Nat) < 4 by decide)
    | 1, _ => exact (show (1 : Nat) < 4 by decide)
    | 2, _ => exact (show (2 : Nat) < 4 by decide)
    | 3, _ => exact (show (3 : Nat) < 4 by decide)
    | _ + 4, hj => exact hj.elim
  have hne4 : ∀ j, bL s.st j → j ≠ (4, 0) := fun j hj e => by have := hn4 j hj; rw [e] at this; exact absurd this (by decide)
  have lCb : ∀ (s' : LS) j O W, j.1 < 4 → (lC s' j O W ↔ bC s'.st j O W) := fun s' j O W hj => by
    obtain ⟨a, c'⟩ := j
    match a, hj with
    | 0, _ => exact Iff.rfl
    | 1, _ => exact Iff.rfl
    | 2, _ => exact Iff.rfl
    | 3, _ => exact Iff.rfl
    | _ + 4, hj => exact absurd hj (by omega)
  have hstar : Star (bC s.st) (bL s.st) own w := (hs.sub hLo).chg (fun j hj O W c => (lCb s j O W (hn4 j hj)).1 c)
  have hfar : FarA (allOf (bL s.st) own) s.A cv fv rv := by
    have : ∀ k, own (4, 0) k → ¬ allOf (bL s.st) own k := fun k hk ⟨j, hj, hk'⟩ => hs.sep j (4, 0) (hLo j hj) rfl (hne4 j hj) k hk' hk
    exact ⟨this _ ((hO _).2 (.inr (.inl rfl))), fun g hg => this _ ((hO _).2 (.inr (.inr (.inl hg)))), fun g hg => this _ ((hO _).2 (.inr (.inr (.inr (.inl hg))))), fun g hg => this _ ((hO _).2 (.inr (.inr (.inr (.inr hg)))))⟩
  have hH : ¬ allOf (bL s.st) own s.H := fun ⟨j, hj, hk'⟩ => hs.sep j (4, 0) (hLo j hj) rfl (hne4 j hj) _ hk' ((hO _).2 (.inl rfl))
  refine (collect_g hk.ok hx.ar (O := allOf (bL s.st) own) ⟨own, hstar, fun k => Iff.rfl⟩ hfar (fun i N e => ?_) hl (by rw [hfr]; simp) hro (fun c hc => ?_) hlv (Nat.le_of_lt hx.ar.blk.lt) csM hM hcol (fun O W h => by
    show bS (stg (deadP csM) iw 0 0 s.st) O W
    rw [stg_zero]
    exact h)).mono ?_
  · rw [hget] at e
    cases hx : s.st.obs[i]? with
    | none => rw [hx] at e; cases e
    | some x =>
      rw [hx] at e
      obtain rfl : (tObj, x.b) = N := by simpa using e
      exact ⟨rfl, i, x, hx, rfl⟩
  · rw [hcs] at hc
    obtain ⟨x, _, rfl⟩ := List.mem_map.1 hc
    rfl
  rintro e w' ⟨vg, fv', O', rfl, har, ⟨own', hs', ho'⟩, hn', hf', u, hfv⟩
  refine ⟨⟨_, rfl⟩, ?_⟩
  rw [hfr, List.nil_append] at har
  have hbl : ∀ j, bL s.st j → bL (stg (deadP csM) iw csM.length csM.length s.st) j := fun j hj => by
    have e1 : (stg (deadP csM) iw csM.length csM.length s.st).obs.length = s.st.obs.length := setC_len _ _ _
    obtain ⟨a, c'⟩ := j
    match a, hj with
    | 0, hj => exact Nat.lt_of_lt_of_le hj (Nat.le_of_eq e1.symm)
    | 1, hj => exact Nat.lt_of_lt_of_le hj (Nat.le_of_eq e1.symm)
    | 2, hj => exact hj
    | 3, hj => exact hj
    | _ + 4, hj => exact hj.elim
  have hxH : ¬ (s.H = s.A ∨ cv.ownBlock = some s.H ∨ fv.ownBlock = some s.H ∨ allOf (bL s.st) own s.H ∨ w.heap.size ≤ s.H) := fun e => by
    rcases e with e | e | e | e | e
    · exact hx.hb.ne_ hx.ar.blk (by decide) e
    · exact own_blk_ne hx.ar.cells hx.hb (by decide) e
    · exact own_blk_ne hx.ar.free hx.hb (by decide) e
    · exact hH e
    · have := hx.hb.lt; omega
  -- whose blocks: 4: as hC tells; rows: as they were; the bodies': own'
  let own2 : Nat × Nat → Nat → Prop := fun j k => if j = (4, 0) then (k = s.H ∨ k = s.A ∨ cv.ownBlock = some k ∨ fv'.ownBlock = some k ∨ rv.ownBlock = some k) else if j.1 < 4 then own' j k else own j k
  have o4 : ∀ k, own2 (4, 0) k ↔ (k = s.H ∨ k = s.A ∨ cv.ownBlock = some k ∨ fv'.ownBlock = some k ∨ rv.ownBlock = some k) := fun k => by simp [own2]
  have ob : ∀ j, j.1 < 4 → own2 j = own' j := fun j hj => by
    funext k
    have : j ≠ (4, 0) := fun e => by rw [e] at hj; exact absurd hj (by decide)
    simp [own2, this, hj]
  have orow : ∀ j, j ≠ (4, 0) → ¬ j.1 < 4 → own2 j = own j := fun j h1 h2 => by funext k; simp [own2, h1, h2]
  have cls : ∀ j, lL m 2 j → (j = (4, 0)) ∨ (bL s.st j ∧ j.1 < 4) ∨ (j ≠ (4, 0) ∧ ¬ j.1 < 4) := fun j hj => by
    obtain ⟨a, c'⟩ := j
    match a, hj with
    | 0, hj => exact .inr (.inl ⟨(show c' < s.st.obs.length by rw [hm]; exact hj), by simp⟩)
    | 1, hj => exact .inr (.inl ⟨(show c' < s.st.obs.length by rw [hm]; exact hj), by simp⟩)
    | 2, hj => exact .inr (.inl ⟨hj.1, by simp⟩)
    | 3, hj => exact .inr (.inl ⟨hj.1, by simp⟩)
    | 4, hj => exact .inl (by obtain rfl : c' = 0 := hj; rfl)
    | 5, _ => exact .inr (.inr ⟨by simp, by simp⟩)
    | 6, _ => exact .inr (.inr ⟨by simp, by simp⟩)
    | _ + 7, hj => exact hj.elim
  have rowP : ∀ j, lL m 2 j → j ≠ (4, 0) → ¬ j.1 < 4 → ∀ k, own j k → ¬ (k = s.A ∨ cv.ownBlock = some k ∨ fv.ownBlock = some k ∨ allOf (bL s.st) own k ∨ w.heap.size ≤ k) := fun j hj h1 h2 k hk e => by
    have h4 : ¬ own (4, 0) k := fun q => hs.sep j (4, 0) hj rfl h1 k hk q
    rcases e with e | e | e | e | e
    · exact h4 ((hO _).2 (.inr (.inl e)))
    · exact h4 ((hO _).2 (.inr (.inr (.inl e))))
    · exact h4 ((hO _).2 (.inr (.inr (.inr (.inl e)))))
    · obtain ⟨i, hi, hk'⟩ := e
      exact hs.sep j i hj (hLo i hi) (fun q => h2 (by rw [q]; exact hn4 i hi)) k hk hk'
    · have := hs.lt j hj k hk; omega
  have far4 : ∀ k, own2 (4, 0) k → ¬ O' k := fun k hk e => by
    rcases (o4 k).1 hk with q | q | q | q | q
    · rcases hn' k e with q' | q'
      · exact hH (by rw [← q]; exact q')
      · have := hx.hb.lt; omega
    · exact hf'.a (by rw [← q]; exact e)
    · exact hf'.c k q e
    · exact hf'.f k q e
    · exact hf'.r k q e
  have far5 : ∀ j, lL m 2 j → j ≠ (4, 0) → ¬ j.1 < 4 → ∀ k, own j k → ¬ own2 (4, 0) k ∧ ¬ O' k := fun j hj h1 h2 k hk => by
    have h4 : ¬ own (4, 0) k := fun q => hs.sep j (4, 0) hj rfl h1 k hk q
    have hlt := hs.lt j hj k hk
    refine ⟨fun e => ?_, fun e => ?_⟩
    · rcases (o4 k).1 e with q | q | q | q | q
      · exact h4 ((hO _).2 (.inl q))
      · exact h4 ((hO _).2 (.inr (.inl q)))
      · exact h4 ((hO _).2 (.inr (.inr (.inl q))))
      · rcases hfv k q with q' | q'
        · exact h4 ((hO _).2 (.inr (.inr (.inr (.inl q')))))
        · omega
      · exact h4 ((hO _).2 (.inr (.inr (.inr (.inr q)))))
    · rcases hn' k e with ⟨i, hi, hk'⟩ | q
      · exact hs.sep j i hj (hLo i hi) (fun q => h2 (by rw [q]; exact hn4 i hi)) k hk hk'
      · omega
  have inO' : ∀ j, bL s.st j → ∀ k, own' j k → O' k := fun j hj k hk => (ho' k).2 ⟨j, hbl j hj, hk⟩
  refine ⟨⟨own2, ⟨fun j hj => ?_, fun j hj k hk => ?_, fun i j hi hj hne k hk hk' => ?_⟩, fun j hj k hk => ?_⟩, hb.trans (u.below hb.size (fun k e => ?_))⟩
  · rcases cls j hj with rfl | ⟨h1, h2⟩ | ⟨h1, h2⟩
    · exact ⟨cv, fv', rv, ⟨u.blk hx.hb hxH, har⟩, o4⟩
    · rw [ob j h2]
      exact (lCb _ j _ _ h2).2 (hs'.holds j (hbl j h1))
    · rw [orow j h1 h2]
      have c := (lStab s).keep j _ _ _ _ (hs.holds j hj) u (rowP j hj h1 h2)
      obtain ⟨a, c'⟩ := j
      match a, hj, h1, h2, c with
      | 0, _, _, h2, _ => exact absurd (by simp) h2
      | 1, _, _, h2, _ => exact absurd (by simp) h2
      | 2, _, _, h2, _ => exact absurd (by simp) h2
      | 3, _, _, h2, _ => exact absurd (by simp) h2
      | 4, hj, h1, _, _ =>
        obtain rfl : c' = 0 := hj
        exact absurd rfl h1
      | 5, _, _, _, c => exact c
      | 6, _, _, _, c => exact c
      | _ + 7, hj, _, _, _ => exact hj.elim
  · rcases cls j hj with rfl | ⟨h1, h2⟩ | ⟨h1, h2⟩
    · rcases (o4 k).1 hk with rfl | rfl | e | e | e
      · exact (u.blk hx.hb hxH).lt
      · exact har.blk.lt
      · exact (har.cells.lt k e).2
      · exact (har.free.lt k e).2
      · exact (har.roots.lt k e).2
    · rw [ob j h2] at hk
      exact hs'.lt j (hbl j h1) k hk
    · rw [orow j h1 h2] at hk
      exact Nat.lt_of_lt_of_le (hs.lt j hj k hk) u.size
  · rcases cls i hi with rfl | ⟨h1, h2⟩ | ⟨h1, h2⟩
    · rcases cls j hj with rfl | ⟨k1, k2⟩ | ⟨k1, k2⟩
      · exact hne rfl
      · rw [ob j k2] at hk'
        exact far4 k hk (inO' j k1 k hk')
      · rw [orow j k1 k2] at hk'
        exact (far5 j hj k1 k2 k hk').1 hk
    · rw [ob i h2] at hk
      rcases cls j hj with rfl | ⟨k1, k2⟩ | ⟨k1, k2⟩
      · exact far4 k hk' (inO' i h1 k hk)
      · rw [ob j k2] at hk'
        exact hs'.sep i j (hbl i h1) (hbl j k1) hne k hk hk'
      · rw [orow j k1 k2] at hk'
        exact (far5 j hj k1 k2 k hk').2 (inO' i h1 k hk)
    · rw [orow i h1 h2] at hk
      rcases cls j hj with rfl | ⟨k1, k2⟩ | ⟨k1, k2⟩
      · exact (far5 i hi h1 h2 k hk).1 hk'
      · rw [ob j k2] at hk'
        exact (far5 i hi h1 h2 k hk).2 (inO' j k1 k hk')
      · rw [orow j k1 k2] at hk'
        exact hs.sep i j hi hj hne k hk hk'
  · have hO4 := fun k q => ho (4, 0) (rfl : lL m 2 (4, 0)) k ((hO k).2 q)
    have hbs := hb.size
    rcases cls j hj with rfl | ⟨h1, h2⟩ | ⟨h1, h2⟩
    · rcases (o4 k).1 hk with e | e | e | e | e
      · exact hO4 k (.inl e)
      · exact hO4 k (.inr (.inl e))
      · exact hO4 k (.inr (.inr (.inl e)))
      · rcases hfv k e with q | q
        · exact hO4 k (.inr (.inr (.inr (.inl q))))
        · omega
      · exact hO4 k (.inr (.inr (.inr (.inr e))))
    · rw [ob j h2] at hk
      rcases hn' k (inO' j h1 k hk) with ⟨i, hi, hk'⟩ | q
      · exact ho i (hLo i hi) k hk'
      · omega
    · rw [orow j h1 h2] at hk
      exact ho j hj k hk
  · have hO4 := fun k q => ho (4, 0) (rfl : lL m 2 (4, 0)) k ((hO k).2 q)
    have hbs := hb.size
    rcases e with e | e | e | ⟨i, hi, hk'⟩ | e
    · exact hO4 k (.inr (.inl e))
    · exact hO4 k (.inr (.inr (.inl e)))
    · exact hO4 k (.inr (.inr (.inr (.inl e))))
    · exact ho i (hLo i hi) k hk'
    · omega
end
end Go.Proofs.YtmimnaaofpkndaaDoor.Hp

/- The heap: HeapWeak's state as the law has it. -/
set_option linter.unusedVariables false
set_option linter.unusedSimpArgs false
namespace Go.Proofs.YtmimnaaofpkndaaDoor.Hp
open Go.RowKit Go.Proofs.YtmimnaaofpkndaaDoor Go.Shelf Go.Sort

structure PK where
  b0 : Nat
  T0 : Nat
  b1 : Nat
  T1 : Nat
  b2 : Nat
  T2 : Nat
  b3 : Nat
  T3 : Nat
  Tw : Nat
  Ts : Nat
  H : Nat
  A : Nat
def PK.obs (p : PK) (f1 f2 : List Int) (ps : List OI) : List OI := ⟨p.b0, 6, p.T0, none, some p.Tw, []⟩ :: ⟨p.b1, 8, p.T1, none, none, f1⟩ :: ⟨p.b2, 9, p.T2, none, none, f2⟩ :: ⟨p.b3, 3, p.T3, some p.Ts, none, []⟩ :: ps
abbrev csOf (l : List OI) : List Cell := l.map fun x => (some (tObj, x.b), false)
/-- Ahead of the collection. -/
def lsG (p : PK) (ps : List OI) (wl tl : List Ent) (f1 f2 ro : List Int) (rv : Value) (rl : List Int) (vv : Value) (vl : List Int) : LS :=
  { st := { obs := p.obs f1 f2 ps, Tw := p.Tw, wl := wl, Ts := p.Ts, tl := tl }, H := p.H, A := p.A, cs := csOf (p.obs f1 f2 ps), fr := [], ro := ro, live := ((4 + ps.length : Nat) : Int), rv := rv, rl := rl, vv := vv, vl := vl }
def ls0 (H A : Nat) : LS := { st := { obs := [], Tw := 0, wl := [], Ts := 0, tl := [] }, H := H, A := A, cs := [], fr := [], ro := [], live := 0, rv := nilS, rl := [], vv := nilS, vl := [] }
theorem ss_new (w1 w : World) (h : Below w1.heap.size w1 w) : SS w1 (ls0 (w.heap.size + 1) w.heap.size) 0 0 (newW w) := by
  have hb := h.trans ((newW_below w).mono h.size)
  have hs : (newW w).heap.size = w.heap.size + 2 := by simp [newW]
  have h0 := h.size
  refine ⟨⟨fun i k => i = (4, 0) ∧ (k = w.heap.size ∨ k = w.heap.size + 1), ⟨fun i hi => ?_, fun i hi k hk => ?_, fun i j hi hj hne k hk hk' => ?_⟩, fun i hi k hk => ?_⟩, hb⟩
  · obtain ⟨a, c⟩ := i
    match a, hi with
    | 0, hi => exact absurd hi (Nat.not_lt_zero _)
    | 1, hi => exact absurd hi (Nat.not_lt_zero _)
    | 2, hi => exact absurd hi.2 (by decide)
    | 3, hi => exact absurd hi.2 (by decide)
    | 4, hi =>
      obtain rfl : c = 0 := hi
      refine ⟨nilS, nilS, nilS, newW_hx w, fun k => ⟨fun e => e.2.elim (fun q => .inr (.inl q)) .inl, fun e => ⟨rfl, ?_⟩⟩⟩
      rcases e with e | e | e | e | e
      · exact .inr e
      · exact .inl e
      · simp [Value.ownBlock] at e
      · simp [Value.ownBlock] at e
      · simp [Value.ownBlock] at e
    | 5, hi => exact ⟨World.ownsRow_nil _ _ _ _, fun k => ⟨fun e => absurd e.1 (by simp), fun e => by simp [ls0, Value.ownBlock] at e⟩⟩
    | 6, hi => exact ⟨World.ownsRow_nil _ _ _ _, fun k => ⟨fun e => absurd e.1 (by simp), fun e => by simp [ls0, Value.ownBlock] at e⟩⟩
    | _ + 7, hi => exact hi.elim
  · rcases hk.2 with e | e <;> omega
  · exact hne (hk.1.trans hk'.1.symm)
  · rcases hk.2 with e | e <;> omega
section
variable {w1 w w' : World} {p : PK} {ps : List OI} {wl tl : List Ent} {f1 f2 ro rl vl : List Int} {rv vv : Value}
abbrev GS (w1 : World) (p : PK) (ps : List OI) (wl tl : List Ent) (f1 f2 ro : List Int) (rv : Value) (rl : List Int) (vv : Value) (vl : List Int) (w : World) : Prop := SS w1 (lsG p ps wl tl f1 f2 ro rv rl vv vl) (4 + ps.length) 2 w
theorem lsG_len : (lsG p ps wl tl f1 f2 ro rv rl vv vl).st.obs.length = 4 + ps.length := by show (p.obs f1 f2 ps).length = _; simp [PK.obs]; omega
theorem lsG_cs : (lsG p ps wl tl f1 f2 ro rv rl vv vl).cs.length = 4 + ps.length := by show (csOf (p.obs f1 f2 ps)).length = _; simp [PK.obs]; omega
theorem lsG_mk (b T : Nat) : (lsG p ps wl tl f1 f2 ro rv rl vv vl).mk1 0 b T = lsG p (ps ++ [⟨b, 0, T, none, none, []⟩]) wl tl f1 f2 ro rv rl vv vl := by
  simp [LS.mk1, lsG, PK.obs, csOf]
  omega
/-- A new plain object: its number. -/
theorem GS.make (h : GS w1 p ps wl tl f1 f2 ro rv rl vv vl w) (hl : ps.length ≤ 1000) :
    Calls Tryd.prog 10 #[.pointer (some ⟨p.H, 0, none⟩), .int .i64 0, .int .i64 0] w fun e w' => ∃ x : OI, x.tb = none ∧ x.wk = none ∧ x.fl = [] ∧ e = .returned (.tuple #[.int .i64 ((5 + ps.length : Nat) : Int), .pointer (some ⟨x.b, 0, none⟩)]) ∧ GS w1 p (ps ++ [x]) wl tl f1 f2 ro rv rl vv vl w' ∧ (∀ y ∈ p.obs f1 f2 ps, y.b < x.b) := by
  refine (SS.make h lsG_len rfl (by show (0 : Int) ≤ ((4 + ps.length : Nat) : Int); omega) (by show ((4 + ps.length : Nat) : Int) < 4194304; omega) (by rw [lsG_cs]; omega) 0).mono ?_
  rintro e w' ⟨b, T, rfl, hs, hlt⟩
  refine ⟨⟨b, 0, T, none, none, []⟩, rfl, rfl, rfl, ?_, ?_, hlt⟩
  · rw [lsG_cs, show 4 + ps.length + 1 = 5 + ps.length by omega]
  · rw [lsG_mk] at hs
    show SS _ _ _ _ _
    rw [List.length_append, List.length_singleton, ← Nat.add_assoc]
    exact hs
theorem GS.putWeak (h : GS w1 p ps wl tl f1 f2 ro rv rl vv vl w) (k v : K3) (f : Int) (hk : k.2.2.size ≤ 4000) (hn : wl.length ≤ 4000) :
    Calls Tryd.prog 29 #[.pointer (some ⟨p.Tw, 0, none⟩), VK k, VK v, .int .i64 f] w fun e w' => e = .returned (.tuple #[]) ∧ GS w1 p ps (putA k v f wl) tl f1 f2 ro rv rl vv vl w' := SS.putWeak h (by decide) k v f hk hn
theorem GS.putTabl (h : GS w1 p ps wl tl f1 f2 ro rv rl vv vl w) (k v : K3) (f : Int) (hk : k.2.2.size ≤ 4000) (hn : tl.length ≤ 4000) :
    Calls Tryd.prog 29 #[.pointer (some ⟨p.Ts, 0, none⟩), VK k, VK v, .int .i64 f] w fun e w' => e = .returned (.tuple #[]) ∧ GS w1 p ps wl (putA k v f tl) f1 f2 ro rv rl vv vl w' := SS.putTabl h (by decide) k v f hk hn
theorem GS.push (h : GS w1 p ps wl tl f1 f2 ro rv rl vv vl w) (xs : List Int) (ad : Addr) (c : Nat) (hm : 0 < xs.length) (hn : ∀ j u, (numCells xs)[j]? = some u → w.cell? (ad.add j) = some u) (hro : ro.length ≤ 1000000) (hxs : xs.length ≤ 1000000) :
    Calls Tryd.prog 26 #[.pointer (some ⟨p.A, 0, none⟩), .slice (some ad) xs.length c] w fun e w' => (∃ v, e = .returned v) ∧ GS w1 p ps wl tl f1 f2 (ro ++ xs) rv rl vv vl w' := by
  obtain ⟨_, rfl, h⟩ := SS.push h xs ad c hm hn hro hxs
  exact h
theorem GS.below (h : GS w1 p ps wl tl f1 f2 ro rv rl vv vl w) (b : Below w.heap.size w w') : GS w1 p ps wl tl f1 f2 ro rv rl vv vl w' := SS.below h b
/-- The faint cells of p, of q. -/
theorem GS.fa1 (h : GS w1 p ps wl tl f1 f2 ro rv rl vv vl w) : ∃ fv, Blk w p.b1 51 (obC ⟨p.b1, 8, p.T1, none, none, f1⟩ fv) ∧ w.ownsRow 0 3 1 fv f1.length (numCells f1) ∧ ∀ (w' : World) (l : List Int) (fv' : Value), Upd w w' (fun k => k = p.b1 ∨ fv.ownBlock = some k) → Blk w' p.b1 51 (obC ⟨p.b1, 8, p.T1, none, none, l⟩ fv') → w'.ownsRow 0 3 1 fv' l.length (numCells l) → (∀ g, fv'.ownBlock = some g → fv.ownBlock = some g ∨ w.heap.size ≤ g) →
    GS w1 p ps wl tl l f2 ro rv rl vv vl w' := by
  obtain ⟨fv, h1, h2, h3⟩ := SS.obj h (i := 1) (x := ⟨p.b1, 8, p.T1, none, none, f1⟩) rfl (by omega)
  exact ⟨fv, h1, h2, fun w' l fv' u a b c => h3 w' ⟨p.b1, 8, p.T1, none, none, l⟩ fv' rfl rfl u a b c⟩
theorem GS.fa2 (h : GS w1 p ps wl tl f1 f2 ro rv rl vv vl w) : ∃ fv, Blk w p.b2 51 (obC ⟨p.b2, 9, p.T2, none, none, f2⟩ fv) ∧ w.ownsRow 0 3 1 fv f2.length (numCells f2) ∧ ∀ (w' : World) (l : List Int) (fv' : Value), Upd w w' (fun k => k = p.b2 ∨ fv.ownBlock = some k) → Blk w' p.b2 51 (obC ⟨p.b2, 9, p.T2, none, none, l⟩ fv') → w'.ownsRow 0 3 1 fv' l.length (numCells l) → (∀ g, fv'.ownBlock = some g → fv.ownBlock = some g ∨ w.heap.size ≤ g) →
    GS w1 p ps wl tl f1 l ro rv rl vv vl w' := by
  obtain ⟨fv, h1, h2, h3⟩ := SS.obj h (i := 2) (x := ⟨p.b2, 9, p.T2, none, none, f2⟩) rfl (by omega)
  exact ⟨fv, h1, h2, fun w' l fv' u a b c => h3 w' ⟨p.b2, 9, p.T2, none, none, l⟩ fv' rfl rfl u a b c⟩
theorem GS.o0 (h : GS w1 p ps wl tl f1 f2 ro rv rl vv vl w) : ∃ fv, Blk w p.b0 51 (obC ⟨p.b0, 6, p.T0, none, some p.Tw, []⟩ fv) := by
  obtain ⟨fv, h1, h2, h3⟩ := SS.obj h (i := 0) (x := ⟨p.b0, 6, p.T0, none, some p.Tw, []⟩) rfl (by omega)
  exact ⟨fv, h1⟩
theorem GS.o3 (h : GS w1 p ps wl tl f1 f2 ro rv rl vv vl w) : ∃ fv, Blk w p.b3 51 (obC ⟨p.b3, 3, p.T3, some p.Ts, none, []⟩ fv) := by
  obtain ⟨fv, h1, h2, h3⟩ := SS.obj h (i := 3) (x := ⟨p.b3, 3, p.T3, some p.Ts, none, []⟩) rfl (by omega)
  exact ⟨fv, h1⟩
theorem GS.hb (h : GS w1 p ps wl tl f1 f2 ro rv rl vv vl w) : Blk w p.H 63 #[.pointer (some ⟨p.A, 0, none⟩), .int .i64 0] := by
  obtain ⟨cv, fv, rv', hx, _⟩ := SS.heap h
  exact hx.hb
theorem GS.refs (h : GS w1 p ps wl tl f1 f2 ro rv rl vv vl w) : w.ownsRow 0 3 1 rv rl.length (numCells rl) ∧ ∀ (w' : World) (rv' : Value) (rl' : List Int), Upd w w' (fun k => rv.ownBlock = some k) → w'.ownsRow 0 3 1 rv' rl'.length (numCells rl') → (∀ g, rv'.ownBlock = some g → rv.ownBlock = some g ∨ w.heap.size ≤ g) → GS w1 p ps wl tl f1 f2 ro rv' rl' vv vl w' := SS.refs h
theorem GS.vals (h : GS w1 p ps wl tl f1 f2 ro rv rl vv vl w) : w.ownsRow 0 3 1 vv vl.length (numCells vl) ∧ ∀ (w' : World) (rv' : Value) (rl' : List Int), Upd w w' (fun k => vv.ownBlock = some k) → w'.ownsRow 0 3 1 rv' rl'.length (numCells rl') → (∀ g, rv'.ownBlock = some g → vv.ownBlock = some g ∨ w.heap.size ≤ g) → GS w1 p ps wl tl f1 f2 ro rv rl rv' rl' w' := SS.vals h
end
end Go.Proofs.YtmimnaaofpkndaaDoor.Hp

/- HeapWeak: the lists of the law; what a slice of bools brings. -/
set_option linter.unusedVariables false
set_option linter.unusedSimpArgs false
namespace Go.Proofs.YtmimnaaofpkndaaDoor
open Go.RowKit
/-- What came in as a slice of bools. -/
def IsBools (w : World) (a : Option Addr) (len : Nat) (B : Nat → Bool) : Prop := len = 0 ∨ ∃ x, a = some x ∧ ∀ i, i < len → w.cell? (x.add i) = some (.bool (B i))
def BoolR (w : World) (a : Option Addr) (n : Nat) (l : List Bool) : Prop :=
  l.length = n ∧ (0 < n → ∃ b off, a = some ⟨b, off, none⟩ ∧ b < w.heap.size ∧ ∀ i, i < n → w.cell? ⟨b, off + i, none⟩ = some (.bool (l.getD i false)))
theorem boolR_of {w : World} {a : Option Addr} {n : Nat} {B : Nat → Bool} (h : IsBools w a n B) : BoolR w a n ((List.range n).map B) := by
  refine ⟨by simp, fun hn => ?_⟩
  rcases h with h | ⟨x, rfl, hc⟩
  · omega
  · obtain ⟨b, off, spot⟩ := x
    have hspot : spot = none := by simpa [Addr.add] using World.cell?_spot (hc 0 hn)
    subst hspot
    refine ⟨b, off, rfl, World.block_lt_of_cell? w ⟨b, off + 0, none⟩ (by rw [← Go.WideShapes.add_plain]; exact hc 0 hn), fun i hi => ?_⟩
    rw [← Go.WideShapes.add_plain, hc i hi]
    simp [List.getD_eq_getElem?_getD, List.getElem?_range hi]
theorem BoolR.below {w w' : World} {a : Option Addr} {n : Nat} {l : List Bool} (h : BoolR w a n l) (b : Below w.heap.size w w') : BoolR w' a n l :=
  ⟨h.1, fun hn => by
    obtain ⟨x, off, e, hb, hc⟩ := h.2 hn
    exact ⟨x, off, e, Nat.lt_of_lt_of_le hb b.size, fun i hi => by rw [b.cell hb]; exact hc i hi⟩⟩
namespace Hp
open Go.Proofs.YtmimnaaofpkndaaDoor Go.Shelf Go.Sort
def kR (i : Nat) : Int := ((5 + 2 * i : Nat) : Int)
def vR (i : Nat) : Int := ((6 + 2 * i : Nat) : Int)
def k3 (r : Int) : K3 := (9, r, ⟨#[]⟩)
def entK (i : Nat) : Ent := ⟨norm (k3 (kR i)), k3 (vR i), 0, false⟩
def wlK (k : Nat) : List Ent := (List.range k).map entK
def kyL (k : Nat) : List Int := (List.range k).map kR
def vlL (k : Nat) : List Int := (List.range k).map vR
def ky2 (k : Nat) : List Int := (List.range k).flatMap fun i => [kR i, kR i]
def hdL (hd : Nat → Bool) (k : Nat) : List Int := ((List.range k).filter hd).map kR
def cH (hd : Nat → Bool) (k : Nat) : Nat := ((List.range k).filter hd).length
theorem norm_k3 (r : Int) : norm (k3 r) = k3 r := by simp [k3, norm, kK, kN, kS]
theorem kyL_len (k : Nat) : (kyL k).length = k := by simp [kyL]
theorem vlL_len (k : Nat) : (vlL k).length = k := by simp [vlL]
theorem wlK_len (k : Nat) : (wlK k).length = k := by simp [wlK]
theorem ky2_len (k : Nat) : (ky2 k).length = 2 * k := by
  induction k with
  | zero => rfl
  | succ k ih => simp only [ky2, List.range_succ, List.flatMap_append, List.length_append] at *; simp [ih]; omega
theorem kyL_succ (k : Nat) : kyL (k + 1) = kyL k ++ [kR k] := by simp [kyL, List.range_succ]
theorem vlL_succ (k : Nat) : vlL (k + 1) = vlL k ++ [vR k] := by simp [vlL, List.range_succ]
theorem ky2_succ (k : Nat) : ky2 (k + 1) = ky2 k ++ [kR k, kR k] := by simp [ky2, List.range_succ]
theorem hdL_succ (hd : Nat → Bool) (k : Nat) : hdL hd (k + 1) = hdL hd k ++ if hd k then [kR k] else [] := by
  simp only [hdL, List.range_succ, List.filter_append, List.map_append]
  cases h : hd k <;> simp [List.filter, h]
theorem cH_succ (hd : Nat → Bool) (k : Nat) : cH hd (k + 1) = cH hd k + if hd k then 1 else 0 := by
  simp only [cH, List.range_succ, List.filter_append, List.length_append]
  cases h : hd k <;> simp [List.filter, h]
theorem cH_le (hd : Nat → Bool) (k : Nat) : cH hd k ≤ k := by
  have := List.length_filter_le hd (List.range k)
  simpa [cH] using this
theorem hdL_len (hd : Nat → Bool) (k : Nat) : (hdL hd k).length = cH hd k := by simp [hdL, cH]
theorem kR_inj {i j : Nat} (h : kR i = kR j) : i = j := by unfold kR at h; omega
theorem isKey_entK (i j : Nat) : isKey (k3 (kR i)) (entK j) = decide (j = i) := by
  simp only [isKey, entK, norm_norm, norm_k3, Bool.not_false, Bool.true_and, decide_eq_decide]
  constructor
  · intro h
    have : kR j = kR i := by simp only [k3, Prod.mk.injEq] at h; exact h.2.1
    exact kR_inj this
  · rintro rfl; rfl
theorem wlK_succ (k : Nat) : putA (k3 (kR k)) (k3 (vR k)) 0 (wlK k) = wlK (k + 1) := by
  have hno : (wlK k).any (isKey (k3 (kR k))) = false := by
    rw [List.any_eq_false]
    intro x hx
    obtain ⟨j, hj, rfl⟩ := List.mem_map.1 hx
    rw [isKey_entK]
    have := List.mem_range.1 hj
    simp; omega
  unfold putA
  rw [hno]
  simp [wlK, List.range_succ, entK]
end Hp
end Go.Proofs.YtmimnaaofpkndaaDoor

/- HeapWeak: what the collection marks, and what it leaves; no code in sight. -/
set_option linter.unusedVariables false
set_option linter.unusedSimpArgs false
namespace Go.Proofs.YtmimnaaofpkndaaDoor.Hp
open Go.RowKit Go.Proofs.YtmimnaaofpkndaaDoor Go.Shelf Go.Sort

def xE (M : Nat) : Ent := ⟨norm (k3 (kR M)), k3 (kR M), 0, false⟩
theorem pair_entK (j : Nat) : pairOf (entK j) = (kR j, vR j) := by unfold pairOf entK; rw [norm_k3]; rfl
theorem refs_xE (M : Nat) : [xE M].flatMap refsOf = [kR M, kR M] := by
  show refsOf (xE M) ++ [] = _
  unfold refsOf xE
  rw [norm_k3]
  rfl
/-- What lies there ahead of the collection. -/
structure Wk (pk : PK) (M : Nat) (ps : List OI) : Prop where
  len : ps.length = 2 * M + 1
  plain : ∀ x ∈ ps, x.tb = none ∧ x.wk = none ∧ x.fl = []
  asc : ((pk.obs (kyL M) (ky2 M) ps).map (·.b)).Pairwise (· < ·)
  m10 : M ≤ 10
section
variable {pk : PK} {M : Nat} {ps : List OI}
def wst (pk : PK) (M : Nat) (ps : List OI) : BS := { obs := pk.obs (kyL M) (ky2 M) ps, Tw := pk.Tw, wl := wlK M, Ts := pk.Ts, tl := [xE M] }
theorem Wk.olen (h : Wk pk M ps) : (pk.obs (kyL M) (ky2 M) ps).length = 5 + 2 * M := by simp [PK.obs, h.len]; omega
theorem Wk.wkI (h : Wk pk M ps) (i : Nat) (x : OI) (hx : (pk.obs (kyL M) (ky2 M) ps)[i]? = some x) : (x.wk ≠ none ↔ i = 0) ∧ (x.tb ≠ none ↔ i = 3) ∧ (x.wk = none ∨ x.wk = some pk.Tw) ∧ (x.tb = none ∨ x.tb = some pk.Ts) ∧ x.fl.length ≤ 1000000 ∧ (4 ≤ i → x.fl = []) := by
  have h10 := h.m10
  unfold PK.obs at hx
  match i, hx with
  | 0, hx => cases hx; simp
  | 1, hx => cases hx; simp [kyL_len]; omega
  | 2, hx => cases hx; simp [ky2_len]; omega
  | 3, hx => cases hx; simp
  | i + 4, hx =>
    simp only [List.getElem?_cons_succ] at hx
    obtain ⟨h1, h2, h3⟩ := h.plain x (List.mem_of_getElem? hx)
    rw [h1, h2, h3]
    simp
theorem Wk.ok (h : Wk pk M ps) : WOk (wst pk M ps) where
  nd := fun i j x y hx hy e => by
    have hp := h.asc
    have h1 : ((pk.obs (kyL M) (ky2 M) ps).map (·.b))[i]? = some x.b := by rw [List.getElem?_map, show (pk.obs (kyL M) (ky2 M) ps)[i]? = some x from hx]; rfl
    have h2 : ((pk.obs (kyL M) (ky2 M) ps).map (·.b))[j]? = some y.b := by rw [List.getElem?_map, show (pk.obs (kyL M) (ky2 M) ps)[j]? = some y from hy]; rfl
    obtain ⟨l1, g1⟩ := List.getElem?_eq_some_iff.1 h1
    obtain ⟨l2, g2⟩ := List.getElem?_eq_some_iff.1 h2
    rcases Nat.lt_trichotomy i j with q | q | q
    · have := List.pairwise_iff_getElem.1 hp i j l1 l2 q
      omega
    · exact q
    · have := List.pairwise_iff_getElem.1 hp j i l2 l1 q
      omega
  tb := fun x hx => by
    obtain ⟨i, hi⟩ := List.getElem?_of_mem hx
    exact (h.wkI i x hi).2.2.2.1
  wk := fun x hx => by
    obtain ⟨i, hi⟩ := List.getElem?_of_mem hx
    exact (h.wkI i x hi).2.2.1
  tl := fun e he => by
    rw [List.mem_singleton.1 he]
    simp only [xE, norm_k3]
    refine ⟨rfl, rfl, ?_, ?_⟩ <;> (show kR M ≠ 0; unfold kR; omega)
  wl := fun e he => by
    obtain ⟨j, _, rfl⟩ := List.mem_map.1 he
    simp only [entK, norm_k3]
    exact ⟨⟨rfl, rfl⟩, trivial, by show (0 : Nat) ≤ 4000; decide⟩
  tn := by show (1 : Nat) ≤ 4000; decide
  wn := by show (wlK M).length ≤ 4000; rw [wlK_len]; have := h.m10; omega
  fl := fun x hx => by
    obtain ⟨i, hi⟩ := List.getElem?_of_mem hx
    exact (h.wkI i x hi).2.2.2.2.1
/-- What is held. -/
def SW (hd : Nat → Bool) (M : Nat) (r : Int) : Prop := (1 ≤ r ∧ r ≤ 4) ∨ r = kR M ∨ ∃ i, i < M ∧ hd i = true ∧ (r = kR i ∨ r = vR i)
def roW (hd : Nat → Bool) (M : Nat) : List Int := [1, 2, 3, 4] ++ hdL hd M
def cM (pk : PK) (hd : Nat → Bool) (M : Nat) (ps : List OI) : List Cell := markP (bX (wst pk M ps)).to_ (bX (wst pk M ps)).tab (csOf (wst pk M ps).obs) (roW hd M)
theorem Wk.at (h : Wk pk M ps) (i : Nat) (hi : i < 5 + 2 * M) : ∃ x, (wst pk M ps).obs[i]? = some x ∧ (csOf (wst pk M ps).obs).getD i (none, false) = (some (tObj, x.b), false) := by
  have hi' : i < (wst pk M ps).obs.length := by rw [show (wst pk M ps).obs.length = _ from h.olen]; exact hi
  refine ⟨_, List.getElem?_eq_getElem hi', ?_⟩
  rw [List.getD_eq_getElem?_getD, List.getElem?_map, List.getElem?_eq_getElem hi']; rfl
theorem Wk.body (h : Wk pk M ps) {i : Nat} {N : Nat × Nat} (e : ((csOf (wst pk M ps).obs).getD i (none, false)).1 = some N) : ∃ x, (wst pk M ps).obs[i]? = some x ∧ N = (tObj, x.b) := by
  rw [List.getD_eq_getElem?_getD, List.getElem?_map] at e
  cases hx : (wst pk M ps).obs[i]? with
  | none => rw [hx] at e; cases e
  | some x => rw [hx] at e; exact ⟨x, rfl, by simpa using e.symm⟩
theorem Wk.hum (hd : Nat → Bool) (h : Wk pk M ps) : ∀ c ∈ csOf (wst pk M ps).obs, c.2 = false := fun c hc => by
  obtain ⟨x, _, rfl⟩ := List.mem_map.1 hc
  rfl
theorem Wk.mark (hd : Nat → Bool) (h : Wk pk M ps) (i : Nat) (hi : i < 5 + 2 * M) : ((cM pk hd M ps).getD i (none, false)).2 = true ↔ SW hd M ((i : Int) + 1) := by
  have hse := markP_se (bX (wst pk M ps)).to_ (bX (wst pk M ps)).tab (csOf (wst pk M ps).obs) (roW hd M)
  have to3 : ∀ (i : Nat) (N : Nat × Nat), ((csOf (wst pk M ps).obs).getD i (none, false)).1 = some N → (bX (wst pk M ps)).to_ N = if i = 3 then [kR M, kR M] else [] := fun i N e => by
    obtain ⟨x, hx, rfl⟩ := h.body e
    rw [h.ok.to_ hx]
    by_cases i3 : i = 3
    · rw [if_pos i3, if_neg ((h.wkI i x hx).2.1.2 i3)]
      exact refs_xE M
    · rw [if_neg i3, if_pos (Decidable.byContradiction fun e => i3 ((h.wkI i x hx).2.1.1 e))]
  have tab0 : ∀ (i : Nat) (N : Nat × Nat), ((csOf (wst pk M ps).obs).getD i (none, false)).1 = some N → (bX (wst pk M ps)).tab N = if i = 0 then (wlK M).map pairOf else [] := fun i N e => by
    obtain ⟨x, hx, rfl⟩ := h.body e
    rw [h.ok.tab hx]
    by_cases i3 : i = 0
    · rw [if_pos i3, if_neg ((h.wkI i x hx).1.2 i3)]; rfl
    · rw [if_neg i3, if_pos (Decidable.byContradiction fun e => i3 ((h.wkI i x hx).1.1 e))]
  have hpair : ∀ p ∈ (wlK M).map pairOf, ∃ j, j < M ∧ p = (kR j, vR j) := fun p hp => by
    obtain ⟨e, he, rfl⟩ := List.mem_map.1 hp
    obtain ⟨j, hj, rfl⟩ := List.mem_map.1 he
    exact ⟨j, List.mem_range.1 hj, pair_entK j⟩
  constructor
  · refine markP_in (S := SW hd M) (csOf (wst pk M ps).obs) (roW hd M) (h.hum hd) (fun r hr _ => ?_) (fun j N e _ r hr _ => ?_) (fun j N e _ p hp h1 h2 => ?_) i
    · unfold roW at hr
      rcases List.mem_append.1 hr with hr | hr
      · simp at hr
        exact .inl (by omega)
      · obtain ⟨j, hj, rfl⟩ := List.mem_map.1 hr
        obtain ⟨h1, h2⟩ := List.mem_filter.1 hj
        exact .inr (.inr ⟨j, List.mem_range.1 h1, h2, .inl rfl⟩)
    · rw [to3 j N e] at hr
      split at hr
      · simp at hr; exact .inr (.inl hr)
      · exact (List.not_mem_nil hr).elim
    · rw [tab0 j N e] at hp
      split at hp
      · obtain ⟨q, hq, rfl⟩ := hpair p hp
        have hv : Valid (csOf (wst pk M ps).obs) (kR q) := by
          obtain ⟨x, _, hb⟩ := h.at (4 + 2 * q) (by omega)
          exact ⟨4 + 2 * q, (tObj, x.b), by unfold kR; omega, by rw [hb]⟩
        rcases h1 hv with g | g | ⟨q2, g1, g2, g⟩
        · unfold kR at g; omega
        · have := kR_inj g; omega
        · rcases g with g | g
          · have := kR_inj g
            subst this
            exact .inr (.inr ⟨q, hq, g2, .inr rfl⟩)
          · exfalso; unfold kR vR at g; omega
      · exact (List.not_mem_nil hp).elim
  · intro hS
    obtain ⟨hsi, hro⟩ := markP_closed (bX (wst pk M ps)).to_ (bX (wst pk M ps)).tab (csOf (wst pk M ps).obs) (roW hd M) (h.hum hd) (fun i N e => by obtain ⟨x, _, rfl⟩ := h.body e; rfl)
    have lv : ∀ j, j < 5 + 2 * M → deadP (cM pk hd M ps) ((j : Int) + 1) = false → ((cM pk hd M ps).getD j (none, false)).2 = true := fun j hj hdd => by
      obtain ⟨x, _, hb⟩ := h.at j hj
      exact live_of (N := (tObj, x.b)) (by rw [show (cM pk hd M ps) = _ from rfl, show cM pk hd M ps = markP _ _ _ _ from rfl, hse.body j, hb]) hdd
    have mk : ∀ j, j < 5 + 2 * M → ((cM pk hd M ps).getD j (none, false)).2 = true → ∃ N, (cM pk hd M ps).getD j (none, false) = (some N, true) ∧ ((csOf (wst pk M ps).obs).getD j (none, false)).1 = some N := fun j hj hm => by
      obtain ⟨x, _, hb⟩ := h.at j hj
      refine ⟨(tObj, x.b), Prod.ext ?_ hm, by rw [hb]⟩
      rw [show cM pk hd M ps = markP _ _ _ _ from rfl, hse.body j, hb]
    refine lv i hi ?_
    rcases hS with g | g | ⟨j, hj, hdj, g⟩
    · refine hro _ (List.mem_append_left _ ?_)
      have : i = 0 ∨ i = 1 ∨ i = 2 ∨ i = 3 := by omega
      rcases this with rfl | rfl | rfl | rfl <;> simp
    · have m3 := lv 3 (by omega) (hro _ (List.mem_append_left _ (by simp)))
      obtain ⟨N, e1, e2⟩ := mk 3 (by omega) m3
      rw [g]
      exact hsi.to_ 3 N e1 (kR M) (by rw [to3 3 N e2]; simp)
    · have hk : deadP (cM pk hd M ps) (kR j) = false := hro _ (List.mem_append_right _ (List.mem_map.2 ⟨j, List.mem_filter.2 ⟨List.mem_range.2 hj, hdj⟩, rfl⟩))
      rcases g with g | g
      · rw [g]; exact hk
      · have m0 := lv 0 (by omega) (hro _ (List.mem_append_left _ (by simp)))
        obtain ⟨N, e1, e2⟩ := mk 0 (by omega) m0
        rw [g]
        refine hsi.pair 0 N e1 (kR j, vR j) ?_ hk
        rw [tab0 0 N e2, if_pos rfl]
        exact List.mem_map.2 ⟨entK j, List.mem_map.2 ⟨j, List.mem_range.2 hj, rfl⟩, pair_entK j⟩
end
end Go.Proofs.YtmimnaaofpkndaaDoor.Hp

/- HeapWeak: behind the collection. -/
set_option linter.unusedVariables false
set_option linter.unusedSimpArgs false
namespace Go.Proofs.YtmimnaaofpkndaaDoor.Hp
open Go.RowKit Go.Proofs.YtmimnaaofpkndaaDoor Go.Shelf Go.Sort

section
variable {pk : PK} {M : Nat} {ps : List OI}
theorem Wk.clen (hd : Nat → Bool) (h : Wk pk M ps) : (cM pk hd M ps).length = 5 + 2 * M := by
  have hse := markP_se (bX (wst pk M ps)).to_ (bX (wst pk M ps)).tab (csOf (wst pk M ps).obs) (roW hd M)
  rw [show cM pk hd M ps = markP _ _ _ _ from rfl, hse.len, List.length_map]
  exact h.olen
theorem Wk.cbody (hd : Nat → Bool) (h : Wk pk M ps) (i : Nat) (hi : i < 5 + 2 * M) : ∃ x, (wst pk M ps).obs[i]? = some x ∧ ((cM pk hd M ps).getD i (none, false)).1 = some (tObj, x.b) := by
  have hse := markP_se (bX (wst pk M ps)).to_ (bX (wst pk M ps)).tab (csOf (wst pk M ps).obs) (roW hd M)
  obtain ⟨x, hx, hb⟩ := h.at i hi
  exact ⟨x, hx, by rw [show cM pk hd M ps = markP _ _ _ _ from rfl, hse.body i, hb]⟩
/-- Marks as bools. -/
theorem Wk.mks (hd : Nat → Bool) (h : Wk pk M ps) : (∀ i, i < 4 → ((cM pk hd M ps).getD i (none, false)).2 = true) ∧ ((cM pk hd M ps).getD (4 + 2 * M) (none, false)).2 = true ∧ ∀ i, i < M → ((cM pk hd M ps).getD (4 + 2 * i) (none, false)).2 = hd i ∧ ((cM pk hd M ps).getD (5 + 2 * i) (none, false)).2 = hd i := by
  refine ⟨fun i hi => (h.mark hd i (by omega)).2 (.inl (by omega)), (h.mark hd _ (by omega)).2 (.inr (.inl (by unfold kR; omega))), fun i hi => ⟨?_, ?_⟩⟩
  · cases hv : hd i with
    | true => exact (h.mark hd _ (by omega)).2 (.inr (.inr ⟨i, hi, hv, .inl (by unfold kR; omega)⟩))
    | false =>
      apply Bool.eq_false_iff.2
      intro hm
      rcases (h.mark hd _ (by omega)).1 hm with g | g | ⟨j, g1, g2, g⟩
      · omega
      · unfold kR at g; omega
      · rcases g with g | g
        · have : j = i := by unfold kR at g; omega
          subst this
          rw [hv] at g2; cases g2
        · unfold vR at g; omega
  · cases hv : hd i with
    | true => exact (h.mark hd _ (by omega)).2 (.inr (.inr ⟨i, hi, hv, .inr (by unfold vR; omega)⟩))
    | false =>
      apply Bool.eq_false_iff.2
      intro hm
      rcases (h.mark hd _ (by omega)).1 hm with g | g | ⟨j, g1, g2, g⟩
      · omega
      · unfold kR at g; omega
      · rcases g with g | g
        · unfold kR at g; omega
        · have : j = i := by unfold vR at g; omega
          subst this
          rw [hv] at g2; cases g2
/-- Dead ones. -/
theorem Wk.dead (hd : Nat → Bool) (h : Wk pk M ps) (i : Nat) (hi : i < M) : deadP (cM pk hd M ps) (kR i) = !hd i := by
  obtain ⟨x, _, hb⟩ := h.cbody hd (4 + 2 * i) (by omega)
  have := deadP_at (cM pk hd M ps) (4 + 2 * i) (by rw [h.clen]; omega)
  rw [show (((4 + 2 * i : Nat) : Int) + 1) = kR i by unfold kR; omega, hb, ((h.mks hd).2.2 i hi).1] at this
  simpa using this
theorem objP_sw (cs : List Cell) (i b : Nat) (hb : (cs.getD i (none, false)).1 = some (tObj, b)) : objP (swL cs) ((i : Int) + 1) = if (cs.getD i (none, false)).2 = true then .pointer (some ⟨b, 0, none⟩) else .pointer none := by
  have hi : i < cs.length := get_lt hb
  have e : (swL cs).getD i (none, false) = swC (cs.getD i (none, false)) := by
    simp only [swL, List.getD_eq_getElem?_getD, List.getElem?_map, List.getElem?_eq_getElem hi]; rfl
  unfold objP
  rw [if_pos ⟨by omega, by simp [swL]; omega⟩, show ((i : Int) + 1 - 1).toNat = i by omega, e]
  obtain ⟨c1, c2, hc⟩ : ∃ c1 c2, cs.getD i (none, false) = (c1, c2) := ⟨_, _, rfl⟩
  rw [hc] at hb ⊢
  dsimp only at hb
  subst hb
  cases c2 <;> simp [swC]
/-- Objects that are there. -/
theorem Wk.objX (hd : Nat → Bool) (h : Wk pk M ps) : ∃ b, objP (swL (cM pk hd M ps)) (kR M) = .pointer (some ⟨b, 0, none⟩) := by
  obtain ⟨x, _, hb⟩ := h.cbody hd (4 + 2 * M) (by omega)
  have := objP_sw _ _ _ hb
  rw [(h.mks hd).2.1, if_pos rfl, show (((4 + 2 * M : Nat) : Int) + 1) = kR M by unfold kR; omega] at this
  exact ⟨_, this⟩
theorem Wk.objV (hd : Nat → Bool) (h : Wk pk M ps) (i : Nat) (hi : i < M) : ∃ q, objP (swL (cM pk hd M ps)) (vR i) = .pointer q ∧ (q = none ↔ hd i = false) := by
  obtain ⟨x, _, hb⟩ := h.cbody hd (5 + 2 * i) (by omega)
  have := objP_sw _ _ _ hb
  rw [((h.mks hd).2.2 i hi).2, show (((5 + 2 * i : Nat) : Int) + 1) = vR i by unfold vR; omega] at this
  cases hv : hd i with
  | true => rw [hv, if_pos rfl] at this; exact ⟨_, this, by simp⟩
  | false => rw [hv] at this; exact ⟨none, by simpa using this, by simp⟩
/-- The weak table. -/
theorem Wk.wl (hd : Nat → Bool) (h : Wk pk M ps) (i : Nat) (hi : i < M) : (dropE (deadP (cM pk hd M ps)) (wlK M)).any (isKey (k3 (kR i))) = hd i := by
  have hk : ∀ j, (entK j).key.2.1 = kR j := fun j => by unfold entK; rw [norm_k3]; rfl
  cases hv : hd i with
  | true =>
    refine List.any_eq_true.2 ⟨entK i, List.mem_filter.2 ⟨List.mem_map.2 ⟨i, List.mem_range.2 hi, rfl⟩, ?_⟩, by rw [isKey_entK]; simp⟩
    rw [hk, h.dead hd i hi, hv]; rfl
  | false =>
    rw [List.any_eq_false]
    intro x hx
    obtain ⟨h1, h2⟩ := List.mem_filter.1 hx
    obtain ⟨j, hj, rfl⟩ := List.mem_map.1 h1
    rw [isKey_entK]
    by_cases e : j = i
    · subst e
      rw [hk, h.dead hd j hi, hv] at h2
      cases h2
    · simp [e]
theorem kyL_get (M i : Nat) (hi : i < M) : (kyL M).getD i 0 = kR i := by
  rw [List.getD_eq_getElem?_getD, kyL, List.getElem?_map, List.getElem?_range hi]; rfl
theorem ky2_get (M i : Nat) (hi : i < M) : (ky2 M).getD (2 * i) 0 = kR i ∧ (ky2 M).getD (2 * i + 1) 0 = kR i := by
  induction M with
  | zero => omega
  | succ M ih =>
    rw [ky2_succ]
    by_cases e : i = M
    · subst e
      constructor
      · rw [List.getD_eq_getElem?_getD, List.getElem?_append_right (by rw [ky2_len]; omega), ky2_len, Nat.sub_self]; rfl
      · rw [List.getD_eq_getElem?_getD, List.getElem?_append_right (by rw [ky2_len]; omega), ky2_len, show 2 * i + 1 - 2 * i = 1 by omega]; rfl
    · have := ih (by omega)
      rw [List.getD_eq_getElem?_getD, List.getD_eq_getElem?_getD] at *
      rw [List.getElem?_append_left (by rw [ky2_len]; omega), List.getElem?_append_left (by rw [ky2_len]; omega)]
      exact this
/-- The cells that are not held. -/
theorem Wk.f1 (hd : Nat → Bool) (h : Wk pk M ps) (i : Nat) (hi : i < M) : (clr 8 (deadP (cM pk hd M ps)) 0 (kyL M)).getD i 0 = if hd i then kR i else 0 := by
  rw [clr_get _ _ _ _ _ (by rw [kyL_len]; exact hi), kyL_get _ _ hi]
  unfold clrE
  rw [h.dead hd i hi]
  have : 0 < kR i := by unfold kR; omega
  cases hd i <;> simp [this]
theorem Wk.f2 (hd : Nat → Bool) (h : Wk pk M ps) (i : Nat) (hi : i < M) : (clr 9 (deadP (cM pk hd M ps)) 0 (ky2 M)).getD (2 * i) 0 = (if hd i then kR i else -1) ∧ (clr 9 (deadP (cM pk hd M ps)) 0 (ky2 M)).getD (2 * i + 1) 0 = (if hd i then kR i else 0) := by
  rw [clr_get _ _ _ _ _ (by rw [ky2_len]; omega), clr_get _ _ _ _ _ (by rw [ky2_len]; omega), (ky2_get M i hi).1, (ky2_get M i hi).2]
  unfold clrE
  rw [h.dead hd i hi]
  have : 0 < kR i := by unfold kR; omega
  have e1 : (0 + 2 * i) % 2 = 0 := by omega
  have e2 : ¬ (0 + (2 * i + 1)) % 2 = 0 := by omega
  rw [e1]
  simp only [e2]
  cases hd i <;> simp [this]
theorem gone_len (k : Nat) (l : List Cell) : (goneL k l).length = (l.filter goes).length := by
  induction l generalizing k with
  | nil => rfl
  | cons c l ih =>
    rw [goneL, List.filter_cons]
    split <;> simp [*]
theorem filter_one {α : Type} (G : α → Bool) (x : α) : List.filter G [x] = if G x = true then [x] else [] := by
  rw [List.filter_cons]; rfl
theorem cnt_G {G hd : Nat → Bool} {M : Nat} (h0 : ∀ i, i < 4 → G i = false) (h1 : ∀ i, i < M → G (4 + 2 * i) = !hd i ∧ G (5 + 2 * i) = !hd i) : ∀ k, k ≤ M → ((List.range (4 + 2 * k)).filter G).length + 2 * cH hd k = 2 * k := fun k => by
  induction k with
  | zero =>
    intro _
    rw [List.filter_eq_nil_iff.2 (fun i hi => by
      have := List.mem_range.1 hi
      rw [h0 i (by omega)]; decide)]
    rfl
  | succ k ih =>
    intro hk
    have := ih (by omega)
    obtain ⟨q1, q2⟩ := h1 k (by omega)
    rw [show 4 + 2 * (k + 1) = 4 + 2 * k + 1 + 1 by omega, List.range_succ, List.range_succ, List.filter_append, List.filter_append, cH_succ, filter_one, filter_one, show 4 + 2 * k + 1 = 5 + 2 * k by omega, q1, q2]
    cases hd k with
    | true => simp; omega
    | false => simp; omega
/-- How many are gone. -/
theorem Wk.live (hd : Nat → Bool) (h : Wk pk M ps) : ((4 + ps.length : Nat) : Int) - (goneL 0 (cM pk hd M ps)).length = ((4 + 2 * cH hd M + 1 : Nat) : Int) := by
  have hl := h.clen hd
  have e : cM pk hd M ps = (List.range (5 + 2 * M)).map (fun i => (cM pk hd M ps).getD i (none, false)) := by
    refine List.ext_getElem? fun i => ?_
    rw [List.getElem?_map]
    by_cases hi : i < 5 + 2 * M
    · rw [List.getElem?_range hi, List.getElem?_eq_getElem (by omega)]
      simp [List.getD_eq_getElem?_getD, List.getElem?_eq_getElem (show i < (cM pk hd M ps).length by omega)]
    · rw [List.getElem?_eq_none (by omega), List.getElem?_eq_none (by simp; omega)]; rfl
  have g : ∀ i, i < 5 + 2 * M → goes ((cM pk hd M ps).getD i (none, false)) = !((cM pk hd M ps).getD i (none, false)).2 := fun i hi => by
    obtain ⟨x, _, hb⟩ := h.cbody hd i hi
    obtain ⟨c1, c2, hc⟩ : ∃ c1 c2, (cM pk hd M ps).getD i (none, false) = (c1, c2) := ⟨_, _, rfl⟩
    rw [hc] at hb ⊢
    dsimp only at hb
    subst hb
    cases c2 <;> rfl
  obtain ⟨m0, m1, m2⟩ := h.mks hd
  have hc := cnt_G (G := fun i => goes ((cM pk hd M ps).getD i (none, false))) (hd := hd) (M := M) (fun i hi => by rw [g i (by omega), m0 i hi]; rfl) (fun i hi => ⟨by rw [g _ (by omega), (m2 i hi).1], by rw [g _ (by omega), (m2 i hi).2]⟩) M (Nat.le_refl _)
  have hfin : (goneL 0 (cM pk hd M ps)).length + 2 * cH hd M = 2 * M := by
    have e2 : (cM pk hd M ps).filter goes = ((List.range (5 + 2 * M)).filter (fun i => goes ((cM pk hd M ps).getD i (none, false)))).map (fun i => (cM pk hd M ps).getD i (none, false)) := by
      conv => lhs; rw [e]
      rw [List.filter_map]; rfl
    have g1 : (fun i => goes ((cM pk hd M ps).getD i (none, false))) (4 + 2 * M) = false := by
      show goes _ = false
      rw [g (4 + 2 * M) (by omega), m1]; rfl
    rw [gone_len, e2, List.length_map, show 5 + 2 * M = 4 + 2 * M + 1 by omega, List.range_succ, List.filter_append, List.length_append, filter_one, if_neg (by rw [show goes ((cM pk hd M ps).getD (4 + 2 * M) (none, false)) = false from g1]; decide)]
    exact hc
  have := h.len
  have := cH_le hd M
  omega
end
end Go.Proofs.YtmimnaaofpkndaaDoor.Hp

/- HeapWeak: Collect in the law's terms; the state behind it. -/
set_option linter.unusedVariables false
set_option linter.unusedSimpArgs false
namespace Go.Proofs.YtmimnaaofpkndaaDoor.Hp
open Go.RowKit Go.Proofs.YtmimnaaofpkndaaDoor Go.Shelf Go.Sort

theorem stg_wl {p : Int → Bool} {iw c d : Nat} {st : BS} (h : iw < d) : (stg p iw c d st).wl = dropE p st.wl := by simp [stg, h]
/-- Behind the collection. -/
structure AS (w1 : World) (pk : PK) (hd : Nat → Bool) (M : Nat) (rv vv : Value) (s : LS) (w : World) : Prop where
  ss : SS w1 s (5 + 2 * M) 2 w
  h : s.H = pk.H ∧ s.A = pk.A ∧ s.st.Tw = pk.Tw
  r : s.rv = rv ∧ s.rl = kyL M ∧ s.vv = vv ∧ s.vl = vlL M
  live : s.live = ((4 + 2 * cH hd M + 1 : Nat) : Int)
  o0 : s.st.obs[0]? = some ⟨pk.b0, 6, pk.T0, none, some pk.Tw, []⟩
  o1 : ∃ f, s.st.obs[1]? = some ⟨pk.b1, 8, pk.T1, none, none, f⟩ ∧ f.length = M ∧ ∀ i, i < M → f.getD i 0 = if hd i then kR i else 0
  o2 : ∃ f, s.st.obs[2]? = some ⟨pk.b2, 9, pk.T2, none, none, f⟩ ∧ f.length = 2 * M ∧ ∀ i, i < M → f.getD (2 * i) 0 = (if hd i then kR i else -1) ∧ f.getD (2 * i + 1) 0 = (if hd i then kR i else 0)
  cs : s.cs.length ≤ 100000000 ∧ (∀ i n, (s.cs.getD i (none, false)).1 = some n → n.1 = tObj ∨ n.1 = tEnv ∨ n.1 = tMark)
  x : ∃ b, objP s.cs (kR M) = .pointer (some ⟨b, 0, none⟩)
  v : ∀ i, i < M → ∃ q, objP s.cs (vR i) = .pointer q ∧ (q = none ↔ hd i = false)
  wl : ∀ i, i < M → s.st.wl.any (isKey (k3 (kR i))) = hd i
  wo : (∀ e ∈ s.st.wl, ObEnt e ∧ e.grave = false ∧ e.key.2.2.size ≤ 4000) ∧ s.st.wl.length ≤ 4000
section
variable {w1 w w' : World} {pk : PK} {hd : Nat → Bool} {M : Nat} {ps : List OI} {rv vv : Value} {s : LS}
theorem GS.collect (h : GS w1 pk ps (wlK M) [xE M] (kyL M) (ky2 M) ([1, 2, 3, 4] ++ hdL hd M) rv (kyL M) vv (vlL M) w) (hk : Wk pk M ps) :
    Calls Tryd.prog 27 #[.pointer (some ⟨pk.A, 0, none⟩), .nilFunc] w fun e w' => (∃ v, e = .returned v) ∧ ∃ s, Hid (AS w1 pk hd M rv vv s w') := by
  have h10 := hk.m10
  have hlen := hk.len
  have hcl := hk.clen hd
  have hM := hk.mks hd
  refine (SS.collect h lsG_len hk.ok rfl rfl (by rw [lsG_cs]; omega) (by show ([1, 2, 3, 4] ++ hdL hd M).length ≤ 100000; rw [List.length_append, hdL_len]; have := cH_le hd M; show 4 + cH hd M ≤ 100000; omega) (by show (0 : Int) ≤ ((4 + ps.length : Nat) : Int) ∧ ((4 + ps.length : Nat) : Int) ≤ 1000000000; omega) (cM pk hd M ps) rfl 0 (fun i x hx hm => ?_) (fun i x hx => (hk.wkI i x hx).1) (hM.1 0 (by decide))).mono ?_
  · by_cases hi : i < 4
    · rw [hM.1 i hi] at hm; cases hm
    · exact (hk.wkI i x hx).2.2.2.2.2 (by omega)
  rintro e w' ⟨hv, hs⟩
  refine ⟨hv, _, Lib.hid ⟨by rw [show 4 + ps.length = 5 + 2 * M by omega] at hs; exact hs, ⟨rfl, rfl, rfl⟩, ⟨rfl, rfl, rfl, rfl⟩, hk.live hd, ?_, ?_, ?_, ?_, ?_, ?_, ?_, ?_⟩⟩
  · show (setC _ _ _)[0]? = _
    rw [setC_get, hcl]
    show Option.map _ (some _) = _
    simp [clr]
  · refine ⟨clr 8 (deadP (cM pk hd M ps)) 0 (kyL M), ?_, by rw [clr_len, kyL_len], fun i hi => hk.f1 hd i hi⟩
    show (setC _ _ _)[1]? = _
    rw [setC_get, hcl]
    show Option.map _ (some _) = _
    simp [show 1 < 5 + 2 * M by omega]
  · refine ⟨clr 9 (deadP (cM pk hd M ps)) 0 (ky2 M), ?_, by rw [clr_len, ky2_len], fun i hi => hk.f2 hd i hi⟩
    show (setC _ _ _)[2]? = _
    rw [setC_get, hcl]
    show Option.map _ (some _) = _
    simp [show 2 < 5 + 2 * M by omega]
  · refine ⟨by show (swL (cM pk hd M ps)).length ≤ _; simp [swL]; omega, fun i n e => .inl ?_⟩
    by_cases hi : i < 5 + 2 * M
    · obtain ⟨x, _, hb⟩ := hk.cbody hd i hi
      have e2 : (swL (cM pk hd M ps)).getD i (none, false) = swC ((cM pk hd M ps).getD i (none, false)) := by
        simp only [swL, List.getD_eq_getElem?_getD, List.getElem?_map, List.getElem?_eq_getElem (show i < (cM pk hd M ps).length by omega)]; rfl
      rw [show (swL (cM pk hd M ps)).getD i (none, false) = _ from e2] at e
      obtain ⟨c1, c2, hc⟩ : ∃ c1 c2, (cM pk hd M ps).getD i (none, false) = (c1, c2) := ⟨_, _, rfl⟩
      rw [hc] at hb e
      dsimp only at hb
      subst hb
      cases c2 with
      | true => simp [swC] at e; rw [← e]
      | false => simp [swC] at e
    · rw [List.getD_eq_getElem?_getD, List.getElem?_eq_none (by show (swL (cM pk hd M ps)).length ≤ i; simp [swL]; omega)] at e
      cases e
  · exact hk.objX hd
  · exact fun i hi => hk.objV hd i hi
  · intro i hi
    show (stg _ _ _ _ _).wl.any _ = _
    rw [stg_wl (by rw [hcl]; omega)]
    exact hk.wl hd i hi
  · have ho := hk.ok
    show (∀ e ∈ (stg _ _ _ _ _).wl, _) ∧ (stg _ _ _ _ _).wl.length ≤ 4000
    rw [stg_wl (by rw [hcl]; omega)]
    refine ⟨fun e he => ho.wl e (List.mem_filter.1 he).1, ?_⟩
    have := List.length_filter_le (fun e => !deadP (cM pk hd M ps) e.key.2.1) (wlK M)
    rw [wlK_len] at this
    exact Nat.le_trans this (by omega)
theorem AS.below (h : AS w1 pk hd M rv vv s w) (b : Below w.heap.size w w') : AS w1 pk hd M rv vv s w' := { h with ss := h.ss.below b }
theorem AS.hb (h : AS w1 pk hd M rv vv s w) : Blk w pk.H 63 #[.pointer (some ⟨pk.A, 0, none⟩), .int .i64 0] := by
  obtain ⟨cv, fv, rv', hx, _⟩ := SS.heap h.ss
  have := hx.hb
  rwa [h.h.1, h.h.2.1] at this
theorem AS.count (h : AS w1 pk hd M rv vv s w) : Calls Tryd.prog 23 #[.pointer (some ⟨pk.A, 0, none⟩)] w fun e w' => e = .returned (.int .i64 ((4 + 2 * cH hd M + 1 : Nat) : Int)) ∧ w = w' := by
  obtain ⟨cv, fv, rv', hx, _⟩ := SS.heap h.ss
  have := count_any hx.ar
  rw [h.h.2.1, h.live] at this
  exact this
theorem AS.obj (h : AS w1 pk hd M rv vv s w) (r : Int) : Calls Tryd.prog 11 #[.pointer (some ⟨pk.H, 0, none⟩), .int .i64 r] w fun e w' => e = .returned (objP s.cs r) ∧ Below w.heap.size w w' := by
  obtain ⟨cv, fv, rv', hx, _⟩ := SS.heap h.ss
  rw [← h.h.1]
  refine (obj_any r hx h.cs.1 h.cs.2).mono ?_
  rintro e w' ⟨he, q, rfl⟩
  exact ⟨he, below_drw (Below.refl _ _) q⟩
theorem AS.b0 (h : AS w1 pk hd M rv vv s w) : ∃ fv, Blk w pk.b0 51 (obC ⟨pk.b0, 6, pk.T0, none, some pk.Tw, []⟩ fv) := by
  obtain ⟨fv, h1, _⟩ := SS.obj h.ss h.o0 (by omega)
  exact ⟨fv, h1⟩
theorem AS.b1 (h : AS w1 pk hd M rv vv s w) : ∃ f fv, Blk w pk.b1 51 (obC ⟨pk.b1, 8, pk.T1, none, none, f⟩ fv) ∧ w.ownsRow 0 3 1 fv M (numCells f) ∧ f.length = M ∧ ∀ i, i < M → f.getD i 0 = if hd i then kR i else 0 := by
  obtain ⟨f, h1, h2, h3⟩ := h.o1
  obtain ⟨fv, q1, q2, _⟩ := SS.obj h.ss h1 (by omega)
  exact ⟨f, fv, q1, by dsimp only at q2; rw [h2] at q2; exact q2, h2, h3⟩
theorem AS.b2 (h : AS w1 pk hd M rv vv s w) : ∃ f fv, Blk w pk.b2 51 (obC ⟨pk.b2, 9, pk.T2, none, none, f⟩ fv) ∧ w.ownsRow 0 3 1 fv (2 * M) (numCells f) ∧ f.length = 2 * M ∧ ∀ i, i < M → f.getD (2 * i) 0 = (if hd i then kR i else -1) ∧ f.getD (2 * i + 1) 0 = (if hd i then kR i else 0) := by
  obtain ⟨f, h1, h2, h3⟩ := h.o2
  obtain ⟨fv, q1, q2, _⟩ := SS.obj h.ss h1 (by omega)
  exact ⟨f, fv, q1, by dsimp only at q2; rw [h2] at q2; exact q2, h2, h3⟩
theorem AS.refs (h : AS w1 pk hd M rv vv s w) : w.ownsRow 0 3 1 rv M (numCells (kyL M)) ∧ w.ownsRow 0 3 1 vv M (numCells (vlL M)) := by
  have h1 := (SS.refs h.ss).1
  have h2 := (SS.vals h.ss).1
  rw [h.r.1, h.r.2.1, kyL_len] at h1
  rw [h.r.2.2.1, h.r.2.2.2, vlL_len] at h2
  exact ⟨h1, h2⟩
theorem AS.get (h : AS w1 pk hd M rv vv s w) (i : Nat) (hi : i < M) : Calls Tryd.prog 30 #[.pointer (some ⟨pk.Tw, 0, none⟩), VK (k3 (kR i))] w fun e w' => Below w.heap.size w w' ∧ ∃ v f, e = .returned (.tuple #[VK v, .int .i64 f, .bool (hd i)]) := by
  have := SS.get h.ss (by decide) (k3 (kR i)) (by show (0 : Nat) ≤ 4000; decide)
  rw [h.h.2.2, h.wl i hi] at this
  exact this
/-- Drop of all. -/
theorem AS.drop (h : AS w1 pk hd M rv vv s w) : Calls Tryd.prog 31 #[.pointer (some ⟨pk.b0, 0, none⟩), every_V] w fun e w' => (∃ v, e = .returned v) ∧ (∃ O, TabA w' pk.Tw [] [] O) ∧ (∃ fv, Blk w' pk.b0 51 (obC ⟨pk.b0, 6, pk.T0, none, some pk.Tw, []⟩ fv)) ∧ Below w1.heap.size w1 w' := by
  obtain ⟨⟨own, hs, ho⟩, hb⟩ := h.ss
  have hl0 : lL (5 + 2 * M) 2 (0, 0) := show 0 < 5 + 2 * M by omega
  have hl2 : lL (5 + 2 * M) 2 (2, 0) := ⟨rfl, by decide⟩
  obtain ⟨x, fv, h1, h2, _, h4⟩ := hs.holds (0, 0) hl0
  dsimp only at h1
  rw [h.o0] at h1
  cases h1
  have hT : TabA w s.st.Tw s.st.wl [] (own (2, 0)) := (hs.holds (2, 0) hl2).1
  rw [h.h.2.2] at hT
  have hno : ¬ own (2, 0) pk.b0 := fun e => hs.sep (0, 0) (2, 0) hl0 hl2 (by simp) pk.b0 ((h4 _).2 (.inl rfl)) e
  refine (drop_every (fun _ => true) pk.b0 pk.T0 pk.Tw 6 _ fv s.st.wl (own (2, 0)) w h2 hT hno h.wo.1 h.wo.2 (fun W k _ => ?_)).mono ?_
  · go_enter Tryd.func32, Tryd.ntmps32
    go_wp2
    go_ret
    exact ⟨rfl, Below.refl _ _⟩
  rintro e w' ⟨hv, O', hT', _, u⟩
  have e0 : dropE (fun _ => true) s.st.wl = [] := by simp [dropE]
  rw [e0] at hT'
  exact ⟨hv, ⟨O', hT'⟩, ⟨fv, u.blk h2 hno⟩, hb.trans (u.below hb.size (ho (2, 0) hl2))⟩
end
end Go.Proofs.YtmimnaaofpkndaaDoor.Hp
