/- HrB: several texts in one. -/
import Derived.Test.YtmimnaaofpkndaaDoorHpL
/- HeapRuns: objects purely: what Own, Define, Delete, Keys and Freeze come to; an object in memory. -/
set_option linter.unusedVariables false
set_option linter.unusedSimpArgs false
namespace Go.Proofs.YtmimnaaofpkndaaDoor.Hp
open Go.RowKit Go.Proofs.YtmimnaaofpkndaaDoor Go.Shelf
/-- An object: an array? closed? its prototype, its properties, its elements. -/
structure PO where
  arr : Bool
  clo : Bool
  pr : Nat
  A : List Ent
  L : List K3
abbrev z3 : K3 := (0, 0, ⟨#[]⟩)
def plcV (k : K3) : Int := if k.1 = 7 then Tx.indexOf k.2.2 else -1
def getA (A : List Ent) (k : K3) : K3 × Int × Bool := match A.find? (isKey k) with
  | some x => (x.val, x.flags, true)
  | none => (z3, 0, false)
def PO.own (o : PO) (k : K3) : K3 × Int × Bool :=
  if o.arr = true then
    if 0 ≤ plcV k then
      match o.L[(plcV k).toNat]? with
      | some x => if x.1 = 10 then (z3, 0, false) else (x, if o.clo then 2 else 7, true)
      | none => (z3, 0, false)
    else if k = lenK then ((3, (o.L.length : Int), ⟨#[]⟩), if o.clo then 0 else 1, true)
    else getA o.A k
  else getA o.A k
def refuse (was f : Int) : Bool := (bits .and .i64 was 4 == 0) && ((bits .and .i64 was 1 == 0) || (bits .andNot .i64 f 1 != bits .andNot .i64 was 1))
def PO.def1 (o : PO) (k v : K3) (f : Int) : Bool × PO :=
  if ((!(o.own k).2.2) && o.clo) || ((o.own k).2.2 && refuse (o.own k).2.1 f) then (false, o)
  else if o.arr = true then
    if 0 ≤ plcV k then
      if f = 7 then (true, { o with L := (o.L ++ List.replicate ((plcV k).toNat + 1 - o.L.length) E0).set (plcV k).toNat v }) else (false, o)
    else if k = lenK then
      if f = 1 ∧ v.1 = 3 ∧ 0 ≤ v.2.1 ∧ v.2.1 ≤ 1000 then (true, { o with L := (o.L ++ List.replicate (v.2.1.toNat - o.L.length) E0).take v.2.1.toNat }) else (false, o)
    else (true, { o with A := putA k v f o.A })
  else (true, { o with A := putA k v f o.A })
def PO.del1 (o : PO) (k : K3) : Bool × PO :=
  if (o.own k).2.2 = false then (true, o)
  else if bits .and .i64 (o.own k).2.1 4 == 0 then (false, o)
  else if o.arr = true ∧ 0 ≤ plcV k then (true, { o with L := o.L.set (plcV k).toNat E0 })
  else (true, { o with A := delA k o.A })
/-- The places of an array that are not empty. -/
def plcL (L : List K3) : List K3 := ((List.range L.length).filter (fun i => decide ((L.getD i E0).1 ≠ 10))).map keyD
/-- The places among the keys, rising. -/
def plcA (A : List Ent) : List K3 := ((List.range 1000).filter (fun i => A.any (isKey (keyD i)))).map keyD
def txtA (arr : Bool) (A : List Ent) : List K3 := (A.filter (fun x => decide (x.key.1 = 7) && (arr || decide (plcV x.key < 0)))).map (·.key)
def symA (A : List Ent) : List K3 := (A.filter (fun x => decide (x.key.1 = 8))).map (·.key)
def PO.keys (o : PO) : List K3 :=
  if o.arr = true then plcL o.L ++ txtA true o.A ++ [lenK] ++ symA o.A else plcA o.A ++ txtA false o.A ++ symA o.A
def frzE (x : Ent) : Ent := { x with flags := bits .andNot .i64 x.flags 5 }
def PO.freeze (o : PO) : PO := { o with clo := true, A := o.A.map frzE }
/-- The law's keys. -/
def keyOf (j : Nat) : K3 :=
  if j < 8 then (8, 1000 + (j : Int), ⟨#[]⟩) else if j = 8 then keyL [97] else if j = 9 then keyL [98] else if j = 10 then keyL [48, 49] else if j = 11 then keyL [120, 32, 121]
  else if j = 12 then keyD 0 else if j = 13 then keyD 1 else if j = 14 then keyD 2 else if j = 15 then keyD 3 else if j = 16 then keyD 5 else if j = 17 then keyD 7 else if j = 18 then keyD 12 else lenK
def KS (k : K3) : Prop := ∃ j, j < 20 ∧ k = keyOf j
/-- What holds of the law's objects. -/
structure PO.Ok (o : PO) : Prop where
  ks : ∀ x ∈ o.A, KS x.key ∧ x.grave = false ∧ 0 ≤ x.flags ∧ x.flags < 16
  nd : o.A.Pairwise (fun x y => x.key ≠ y.key)
  ar : o.arr = true → ∀ x ∈ o.A, plcV x.key < 0 ∧ x.key ≠ lenK
  pl : o.arr = false → o.L = []
  le : o.L.length ≤ 40
/-- An object in memory. -/
abbrev clV (o : PO) : Int := if o.arr = true then 1 else 0
abbrev atV (o : PO) : Int := if o.arr = true ∧ o.clo = true then 1 else 0
structure LieO (o : PO) (b T : Nat) (lv : Value) (Ot : Nat → Prop) (w : World) : Prop where
  ob : Blk w b 51 (objA (clV o) (o.pr : Int) o.clo T lv nilP nilP nilS (atV o))
  row : w.ownsRow 1 34 3 lv o.L.length (valsC o.L)
  tab : TabA w T o.A [] Ot
  nb : ¬ Ot b
  nl : ∀ g, lv.ownBlock = some g → ¬ Ot g
  lt : ∀ k, Ot k → k < w.heap.size
/-- All its blocks. -/
def ioB (b : Nat) (lv : Value) (Ot : Nat → Prop) (k : Nat) : Prop := k = b ∨ lv.ownBlock = some k ∨ Ot k
section
variable {o : PO} {b T : Nat} {lv : Value} {Ot : Nat → Prop} {w w' : World}
theorem LieO.upd {M : Nat → Prop} (h : LieO o b T lv Ot w) (u : Upd w w' M) (hM : ∀ k, ioB b lv Ot k → ¬ M k) : LieO o b T lv Ot w' :=
  ⟨u.blk h.ob (hM b (.inl rfl)), u.own h.row (fun g e => hM g (.inr (.inl e))), h.tab.upd u (fun k hk => hM k (.inr (.inr hk))), h.nb, h.nl, fun k hk => Nat.lt_of_lt_of_le (h.lt k hk) u.size⟩
theorem LieO.below (h : LieO o b T lv Ot w) (u : Below w.heap.size w w') : LieO o b T lv Ot w' := h.upd (M := fun _ => False) (Upd.of_below_all u) (fun _ _ e => e)
theorem LieO.far (h : LieO o b T lv Ot w) : lv.ownBlock ≠ some b := own_blk_ne h.row h.ob (by decide)
theorem LieO.all_lt (h : LieO o b T lv Ot w) (k : Nat) (hk : ioB b lv Ot k) : k < w.heap.size := by
  rcases hk with rfl | hk | hk
  · exact h.ob.lt
  · exact (h.row.lt k hk).2
  · exact h.lt k hk
end
/-- What a call leaves of an object: its blocks are the elder ones or new. -/
structure Left (o : PO) (b T : Nat) (lv : Value) (Ot : Nat → Prop) (w : World) (o' : PO) (w' : World) : Prop where
  up : Upd w w' (ioB b lv Ot)
  ex : ∃ lv' Ot', LieO o' b T lv' Ot' w' ∧ (∀ k, ioB b lv' Ot' k → ioB b lv Ot k ∨ w.heap.size ≤ k)
theorem Left.same {o : PO} {b T : Nat} {lv : Value} {Ot : Nat → Prop} {w w' : World} (h : LieO o b T lv Ot w) (u : Below w.heap.size w w') : Left o b T lv Ot w o w' :=
  ⟨(Upd.of_below_all (M := fun _ => False) u).mono (fun k _ hk => False.elim hk), lv, Ot, h.below u, fun k hk => .inl hk⟩
/-- A call of the object's table. -/
theorem LieO.tabbed {o : PO} {b T : Nat} {lv : Value} {Ot : Nat → Prop} {w E W : World} {A' : List Ent} (h : LieO o b T lv Ot E) (hT : TabA W T A' [] (Og Ot E W)) (u : Upd E W Ot) (hb : Below w.heap.size w E) : Left o b T lv Ot w { o with A := A' } W := by
  refine ⟨((Upd.of_below_all (M := ioB b lv Ot) hb).trans (u.mono (fun k _ hk => .inr (.inr hk)))), lv, Og Ot E W, ⟨u.blk h.ob h.nb, u.own h.row h.nl, hT, ?_, ?_, ?_⟩, ?_⟩
  · rintro (e | e)
    · exact h.nb e
    · have := h.ob.lt; omega
  · rintro g hg (e | e)
    · exact h.nl g hg e
    · have := (h.row.lt g hg).2; omega
  · rintro k (e | e)
    · exact Nat.lt_of_lt_of_le (h.lt k e) u.size
    · exact e.2
  · rintro k (e | e | e | e)
    · exact .inl (.inl e)
    · exact .inl (.inr (.inl e))
    · exact .inl (.inr (.inr e))
    · exact .inr (Nat.le_trans hb.size e.1)
end Go.Proofs.YtmimnaaofpkndaaDoor.Hp

/- HeapRuns: the law's keys. -/
set_option linter.unusedVariables false
set_option linter.unusedSimpArgs false
namespace Go.Proofs.YtmimnaaofpkndaaDoor.Hp
open Go.RowKit Go.Proofs.YtmimnaaofpkndaaDoor Go.Shelf
theorem plcV_keyL (l : List UInt8) (h : ∀ c, c ∈ l → c.toNat < 128) : plcV (keyL l) = Tx.idxL (l.map (·.toNat)) := by
  exact (if_pos rfl).trans (keyL_idx l h)
theorem plcV_keyD (i : Nat) (hi : i < 1000) : plcV (keyD i) = (i : Int) := by
  have h := keyD_idx i hi
  unfold idxV at h
  rw [if_pos ⟨rfl, rfl⟩] at h
  exact (if_pos rfl).trans h
theorem idx_arr (k : K3) : idxV 1 k = plcV k := by
  unfold idxV plcV
  simp
theorem idx_pl (k : K3) : idxV 0 k = -1 := by
  unfold idxV
  rw [if_neg (by simp)]
theorem plcV_sym (n : Int) : plcV (8, n, ⟨#[]⟩) = -1 := if_neg (by simp)
theorem lenK_plc : plcV lenK = -1 := by rw [← idx_arr]; exact lenK_idx
theorem ite_p {α : Type} {P : α → Prop} {c : Prop} [Decidable c] {x y : α} (hx : P x) (hy : P y) : P (if c then x else y) := by
  split
  · exact hx
  · exact hy
theorem ks_cases {P : K3 → Prop} (h1 : ∀ j : Nat, j < 8 → P (8, 1000 + (j : Int), ⟨#[]⟩)) (ha : P (keyL [97])) (hb : P (keyL [98])) (hc : P (keyL [48, 49])) (hd : P (keyL [120, 32, 121])) (h2 : ∀ i, i < 13 → P (keyD i)) (hl : P lenK) {k : K3} (h : KS k) : P k := by
  obtain ⟨j, hj, e⟩ := h
  rw [e, keyOf]
  clear e
  by_cases h : j < 8
  · rw [if_pos h]; exact h1 j h
  · rw [if_neg h]
    refine ite_p (ha) (ite_p (hb) (ite_p (hc) (ite_p (hd) (ite_p (h2 0 (by decide)) (ite_p (h2 1 (by decide)) (ite_p (h2 2 (by decide)) (ite_p (h2 3 (by decide)) (ite_p (h2 5 (by decide)) (ite_p (h2 7 (by decide)) (ite_p (h2 12 (by decide)) (hl)))))))))))
theorem ks_size {k : K3} (h : KS k) : k.2.2.size ≤ 4000 := by
  refine ks_cases (P := fun k => k.2.2.size ≤ 4000) ?_ ?_ ?_ ?_ ?_ ?_ ?_ h
  · intro j _; exact Nat.zero_le _
  · exact keyL_size _ (by decide) (by decide)
  · exact keyL_size _ (by decide) (by decide)
  · exact keyL_size _ (by decide) (by decide)
  · exact keyL_size _ (by decide) (by decide)
  · exact fun i hi => keyD_size i (by omega)
  · rw [← keyL_len]; exact keyL_size _ (by decide) (by decide)
theorem ks_kind {k : K3} (h : KS k) : k.1 = 7 ∨ k.1 = 8 :=
  ks_cases (P := fun k => k.1 = 7 ∨ k.1 = 8) (fun _ _ => .inr rfl) (.inl rfl) (.inl rfl) (.inl rfl) (.inl rfl) (fun _ _ => .inl rfl) (.inl rfl) h
theorem ks_norm {k : K3} (h : KS k) : norm k = k := by
  obtain ⟨a, b, c⟩ := k
  have h1 := ks_kind h
  dsimp only at h1
  have h6 : (a == 6) = false := by rcases h1 with rfl | rfl <;> rfl
  unfold norm kK kN kS
  simp [h6]
theorem ks_plc {k : K3} (h : KS k) : plcV k = -1 ∨ ∃ i, i < 13 ∧ k = keyD i ∧ plcV k = (i : Int) := by
  refine ks_cases (P := fun k => plcV k = -1 ∨ ∃ i, i < 13 ∧ k = keyD i ∧ plcV k = (i : Int)) ?_ ?_ ?_ ?_ ?_ ?_ ?_ h
  · intro j _; left; exact plcV_sym _
  · left; rw [plcV_keyL _ (by decide)]; decide
  · left; rw [plcV_keyL _ (by decide)]; decide
  · left; rw [plcV_keyL _ (by decide)]; decide
  · left; rw [plcV_keyL _ (by decide)]; decide
  · exact fun i hi => .inr ⟨i, hi, rfl, plcV_keyD i (by omega)⟩
  · left; exact lenK_plc
/-- Keys that are not the length. -/
theorem ks_other {k : K3} (h : KS k) (hn : k ≠ lenK) : k.1 = 8 ∨ (k.1 = 7 ∧ k.2.1 = 0 ∧ k.2.2.toList ≠ lenK.2.2.toList) := by
  have h7 : ∀ k : K3, k.1 = 7 → k.2.1 = 0 → k ≠ lenK → k.2.2.toList ≠ lenK.2.2.toList := fun k h1 h2 hn e => hn (by
    obtain ⟨a, b, c⟩ := k
    dsimp only at h1 h2 e
    subst h1 h2
    have : c = lenK.2.2 := ba_ext e
    rw [this]; rfl)
  have h0 : k.1 = 8 ∨ (k.1 = 7 ∧ k.2.1 = 0) := ks_cases (P := fun k => k.1 = 8 ∨ (k.1 = 7 ∧ k.2.1 = 0)) (fun _ _ => .inl rfl) (.inr ⟨rfl, rfl⟩) (.inr ⟨rfl, rfl⟩) (.inr ⟨rfl, rfl⟩) (.inr ⟨rfl, rfl⟩) (fun _ _ => .inr ⟨rfl, rfl⟩) (.inr ⟨rfl, rfl⟩) h
  exact h0.imp id (fun e => ⟨e.1, e.2, h7 k e.1 e.2 hn⟩)
theorem ks_isKey {k : K3} {x : Ent} (hk : KS k) (hx : KS x.key) (hg : x.grave = false) : isKey k x = decide (x.key = k) := by
  unfold isKey
  rw [hg, ks_norm hk, ks_norm hx]
  rfl
/-- What a look-up in an object's table finds. -/
theorem getA_none {A : List Ent} {k : K3} (h : ∀ x ∈ A, isKey k x = false) : getA A k = (z3, 0, false) := by
  unfold getA
  rw [List.find?_eq_none.2 (fun x hx => by rw [h x hx]; decide)]
theorem getA_some {o : PO} (h : o.Ok) {k : K3} {x : Ent} (hx : x ∈ o.A) (hk : isKey k x = true) : getA o.A k = (x.val, x.flags, true) := by
  unfold getA
  cases hf : o.A.find? (isKey k) with
  | none => exact absurd hk (by rw [List.find?_eq_none] at hf; simpa using hf x hx)
  | some y =>
    have hy := List.mem_of_find?_eq_some hf
    have hyk := List.find?_some hf
    have h1 : norm x.key = norm k ∧ x.grave = false := by unfold isKey at hk; simpa [and_comm] using hk
    have h2 : norm y.key = norm k ∧ y.grave = false := by unfold isKey at hyk; simpa [and_comm] using hyk
    rw [ks_norm (h.ks x hx).1] at h1
    rw [ks_norm (h.ks y hy).1] at h2
    have he : x.key = y.key := h1.1.trans h2.1.symm
    have hxy : x = y := by
      have hn := h.nd
      obtain ⟨i, hi, rfl⟩ := List.mem_iff_getElem.1 hx
      obtain ⟨j, hj, rfl⟩ := List.mem_iff_getElem.1 hy
      rw [List.pairwise_iff_getElem] at hn
      rcases Nat.lt_trichotomy i j with e | e | e
      · exact absurd he (hn i j hi hj e)
      · subst e; rfl
      · exact absurd he.symm (hn j i hj hi e)
    rw [hxy]
end Go.Proofs.YtmimnaaofpkndaaDoor.Hp
