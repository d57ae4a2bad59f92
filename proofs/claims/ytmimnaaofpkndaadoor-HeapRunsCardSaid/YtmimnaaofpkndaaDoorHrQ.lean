/- HrQ: several texts in one. -/
import Derived.Test.YtmimnaaofpkndaaDoorHsQ
/- HeapRuns: what holds of the law's objects stays: Define, Delete, Freeze. -/
set_option linter.unusedVariables false
set_option linter.unusedSimpArgs false
namespace Go.Proofs.YtmimnaaofpkndaaDoor.Hp
open Go.RowKit Go.Proofs.YtmimnaaofpkndaaDoor Go.Shelf
theorem PO.Ok.els {o : PO} (h : o.Ok) {L : List K3} (ha : o.arr = true) (hL : L.length ≤ 40) : PO.Ok { o with L := L } :=
  ⟨h.ks, h.nd, h.ar, fun e => (by have e2 : o.arr = false := e; rw [ha] at e2; cases e2), hL⟩
theorem PO.Ok.put {o : PO} (h : o.Ok) {k v : K3} {f : Int} (hk : KS k) (h0 : 0 ≤ f) (h1 : f < 16) (hc : o.arr = true → plcV k < 0 ∧ k ≠ lenK) : PO.Ok { o with A := putA k v f o.A } := by
  rcases getA_fnd h hk with ⟨hf, -⟩ | ⟨i, x, hx, hxk, -, -⟩
  · rw [putA_none h hk hf]
    refine ⟨fun x hx => ?_, ?_, fun ha x hx => ?_, h.pl, h.le⟩
    · rcases List.mem_append.1 hx with hx | hx
      · exact h.ks x hx
      · rw [List.mem_singleton.1 hx]; exact ⟨hk, rfl, h0, h1⟩
    · refine List.pairwise_append.2 ⟨h.nd, List.pairwise_singleton _ _, fun a ha b hb => ?_⟩
      rw [List.mem_singleton.1 hb]
      intro e
      unfold fnd fndI at hf
      cases hx2 : o.A.findIdx? (fun x => decide (x.key = k)) with
      | none =>
        rw [List.findIdx?_eq_none_iff] at hx2
        have := hx2 a ha
        rw [e] at this
        simp at this
      | some i => rw [hx2] at hf; dsimp only at hf; omega
    · rcases List.mem_append.1 hx with hx | hx
      · exact h.ar ha x hx
      · rw [List.mem_singleton.1 hx]; exact hc ha
  · rw [putA_some h hk hx hxk]
    have hi := (List.getElem?_eq_some_iff.1 hx).1
    have hxe := (List.getElem?_eq_some_iff.1 hx).2
    have hm : x ∈ o.A := hxe ▸ List.getElem_mem hi
    have hset : ∀ y ∈ o.A.set i { x with val := v, flags := f }, y ∈ o.A ∨ y = { x with val := v, flags := f } := fun y hy => List.mem_or_eq_of_mem_set hy
    refine ⟨fun y hy => ?_, ?_, fun ha y hy => ?_, h.pl, h.le⟩
    · rcases hset y hy with e | e
      · exact h.ks y e
      · rw [e]; exact ⟨(h.ks x hm).1, (h.ks x hm).2.1, h0, h1⟩
    · have hmap : (o.A.set i { x with val := v, flags := f }).map (·.key) = o.A.map (·.key) := by
        apply List.ext_getElem
        · simp
        · intro j h3 h4
          rw [List.getElem_map, List.getElem_map, List.getElem_set]
          by_cases e : i = j
          · subst e; rw [if_pos rfl, hxe]
          · rw [if_neg e]
      have h2 : (o.A.map (·.key)).Pairwise (· ≠ ·) := List.pairwise_map.2 h.nd
      rw [← hmap] at h2
      exact List.pairwise_map.1 h2
    · rcases hset y hy with e | e
      · exact h.ar ha y e
      · rw [e]; exact h.ar ha x hm
theorem PO.Ok.def1 {o : PO} (h : o.Ok) {k v : K3} {f : Int} (hk : KS k) (h0 : 0 ≤ f) (h1 : f < 16) (hv : v.2.1 ≤ 40) : (o.def1 k v f).2.Ok := by
  unfold PO.def1
  split
  · exact h
  · split
    · rename_i ha
      rcases ks_plc hk with hp | ⟨i, hi, -, hp⟩
      · rw [if_neg (by omega)]
        split
        · split
          · exact h.els ha (by rw [List.length_take]; omega)
          · exact h
        · rename_i hl
          exact h.put hk h0 h1 (fun _ => ⟨by omega, hl⟩)
      · rw [if_pos (by omega)]
        split
        · exact h.els ha (by rw [List.length_set, List.length_append, List.length_replicate]; have := h.le; omega)
        · exact h
    · rename_i ha
      exact h.put hk h0 h1 (fun e => absurd e ha)
theorem PO.Ok.del1 {o : PO} (h : o.Ok) {k : K3} (hk : KS k) : (o.del1 k).2.Ok := by
  unfold PO.del1
  split
  · exact h
  · split
    · exact h
    · split
      · rename_i ha
        exact h.els ha.1 (by rw [List.length_set]; exact h.le)
      · have hm : ∀ x ∈ delA k o.A, x ∈ o.A := fun x hx => (List.mem_filter.1 hx).1
        exact ⟨fun x hx => h.ks x (hm x hx), h.nd.filter _, fun ha x hx => h.ar ha x (hm x hx), h.pl, h.le⟩
theorem PO.Ok.freeze {o : PO} (h : o.Ok) : o.freeze.Ok := by
  refine ⟨fun x hx => ?_, ?_, fun ha x hx => ?_, h.pl, h.le⟩
  · obtain ⟨y, hy, rfl⟩ := List.mem_map.1 hx
    obtain ⟨h1, h2, h3, h4⟩ := h.ks y hy
    have hall : ((List.range 16).all fun a => decide (0 ≤ bits .andNot .i64 (a : Int) 5) && decide (bits .andNot .i64 (a : Int) 5 < 16)) = true := by kernel_rfl
    rw [List.all_eq_true] at hall
    have h5 := hall y.flags.toNat (List.mem_range.2 (by omega))
    rw [show ((y.flags.toNat : Nat) : Int) = y.flags by omega, Bool.and_eq_true, decide_eq_true_eq, decide_eq_true_eq] at h5
    exact ⟨h1, h2, h5⟩
  · exact List.pairwise_map.2 h.nd
  · obtain ⟨y, hy, rfl⟩ := List.mem_map.1 hx
    exact h.ar ha y hy
/-- Properties come one a call. -/
theorem def1_len (o : PO) (k v : K3) (f : Int) : (o.def1 k v f).2.A.length ≤ o.A.length + 1 := by
  have hp : (putA k v f o.A).length ≤ o.A.length + 1 := by
    unfold putA
    split
    · rw [List.length_map]; omega
    · rw [List.length_append]; exact Nat.le_refl _
  unfold PO.def1
  repeat' split
  all_goals first | exact Nat.le_succ _ | exact hp
theorem del1_len (o : PO) (k : K3) : (o.del1 k).2.A.length ≤ o.A.length := by
  unfold PO.del1
  repeat' split
  all_goals first | exact Nat.le_refl _ | exact List.length_filter_le _ _
end Go.Proofs.YtmimnaaofpkndaaDoor.Hp

/- HeapRuns: chains of prototypes, purely. -/
set_option linter.unusedVariables false
set_option linter.unusedSimpArgs false
namespace Go.Proofs.YtmimnaaofpkndaaDoor.Hp
open Go.RowKit Go.Proofs.YtmimnaaofpkndaaDoor Go.Shelf
/-- The chain from a cell on: the places of its objects. -/
def Chn (os : List PO) : Nat → List Nat → Prop
  | r, [] => r = 0
  | r, i :: l => r = i + 1 ∧ ∃ o, os[i]? = some o ∧ Chn os o.pr l
theorem Chn.det {os : List PO} : ∀ {l l' : List Nat} {r : Nat}, Chn os r l → Chn os r l' → l = l'
  | [], [], _, _, _ => rfl
  | [], j :: l', r, h, h' => by
    have h1 : r = 0 := h
    have h2 := h'.1
    omega
  | i :: l, [], r, h, h' => by
    have h1 : r = 0 := h'
    have h2 := h.1
    omega
  | i :: l, j :: l', r, h, h' => by
    obtain ⟨h1, o, h2, h3⟩ := h
    obtain ⟨h1', o', h2', h3'⟩ := h'
    obtain rfl : i = j := by omega
    rw [h2] at h2'
    cases h2'
    rw [Chn.det h3 h3']
/-- What stands behind a place of a chain is that place's own chain. -/
theorem Chn.mem {os : List PO} {j : Nat} : ∀ {l : List Nat} {r : Nat}, Chn os r l → j ∈ l → ∃ m, Chn os (j + 1) m ∧ m.length ≤ l.length
  | i :: l, r, h, hj => by
    rcases List.mem_cons.1 hj with e | e
    · subst e
      exact ⟨j :: l, ⟨rfl, h.2⟩, Nat.le_refl _⟩
    · obtain ⟨o, _, h3⟩ := h.2
      obtain ⟨m, h4, h5⟩ := Chn.mem h3 e
      exact ⟨m, h4, Nat.le_trans h5 (Nat.le_succ _)⟩
theorem Chn.nodup {os : List PO} : ∀ {l : List Nat} {r : Nat}, Chn os r l → l.Nodup
  | [], _, _ => List.nodup_nil
  | i :: l, r, h => by
    obtain ⟨h1, o, h2, h3⟩ := h
    refine List.nodup_cons.2 ⟨fun hi => ?_, Chn.nodup h3⟩
    obtain ⟨m, h4, h5⟩ := Chn.mem h3 hi
    have := Chn.det h4 (show Chn os (i + 1) (i :: l) from ⟨rfl, o, h2, h3⟩)
    rw [this, List.length_cons] at h5
    omega
theorem Chn.lt {os : List PO} : ∀ {l : List Nat} {r : Nat}, Chn os r l → ∀ i ∈ l, i < os.length
  | i :: l, r, h, j, hj => by
    obtain ⟨h1, o, h2, h3⟩ := h
    rcases List.mem_cons.1 hj with e | e
    · subst e; exact (List.getElem?_eq_some_iff.1 h2).1
    · exact Chn.lt h3 j e
theorem nodup_len : ∀ {n : Nat} {l : List Nat}, l.Nodup → (∀ i ∈ l, i < n) → l.length ≤ n
  | 0, [], _, _ => Nat.le_refl _
  | 0, i :: l, _, h => absurd (h i List.mem_cons_self) (Nat.not_lt_zero _)
  | n + 1, l, hd, h => by
    by_cases hn : n ∈ l
    · have h1 := nodup_len (n := n) (hd.erase n) (fun i hi => by
        have h2 := (hd.mem_erase_iff).1 hi
        have := h i h2.2
        have := h2.1
        omega)
      rw [List.length_erase_of_mem hn] at h1
      omega
    · exact Nat.le_succ_of_le (nodup_len hd (fun i hi => by
        have := h i hi
        have h3 : i ≠ n := fun e => hn (e ▸ hi)
        omega))
theorem Chn.len {os : List PO} {l : List Nat} {r : Nat} (h : Chn os r l) : l.length ≤ os.length := nodup_len h.nodup h.lt
/-- A chain that misses a place does not feel that place's change. -/
theorem Chn.miss {os : List PO} {j : Nat} {x : PO} : ∀ {l : List Nat} {r : Nat}, Chn os r l → j ∉ l → Chn (os.set j x) r l
  | [], _, h, _ => h
  | i :: l, r, h, hj => by
    obtain ⟨h1, o, h2, h3⟩ := h
    rw [List.mem_cons, not_or] at hj
    exact ⟨h1, o, by rw [List.getElem?_set_ne (fun e => hj.1 e)]; exact h2, Chn.miss h3 hj.2⟩
/-- A change that keeps the prototype keeps all chains. -/
theorem Chn.same {os : List PO} {j : Nat} {x y : PO} (hy : os[j]? = some y) (hp : x.pr = y.pr) : ∀ {l : List Nat} {r : Nat}, Chn os r l → Chn (os.set j x) r l
  | [], _, h => h
  | i :: l, r, h => by
    obtain ⟨h1, o, h2, h3⟩ := h
    by_cases e : j = i
    · subst e
      rw [hy] at h2
      cases h2
      exact ⟨h1, x, List.getElem?_set_self (List.getElem?_eq_some_iff.1 hy).1, by rw [hp]; exact Chn.same hy hp h3⟩
    · exact ⟨h1, o, by rw [List.getElem?_set_ne e]; exact h2, Chn.same hy hp h3⟩
/-- One object more. -/
theorem Chn.more {os : List PO} (x : PO) : ∀ {l : List Nat} {r : Nat}, Chn os r l → Chn (os ++ [x]) r l
  | [], _, h => h
  | i :: l, r, h => by
    obtain ⟨h1, o, h2, h3⟩ := h
    exact ⟨h1, o, by rw [List.getElem?_append_left (List.getElem?_eq_some_iff.1 h2).1]; exact h2, Chn.more x h3⟩
/-- Every object has a chain that ends. -/
def Ends (os : List PO) : Prop := ∀ r, r ≤ os.length → ∃ l, Chn os r l
theorem Ends.same {os : List PO} (h : Ends os) {j : Nat} {x y : PO} (hy : os[j]? = some y) (hp : x.pr = y.pr) : Ends (os.set j x) := fun r hr => by
  obtain ⟨l, hl⟩ := h r (by simpa using hr)
  exact ⟨l, hl.same hy hp⟩
theorem Ends.more {os : List PO} (h : Ends os) (x : PO) (hx : x.pr ≤ os.length) : Ends (os ++ [x]) := fun r hr => by
  rw [List.length_append, List.length_singleton] at hr
  rcases Nat.lt_or_ge os.length r with e | e
  · obtain rfl : r = os.length + 1 := by omega
    obtain ⟨l, hl⟩ := h x.pr hx
    exact ⟨os.length :: l, rfl, x, by simp, hl.more x⟩
  · obtain ⟨l, hl⟩ := h r e
    exact ⟨l, hl.more x⟩
/-- Another prototype, whose chain misses the object. -/
theorem Chn.proto {os : List PO} {j : Nat} {x y : PO} (hy : os[j]? = some y) {m : List Nat} (hm : Chn os x.pr m) (hj : j ∉ m) : ∀ {l : List Nat} {r : Nat}, Chn os r l → ∃ l', Chn (os.set j x) r l'
  | [], _, h => ⟨[], h⟩
  | i :: l, r, h => by
    obtain ⟨h1, o, h2, h3⟩ := h
    by_cases e : j = i
    · subst e
      exact ⟨j :: m, h1, x, List.getElem?_set_self (List.getElem?_eq_some_iff.1 hy).1, hm.miss hj⟩
    · obtain ⟨l', hl'⟩ := Chn.proto hy hm hj h3
      exact ⟨i :: l', h1, o, by rw [List.getElem?_set_ne e]; exact h2, hl'⟩
theorem Ends.proto {os : List PO} (h : Ends os) {j : Nat} {x y : PO} (hy : os[j]? = some y) {m : List Nat} (hm : Chn os x.pr m) (hj : j ∉ m) : Ends (os.set j x) := fun r hr => by
  obtain ⟨l, hl⟩ := h r (by simpa using hr)
  exact Chn.proto hy hm hj hl
/-- Find: the first of the chain that has it. -/
def findC (os : List PO) (k : K3) : List Nat → K3 × Int × Bool
  | [] => (z3, 0, false)
  | i :: l => match os[i]? with
    | some o => if (o.own k).2.2 = true then o.own k else findC os k l
    | none => (z3, 0, false)
end Go.Proofs.YtmimnaaofpkndaaDoor.Hp

/- HeapRuns: places sorted in, purely: the document's scan. -/
set_option linter.unusedVariables false
set_option linter.unusedSimpArgs false
namespace Go.Proofs.YtmimnaaofpkndaaDoor.Hp
open Go.RowKit Go.Proofs.YtmimnaaofpkndaaDoor Go.Shelf
theorem sorted_eq : ∀ {l m : List Nat}, l.Pairwise (· < ·) → m.Pairwise (· < ·) → (∀ x, x ∈ l ↔ x ∈ m) → l = m
  | [], [], _, _, _ => rfl
  | [], b :: m, _, _, h => absurd ((h b).2 List.mem_cons_self) List.not_mem_nil
  | a :: l, [], _, _, h => absurd ((h a).1 List.mem_cons_self) List.not_mem_nil
  | a :: l, b :: m, hl, hm, h => by
    rw [List.pairwise_cons] at hl hm
    have hab : a = b := by
      rcases List.mem_cons.1 ((h a).1 List.mem_cons_self) with e | e
      · exact e
      · rcases List.mem_cons.1 ((h b).2 List.mem_cons_self) with e2 | e2
        · exact e2.symm
        · have := hm.1 a e
          have := hl.1 b e2
          omega
    subst hab
    rw [sorted_eq hl.2 hm.2 (fun x => ?_)]
    constructor
    · intro hx
      rcases List.mem_cons.1 ((h x).1 (List.mem_cons_of_mem _ hx)) with e | e
      · have := hl.1 x hx; omega
      · exact e
    · intro hx
      rcases List.mem_cons.1 ((h x).2 (List.mem_cons_of_mem _ hx)) with e | e
      · have := hm.1 x hx; omega
      · exact e
/-- n sorted in behind i others. -/
def insN (l : List Nat) (i n : Nat) : List Nat := l.take i ++ n :: l.drop i
theorem insN_mem (l : List Nat) (i n x : Nat) : x ∈ insN l i n ↔ x = n ∨ x ∈ l := by
  unfold insN
  rw [List.mem_append, List.mem_cons]
  conv => rhs; rw [← List.take_append_drop i l, List.mem_append]
  constructor
  · rintro (h | h | h)
    · exact .inr (.inl h)
    · exact .inl h
    · exact .inr (.inr h)
  · rintro (h | h | h)
    · exact .inr (.inl h)
    · exact .inl h
    · exact .inr (.inr h)
theorem insN_sorted {l : List Nat} {i n : Nat} (hl : l.Pairwise (· < ·)) (h1 : ∀ x ∈ l.take i, x < n) (h2 : ∀ x ∈ l.drop i, n < x) : (insN l i n).Pairwise (· < ·) := by
  unfold insN
  rw [← List.take_append_drop i l, List.pairwise_append] at hl
  obtain ⟨a, b, c⟩ := hl
  rw [List.pairwise_append, List.pairwise_cons]
  refine ⟨a, ⟨h2, b⟩, fun x hx y hy => ?_⟩
  rcases List.mem_cons.1 hy with e | e
  · rw [e]; exact h1 x hx
  · exact c x hx y e
/-- The places among keys, as they come. -/
def plcI (A : List Ent) : List Nat := (A.filter (fun x => decide (x.key.1 = 7) && decide (0 ≤ plcV x.key))).map (fun x => (plcV x.key).toNat)
theorem plcI_mem {o : PO} (h : o.Ok) (n : Nat) : n ∈ plcI o.A ↔ n < 13 ∧ o.A.any (isKey (keyD n)) = true ∧ ∃ x ∈ o.A, x.key = keyD n := by
  unfold plcI
  rw [List.mem_map]
  constructor
  · rintro ⟨x, hx, rfl⟩
    obtain ⟨hm, hc⟩ := List.mem_filter.1 hx
    rw [Bool.and_eq_true, decide_eq_true_eq, decide_eq_true_eq] at hc
    obtain ⟨hk, hg, -⟩ := h.ks x hm
    rcases ks_plc hk with e | ⟨i, hi, e1, e2⟩
    · omega
    · rw [e2]
      have e3 : ((i : Int)).toNat = i := by omega
      rw [e3]
      refine ⟨hi, List.any_eq_true.2 ⟨x, hm, ?_⟩, x, hm, e1⟩
      unfold isKey
      rw [hg, ← e1]
      simp
  · rintro ⟨hn, _, x, hm, hxk⟩
    refine ⟨x, List.mem_filter.2 ⟨hm, ?_⟩, ?_⟩
    · rw [hxk, plcV_keyD n (by omega)]
      show (decide ((keyD n).1 = 7) && _) = true
      rw [show (keyD n).1 = 7 from rfl]
      simp
    · rw [hxk, plcV_keyD n (by omega)]
      omega
/-- A sorted list with these places is the document's scan. -/
theorem scan_eq {o : PO} (h : o.Ok) {l : List Nat} (hl : l.Pairwise (· < ·)) (hm : ∀ x, x ∈ l ↔ x ∈ plcI o.A) : l.map keyD = plcA o.A := by
  unfold plcA
  refine congrArg (List.map keyD) ?_
  obtain ⟨N, hN⟩ : ∃ N, N = 1000 := ⟨_, rfl⟩
  rw [← hN]
  refine sorted_eq hl (List.pairwise_lt_range.filter _) (fun x => ?_)
  rw [hm, plcI_mem h, List.mem_filter, List.mem_range]
  constructor
  · rintro ⟨a, b, _⟩
    exact ⟨by omega, b⟩
  · rintro ⟨a, b⟩
    obtain ⟨y, hy, hk⟩ := List.any_eq_true.1 b
    obtain ⟨hks, hg, -⟩ := h.ks y hy
    have hyk : y.key = keyD x := by
      unfold isKey at hk
      rw [hg, ks_norm hks] at hk
      have h7 : norm (keyD x) = keyD x := by
        unfold norm kK kN kS
        rw [show (keyD x).1 = 7 from rfl]
        rfl
      rw [h7] at hk
      simpa using hk
    rw [hyk] at hks
    rcases ks_plc hks with e | ⟨i, hi, _, e2⟩
    · rw [plcV_keyD x (by omega)] at e; omega
    · rw [plcV_keyD x (by omega)] at e2
      exact ⟨by omega, b, y, hy, hyk⟩
end Go.Proofs.YtmimnaaofpkndaaDoor.Hp
