/- HeapRuns: the heap's Freeze. -/
import Derived.Test.YtmimnaaofpkndaaDoorHrX
set_option linter.unusedVariables false
set_option linter.unusedSimpArgs false
namespace Go.Proofs.YtmimnaaofpkndaaDoor.Hp
open Go.RowKit Go.Proofs.YtmimnaaofpkndaaDoor Go.Shelf Go.Sort
attribute [local go_sem] Oper.semAt_some
/-- One property is frozen. -/
def frz1 (A : List Ent) (k : K3) : List Ent := A.map (fun x => if x.key = k then frzE x else x)
theorem frzE_twice (x : Ent) (h0 : 0 ≤ x.flags) (h1 : x.flags < 16) : frzE (frzE x) = frzE x := by
  have hall : ((List.range 16).all fun a => bits .andNot .i64 (bits .andNot .i64 (a : Int) 5) 5 == bits .andNot .i64 (a : Int) 5) = true := by kernel_rfl
  rw [List.all_eq_true] at hall
  have h5 := hall x.flags.toNat (List.mem_range.2 (by omega))
  rw [show ((x.flags.toNat : Nat) : Int) = x.flags by omega, beq_iff_eq] at h5
  unfold frzE
  simp only [h5]
theorem frzE_flags (x : Ent) (h0 : 0 ≤ x.flags) (h1 : x.flags < 16) : 0 ≤ (frzE x).flags ∧ (frzE x).flags < 16 := by
  have hall : ((List.range 16).all fun a => decide (0 ≤ bits .andNot .i64 (a : Int) 5) && decide (bits .andNot .i64 (a : Int) 5 < 16)) = true := by kernel_rfl
  rw [List.all_eq_true] at hall
  have h5 := hall x.flags.toNat (List.mem_range.2 (by omega))
  rw [show ((x.flags.toNat : Nat) : Int) = x.flags by omega, Bool.and_eq_true, decide_eq_true_eq, decide_eq_true_eq] at h5
  exact h5
theorem frzF_eq : ∀ (ks : List K3) (A : List Ent), (∀ x ∈ A, 0 ≤ x.flags ∧ x.flags < 16) → ks.foldl frz1 A = A.map (fun x => if ks.any (fun k => decide (x.key = k)) = true then frzE x else x)
  | [], A, _ => by simp
  | k :: ks, A, h => by
    have h1 : ∀ x ∈ frz1 A k, 0 ≤ x.flags ∧ x.flags < 16 := fun x hx => by
      obtain ⟨y, hy, rfl⟩ := List.mem_map.1 hx
      split
      · exact frzE_flags y (h y hy).1 (h y hy).2
      · exact h y hy
    rw [List.foldl_cons, frzF_eq ks _ h1]
    unfold frz1
    rw [List.map_map]
    refine List.map_congr_left fun x hx => ?_
    show (if ks.any (fun k' => decide ((if x.key = k then frzE x else x).key = k')) = true then frzE (if x.key = k then frzE x else x) else (if x.key = k then frzE x else x)) = _
    by_cases e : x.key = k
    · rw [if_pos e]
      have hk : (frzE x).key = x.key := rfl
      rw [hk, List.any_cons, show decide (x.key = k) = true from decide_eq_true e, Bool.true_or, if_pos rfl]
      split
      · exact frzE_twice x (h x hx).1 (h x hx).2
      · rfl
    · rw [if_neg e, List.any_cons, show decide (x.key = k) = false from decide_eq_false e, Bool.false_or]
theorem frzF_keys {o : PO} (hO : o.Ok) : o.keys.foldl frz1 o.A = o.A.map frzE := by
  rw [frzF_eq o.keys o.A (fun x hx => (hO.ks x hx).2.2)]
  refine List.map_congr_left fun x hx => ?_
  rw [if_pos]
  rw [List.any_eq_true]
  refine ⟨x.key, ?_, by simp⟩
  obtain ⟨hk, hg, -⟩ := hO.ks x hx
  have hsym : x.key.1 = 8 → x.key ∈ symA o.A := fun h8 => List.mem_map.2 ⟨x, List.mem_filter.2 ⟨hx, by simpa using h8⟩, rfl⟩
  unfold PO.keys
  by_cases ha : o.arr = true
  · rw [if_pos ha]
    rcases ks_kind hk with h7 | h8
    · refine List.mem_append.2 (.inl (List.mem_append.2 (.inl (List.mem_append.2 (.inr ?_)))))
      exact List.mem_map.2 ⟨x, List.mem_filter.2 ⟨hx, by simp [h7]⟩, rfl⟩
    · exact List.mem_append.2 (.inr (hsym h8))
  · rw [if_neg ha]
    rcases ks_kind hk with h7 | h8
    · rcases ks_plc hk with hp | ⟨i, hi, hki, hp⟩
      · refine List.mem_append.2 (.inl (List.mem_append.2 (.inr ?_)))
        exact List.mem_map.2 ⟨x, List.mem_filter.2 ⟨hx, by simp [h7, hp]⟩, rfl⟩
      · refine List.mem_append.2 (.inl (List.mem_append.2 (.inl ?_)))
        unfold plcA
        obtain ⟨N, hN⟩ : ∃ N, N = 1000 := ⟨_, rfl⟩
        rw [← hN, hki]
        refine List.mem_map.2 ⟨i, List.mem_filter.2 ⟨List.mem_range.2 (by omega), List.any_eq_true.2 ⟨x, hx, ?_⟩⟩, rfl⟩
        unfold isKey
        rw [hg, ← hki]
        simp
    · exact List.mem_append.2 (.inr (hsym h8))
theorem PO.Ok.frz1 {o : PO} (h : o.Ok) (k : K3) : PO.Ok { o with A := frz1 o.A k } := by
  have hm : ∀ x ∈ Hp.frz1 o.A k, ∃ y ∈ o.A, x.key = y.key ∧ x.grave = y.grave ∧ (x = y ∨ x = frzE y) := fun x hx => by
    obtain ⟨y, hy, rfl⟩ := List.mem_map.1 hx
    refine ⟨y, hy, ?_⟩
    split
    · exact ⟨rfl, rfl, .inr rfl⟩
    · exact ⟨rfl, rfl, .inl rfl⟩
  refine ⟨fun x hx => ?_, ?_, fun ha x hx => ?_, h.pl, h.le⟩
  · obtain ⟨y, hy, e1, e2, e3⟩ := hm x hx
    obtain ⟨g1, g2, g3, g4⟩ := h.ks y hy
    rw [e1, e2]
    refine ⟨g1, g2, ?_⟩
    rcases e3 with rfl | rfl
    · exact ⟨g3, g4⟩
    · exact frzE_flags y g3 g4
  · refine List.pairwise_map.2 (h.nd.imp fun {a b} hab => ?_)
    have hk : ∀ x : Ent, (if x.key = k then frzE x else x).key = x.key := fun x => by split <;> rfl
    rw [hk, hk]
    exact hab
  · obtain ⟨y, hy, e1, e2, e3⟩ := hm x hx
    rw [e1]
    exact h.ar ha y hy
theorem PO.Ok.frzF {o : PO} (h : o.Ok) : ∀ ks : List K3, PO.Ok { o with A := ks.foldl Hp.frz1 o.A }
  | [] => h
  | k :: ks => PO.Ok.frzF (o := { o with A := Hp.frz1 o.A k }) (h.frz1 k) ks
theorem frzF_len (A : List Ent) (ks : List K3) : (ks.foldl frz1 A).length = A.length := by
  induction ks generalizing A with
  | nil => rfl
  | cons k ks ih => rw [List.foldl_cons, ih]; unfold frz1; rw [List.length_map]
/-- Freezing what is there is what Put does. -/
theorem put_frz {o : PO} (hO : o.Ok) {k : K3} {x : Ent} (hk : KS k) (hx : x ∈ o.A) (hxk : isKey k x = true) : putA k x.val (bits .andNot .i64 x.flags 5) o.A = frz1 o.A k := by
  obtain ⟨hkx, hgx, -⟩ := hO.ks x hx
  have hkey : x.key = k := by rw [ks_isKey hk hkx hgx] at hxk; simpa using hxk
  obtain ⟨i, hi⟩ := List.getElem?_of_mem hx
  rw [putA_some hO hk hi hkey]
  unfold frz1
  have hil := (List.getElem?_eq_some_iff.1 hi).1
  have hix := (List.getElem?_eq_some_iff.1 hi).2
  apply List.ext_getElem
  · simp
  · intro j h1 h2
    rw [List.getElem_map, List.getElem_set]
    rw [List.length_map] at h2
    by_cases e : i = j
    · subst e
      rw [if_pos rfl, hix, if_pos hkey]
      rfl
    · rw [if_neg e, if_neg]
      intro hj
      have h3 := (List.pairwise_iff_getElem.1 hO.nd)
      rcases Nat.lt_or_gt_of_ne e with h4 | h4
      · exact h3 i j hil h2 h4 (by rw [hix, hkey, hj])
      · exact h3 j i h2 hil h4 (by rw [hix, hkey, hj])
theorem frz_none {o : PO} (hO : o.Ok) {k : K3} (h : ∀ x ∈ o.A, isKey k x = false) : frz1 o.A k = o.A := by
  unfold frz1
  conv => rhs; rw [← List.map_id o.A]
  refine List.map_congr_left fun x hx => ?_
  rw [if_neg]
  · rfl
  · intro e
    obtain ⟨hkx, hgx, -⟩ := hO.ks x hx
    have := h x hx
    simp [isKey, e, hgx] at this
theorem fold_back {A : List Ent} (ks : List K3) : ∀ x ∈ ks.foldl frz1 A, ∃ y ∈ A, x.key = y.key ∧ x.grave = y.grave := by
  induction ks generalizing A with
  | nil => exact fun x hx => ⟨x, hx, rfl, rfl⟩
  | cons k ks ih =>
    intro x hx
    obtain ⟨y, hy, e1, e2⟩ := ih x hx
    obtain ⟨z, hz, rfl⟩ := List.mem_map.1 hy
    refine ⟨z, hz, ?_⟩
    rw [e1, e2]
    split
    · exact ⟨rfl, rfl⟩
    · exact ⟨rfl, rfl⟩
theorem keys_len {o : PO} (hO : o.Ok) (hA : o.A.length ≤ 4000) : o.keys.length ≤ 10000 := by
  have h1 : ∀ arr, (txtA arr o.A).length ≤ 4000 := fun arr => by
    unfold txtA
    rw [List.length_map]
    exact Nat.le_trans (List.length_filter_le _ _) hA
  have h2 : (symA o.A).length ≤ 4000 := by
    unfold symA
    rw [List.length_map]
    exact Nat.le_trans (List.length_filter_le _ _) hA
  have h3 : (plcL o.L).length ≤ 40 := by
    have h := plcJ_len o.L o.L.length
    have h' := hO.le
    have h'' : plcL o.L = plcJ o.L o.L.length := rfl
    rw [h'']
    omega
  have h4 : (plcA o.A).length ≤ 1000 := by
    unfold plcA
    obtain ⟨N, hN⟩ : ∃ N, N = 1000 := ⟨_, rfl⟩
    rw [← hN, List.length_map]
    exact Nat.le_trans (List.length_filter_le _ _) (by rw [List.length_range]; omega)
  unfold PO.keys
  have h5 := h1 true
  have h6 := h1 false
  split
  · rw [List.length_append, List.length_append, List.length_append, List.length_singleton]; omega
  · rw [List.length_append, List.length_append]; omega
theorem getA_found {o : PO} (hO : o.Ok) {k : K3} (h : (getA o.A k).2.2 = true) : ∃ x ∈ o.A, isKey k x = true ∧ getA o.A k = (x.val, x.flags, true) := by
  unfold getA at h ⊢
  cases hx : o.A.find? (isKey k) with
  | none => rw [hx] at h; cases h
  | some x => exact ⟨x, List.mem_of_find?_eq_some hx, List.find?_some hx, rfl⟩
theorem getA_lost {A : List Ent} {k : K3} (h : (getA A k).2.2 = false) : ∀ x ∈ A, isKey k x = false := by
  unfold getA at h
  cases hx : A.find? (isKey k) with
  | none => intro x hm; have := List.find?_eq_none.1 hx x hm; simpa using this
  | some x => rw [hx] at h; cases h
theorem keys_ks {o : PO} (hO : o.Ok) {k : K3} (hk : k ∈ o.keys) : k.2.2.size ≤ 4000 ∧ (KS k ∨ ∀ x ∈ o.A, isKey k x = false) := by
  have hmem : ∀ x ∈ o.A, x.key.2.2.size ≤ 4000 ∧ (KS x.key ∨ ∀ y ∈ o.A, isKey x.key y = false) := fun x hx => ⟨ks_size (hO.ks x hx).1, .inl (hO.ks x hx).1⟩
  have hlen : KS lenK := ⟨19, by decide, rfl⟩
  have hD : ∀ i, i < 1000 → (keyD i).2.2.size ≤ 4000 := fun i hi => keyL_size (Tx.decB i) (Tx.decB_ascii i (by omega)) (Nat.le_trans (decB_len i (by omega)) (by omega))
  have htx : ∀ arr, k ∈ txtA arr o.A → k.2.2.size ≤ 4000 ∧ (KS k ∨ ∀ y ∈ o.A, isKey k y = false) := fun arr h => by
    obtain ⟨x, hx, rfl⟩ := List.mem_map.1 h
    exact hmem x (List.mem_filter.1 hx).1
  have hsy : k ∈ symA o.A → k.2.2.size ≤ 4000 ∧ (KS k ∨ ∀ y ∈ o.A, isKey k y = false) := fun h => by
    obtain ⟨x, hx, rfl⟩ := List.mem_map.1 h
    exact hmem x (List.mem_filter.1 hx).1
  unfold PO.keys at hk
  by_cases ha : o.arr = true
  · rw [if_pos ha] at hk
    rcases List.mem_append.1 hk with hk | hk
    · rcases List.mem_append.1 hk with hk | hk
      · rcases List.mem_append.1 hk with hk | hk
        · obtain ⟨i, hi, rfl⟩ := List.mem_map.1 hk
          have hil := List.mem_range.1 (List.mem_filter.1 hi).1
          have h40 := hO.le
          refine ⟨hD i (by omega), .inr fun y hy => ?_⟩
          obtain ⟨g1, g2, -⟩ := hO.ks y hy
          have g3 := (hO.ar ha y hy).1
          unfold isKey
          rw [ks_norm g1]
          have hnd : norm (keyD i) = keyD i := by
            unfold norm kK kN kS
            rw [show (keyD i).1 = 7 from rfl]
            rfl
          rw [hnd]
          simp only [Bool.and_eq_false_iff]
          refine .inr ?_
          rw [decide_eq_false_iff_not]
          intro e
          rw [e, plcV_keyD i (by omega)] at g3
          omega
        · exact htx _ hk
      · rw [List.mem_singleton] at hk
        subst hk
        exact ⟨ks_size hlen, .inl hlen⟩
    · exact hsy hk
  · rw [if_neg ha] at hk
    rcases List.mem_append.1 hk with hk | hk
    · rcases List.mem_append.1 hk with hk | hk
      · unfold plcA at hk
        obtain ⟨N, hN⟩ : ∃ N, N = 1000 := ⟨_, rfl⟩
        rw [← hN] at hk
        obtain ⟨i, hi, rfl⟩ := List.mem_map.1 hk
        have hil := List.mem_range.1 (List.mem_filter.1 hi).1
        refine ⟨hD i (by omega), .inl ?_⟩
        obtain ⟨y, hy, hyk⟩ := List.any_eq_true.1 (List.mem_filter.1 hi).2
        obtain ⟨g1, g2, -⟩ := hO.ks y hy
        unfold isKey at hyk
        have hnd : norm (keyD i) = keyD i := by
          unfold norm kK kN kS
          rw [show (keyD i).1 = 7 from rfl]
          rfl
        rw [g2, ks_norm g1, hnd] at hyk
        have : y.key = keyD i := by simpa using hyk
        exact this ▸ g1
      · exact htx _ hk
    · exact hsy hk
/-- Freezing on its way. -/
structure FI (o : PO) (b T : Nat) (lv rv : Value) (Ot : Nat → Prop) (w : World) (A : List Ent) (Oj : Nat → Prop) (W : World) : Prop where
  io : LieO { o with clo := true, A := A } b T lv Oj W
  up : Upd w W (ioB b lv Ot)
  sub : ∀ k, Oj k → Ot k ∨ w.heap.size ≤ k
  row : W.ownsRow w.heap.size 34 3 rv o.keys.length (valsC o.keys)
  nr : ∀ g, rv.ownBlock = some g → ¬ Oj g
section
variable {o : PO} {b T : Nat} {lv rv : Value} {Ot Oj Oj' : Nat → Prop} {w W W' : World} {A A' : List Ent}
theorem FI.below (h : FI o b T lv rv Ot w A Oj W) (u : Below W.heap.size W W') : FI o b T lv rv Ot w A Oj W' :=
  ⟨h.io.below u, h.up.then_below u, h.sub, (Upd.of_below_all (M := fun _ => False) u).own h.row (fun _ _ e => e), h.nr⟩
theorem FI.put (h : FI o b T lv rv Ot w A Oj W) (hb : b < w.heap.size) (hT : TabA W' T A' [] Oj') (u : Upd W W' Oj) (h2 : ∀ k, Oj' k → Oj k ∨ W.heap.size ≤ k) : FI o b T lv rv Ot w A' Oj' W' := by
  have hz := h.up.size
  have ht := hT.lt
  refine ⟨⟨u.blk h.io.ob h.io.nb, u.own h.io.row h.io.nl, hT, fun e => ?_, fun g hg e => ?_, ht⟩, Upd.join h.up (u.mono fun k _ e => (h.sub k e).imp (fun q => .inr (.inr q)) id), fun k hk => (h2 k hk).elim (h.sub k) (fun e => .inr (by omega)), u.own h.row h.nr, fun g hg e => ?_⟩
  · exact (h2 _ e).elim h.io.nb (fun e => by omega)
  · exact (h2 _ e).elim (h.io.nl g hg) (fun e => by have := (h.io.row.lt g hg).2; omega)
  · exact (h2 _ e).elim (h.nr g hg) (fun e => by have := (h.row.lt g hg).2; omega)
end
set_option maxRecDepth 100000 in
set_option maxHeartbeats 40000000 in
theorem freeze_io {o : PO} {b T : Nat} {lv : Value} {Ot : Nat → Prop} {w : World} (h : LieO o b T lv Ot w) (hO : o.Ok) (hA : o.A.length ≤ 4000) (hLg : Lg w) (hn3 : ∀ k, ioB b lv Ot k → 3 ≤ k) :
    Calls Tryd.prog 64 #[.pointer (some ⟨b, 0, none⟩)] w fun e w' => (∃ v, e = .returned v) ∧ Left o b T lv Ot w o.freeze w' := by
  obtain ⟨ar, har⟩ : ∃ ar, o.arr = ar := ⟨_, rfl⟩
  obtain ⟨clv, hclv⟩ : ∃ c, clV o = c := ⟨_, rfl⟩
  have x0 : w.cell? ⟨b, 0, none⟩ = some (.int .i64 clv) := by rw [h.ob.cell, ← hclv]; rfl
  have x2 : w.cell? ⟨b, 2, none⟩ = some (.bool o.clo) := by rw [h.ob.cell]; rfl
  have x14 : w.cell? ⟨b, 14, none⟩ = some (.int .i64 (atV o)) := by rw [h.ob.cell]; rfl
  have f2 := h.ob.frozen 2
  have f14 := h.ob.frozen 14
  have lb := h.ob.lt
  have HB := Lib.hid (And.intro h (And.intro hO (And.intro hA (And.intro hLg (And.intro hn3 har)))))
  have hcl : clv = if ar = true then 1 else 0 := by rw [← hclv, ← har]
  have HCL := Lib.hid hcl
  obtain ⟨av, hav⟩ : ∃ a, atV o = a := ⟨_, rfl⟩
  have HAV := Lib.hid hav
  rw [hav] at x14
  obtain ⟨cw, hcw⟩ : ∃ c, o.clo = c := ⟨_, rfl⟩
  rw [hcw] at x2
  obtain ⟨tv, htv⟩ : ∃ tv, (clv == 1) = tv := ⟨_, rfl⟩
  clear h hO hA hLg hn3 hcl hav hclv har hcw
  go_enter Tryd.func64, Tryd.ntmps64
  go_upto_if 14 with fail
  go_cut [] from 15 to 17 (fun wx => Hid (LieO { o with clo := true } b T lv Ot wx ∧ Upd w wx (fun k => k = b)))
  case first =>
    obtain ⟨h, hO, hA, hLg, hn3, har⟩ := HB.out
    have hset : ∀ (W : World), Blk W b 51 (objA (clV o) (o.pr : Int) true T lv nilP nilP nilS (atV { o with clo := true })) → Upd w W (fun k => k = b) → Hid (LieO { o with clo := true } b T lv Ot W ∧ Upd w W (fun k => k = b)) := fun W hb u => Lib.hid ⟨⟨hb, u.own h.row (fun k hk e => by subst e; exact h.far hk), h.tab.upd u (fun k hk e => by subst e; exact h.nb hk), h.nb, h.nl, fun k hk => Nat.lt_of_lt_of_le (h.lt k hk) u.size⟩, u⟩
    have u1 : Upd w (w.setCell ⟨b, 2, none⟩ (.bool true)) (fun k => k = b) := (Upd.refl w _).set b 2 _ rfl
    have k1 := h.ob.set_ 2 (.bool true)
    cases ar with
    | false =>
      have hc0 : clv = 0 := HCL.out
      obtain rfl : false = tv := by rw [← htv, hc0]; rfl
      have hat : atV { o with clo := true } = atV o := by
        unfold atV
        rw [if_neg (by rw [har]; simp), if_neg (by rw [har]; simp)]
      have HF := hset _ (by rw [hat]; exact k1) u1
      clear h hO hA hLg hn3 har hset u1 k1 hc0 hat
      go_wp2_with fail
      go_meet
      exact HF
    | true =>
      have hc0 : clv = 1 := HCL.out
      obtain rfl : true = tv := by rw [← htv, hc0]; rfl
      have hat : atV { o with clo := true } = 1 := by
        unfold atV
        rw [if_pos ⟨har, rfl⟩]
      have HF := hset ((w.setCell ⟨b, 2, none⟩ (.bool true)).setCell ⟨b, 14, none⟩ (.int .i64 1)) (by rw [hat]; exact k1.set_ 14 _) (u1.set b 14 _ rfl)
      clear h hO hA hLg hn3 har hset u1 k1 hc0 hat
      go_wp2_with fail
      go_meet
      exact HF
  case rest =>
  clear x0 x2 x14 f2 f14 lb htv
  have HI := hcut
  have hLg1 : Lg wc := HB.out.2.2.2.1.upd HI.out.2 (fun e => by have := HB.out.2.2.2.2.1 b (.inl rfl); omega)
  have hK := keys_io HI.out.1 (o := { o with clo := true }) (show PO.Ok { o with clo := true } from ⟨HB.out.2.1.ks, HB.out.2.1.nd, HB.out.2.1.ar, HB.out.2.1.pl, HB.out.2.1.le⟩) HB.out.2.2.1 hLg1 (fun e => by have := HB.out.2.2.2.2.1 0 (.inr (.inr e)); omega)
  have HK := Lib.hid hK
  clear hK hLg1 hcut
  go_wp2_with fail
  refine HK.out.mono ?_
  rintro e W1 ⟨rv, O1, rfl, hrow, hT1, hO1, u1, hnr⟩
  have hfi : FI o b T lv rv Ot w o.A O1 W1 := by
    have hz := HI.out.2.size
    have hio : LieO { o with clo := true } b T lv O1 W1 := by
      refine ⟨u1.blk HI.out.1.ob HI.out.1.nb, u1.own HI.out.1.row HI.out.1.nl, hT1, fun e => ?_, fun g hg e => ?_, hT1.lt⟩
      · exact (hO1 _ e).elim HI.out.1.nb (fun e => by have := HI.out.1.ob.lt; omega)
      · exact (hO1 _ e).elim (HI.out.1.nl g hg) (fun e => by have := (HI.out.1.row.lt g hg).2; omega)
    refine ⟨hio, (HI.out.2.mono fun k _ e => .inl e).trans (u1.mono fun k _ e => .inr (.inr e)), fun k hk => (hO1 k hk).imp id (fun e => by omega), ?_, hnr⟩
    exact World.ownsRow.mono hrow hz
  have HFI := Lib.hid hfi
  clear hrow hT1 hO1 u1 hnr hfi HK HI
  obtain ⟨n, hn⟩ : ∃ n, o.keys.length = n := ⟨_, rfl⟩
  obtain ⟨ra, rcap, hrv, hra⟩ := own_shape HFI.out.row
  rw [hn] at hrv hra
  subst hrv
  have hn9 : n ≤ 10000 := hn ▸ keys_len HB.out.2.1 HB.out.2.2.1
  have HN := Lib.hid (And.intro hn hra)
  clear hn hra
  go_wp2_with fail
  go_loopw [3, 4, 5, 6, 21] (fun v3 v4 v5 v6 i wr => ∃ j : Nat, j ≤ n ∧ i = .int .i64 (j : Int) ∧ Hid (∃ Oj, FI o b T lv (.slice ra n rcap) Ot w ((o.keys.take j).foldl frz1 o.A) Oj wr)) (fun _ _ _ _ i _ => n - (intOf i).toNat)
  case atStart => exact ⟨0, Nat.zero_le _, rfl, Lib.hid ⟨O1, by rw [List.take_zero]; exact HFI.out⟩⟩
  case round =>
  obtain ⟨j, hj, rfl, HJ⟩ := hrel
  obtain ⟨Oj, hfj⟩ := HJ.out
  clear HFI HJ
  by_cases hlt : j < n
  · obtain ⟨h, hO, hA, hLg, hn3, har⟩ := HB.out
    obtain ⟨g, rfl⟩ := HN.out.2 (by omega)
    obtain ⟨k, hk⟩ : ∃ k, o.keys[j]? = some k := ⟨_, List.getElem?_eq_getElem (by rw [HN.out.1]; exact hlt)⟩
    have hrow := hfj.row
    rw [HN.out.1] at hrow
    have c0 : wr.cell? ⟨g, j * 3, none⟩ = some (.int .i64 k.1) := (hrow.cellAt (j * 3) (by omega)).trans (valsC_get _ j 0 k hk (by decide))
    have c1 : wr.cell? ⟨g, j * 3 + 1, none⟩ = some (.int .i64 k.2.1) := (hrow.cellAt (j * 3 + 1) (by omega)).trans (valsC_get _ j 1 k hk (by decide))
    have c2 : wr.cell? ⟨g, j * 3 + 2, none⟩ = some (.string k.2.2) := (hrow.cellAt (j * 3 + 2) (by omega)).trans (valsC_get _ j 2 k hk (by decide))
    have hOk : PO.Ok { o with A := (o.keys.take j).foldl frz1 o.A } := hO.frzF _
    obtain ⟨hks, hkor⟩ := keys_ks hO (List.mem_of_getElem? hk)
    have htk : (o.keys.take (j + 1)).foldl frz1 o.A = frz1 ((o.keys.take j).foldl frz1 o.A) k := by
      rw [List.take_add_one, hk, List.foldl_append]
      rfl
    have hlen : ((o.keys.take j).foldl frz1 o.A).length ≤ 4000 := by rw [frzF_len]; exact hA
    have hKS : (getA ((o.keys.take j).foldl frz1 o.A) k).2.2 = true → KS k := fun hg => by
      obtain ⟨x, hx, hxk, -⟩ := getA_found hOk hg
      obtain ⟨y, hy, e1, e2⟩ := fold_back _ x hx
      rcases hkor with q | q
      · exact q
      · have h1 := q y hy
        unfold isKey at hxk h1
        rw [e1, e2] at hxk
        rw [hxk] at h1
        cases h1
    obtain ⟨A', hA'⟩ : ∃ A', (o.keys.take j).foldl frz1 o.A = A' := ⟨_, rfl⟩
    rw [hA'] at hfj hOk htk hlen hKS
    have t2 : decide ((j : Int) < (n : Int)) = true := by rw [decide_eq_true_eq]; omega
    have z0 : (0 : Int) ≤ (j : Int) := by omega
    have z1 : (j : Int) < (n : Int) := by omega
    have aw : IntKind.i64.wrap ((j : Int) + 1) = ((j + 1 : Nat) : Int) := by rw [IntWalk.i64_in _ (by omega)]; rfl
    have b2 := (Below.refl wr.heap.size wr).alloc (Nat.le_refl _) (.cells #[.int .i64 k.1, .int .i64 k.2.1, .string k.2.2] 34)
    have HF2 := Lib.hid (And.intro (hfj.below b2) (Blk.new wr 34 #[.int .i64 k.1, .int .i64 k.2.1, .string k.2.2]))
    obtain ⟨k1, k2, k3⟩ := k
    obtain ⟨⟨g1, g2, g3⟩, gf, gb⟩ : K3 × Int × Bool := getA A' (k1, k2, k3)
    obtain ⟨gt, hgt⟩ : ∃ gt, getA A' (k1, k2, k3) = gt := ⟨_, rfl⟩
    obtain ⟨⟨g1, g2, g3⟩, gf, gb⟩ := gt
    have HK := Lib.hid (And.intro hOk (And.intro hks (And.intro htk (And.intro hlen (And.intro hKS hgt)))))
    have hbw := h.ob.lt
    clear h hO hA hLg hn3 har hk hrow hkor hA' hfj b2 hOk hks htk hlen hKS hgt
    go_upto_region 6 with fail
    generalize wr.alloc (.cells #[.int .i64 k1, .int .i64 k2, .string k3] 34) = W2 at *
    generalize wr.heap.size = q2 at *
    clear c0 c1 c2
    have y0 : W2.cell? ⟨q2, 0, none⟩ = some (.int .i64 k1) := by rw [HF2.out.2.cell]; rfl
    have y1 : W2.cell? ⟨q2, 1, none⟩ = some (.int .i64 k2) := by rw [HF2.out.2.cell]; rfl
    have y2 : W2.cell? ⟨q2, 2, none⟩ = some (.string k3) := by rw [HF2.out.2.cell]; rfl
    have x3 : W2.cell? ⟨b, 3, none⟩ = some (.pointer (some ⟨T, 0, none⟩)) := by rw [HF2.out.1.io.ob.cell]; rfl
    have HGC : Hid (∀ W, Below W2.heap.size W2 W → Calls Tryd.prog 30 #[.pointer (some ⟨T, 0, none⟩), VS k1 k2 k3] W fun e w' => e = .returned (.tuple #[VS g1 g2 g3, .int .i64 gf, .bool gb]) ∧ Below W.heap.size W w') := Lib.hid (fun W b => by
      have h1 := Go.Proofs.YtmimnaaofpkndaaDoor.get_any T A' [] Oj (k1, k2, k3) W (HF2.out.1.io.tab.below b) HK.out.2.1
      refine h1.mono ?_
      intro e w' h2
      have h3 := getP_own HK.out.1 h2
      rw [show getA A' (k1, k2, k3) = ((g1, g2, g3), gf, gb) from HK.out.2.2.2.2.2] at h3
      exact h3)
    go_cut [4, 5, 6] from 25 to 34 (fun s4 s5 s6 wx => ∃ gp, s4 = .pointer (some ⟨gp, 0, none⟩) ∧ s5 = .int .i64 gf ∧ s6 = .bool gb ∧ Hid (Below W2.heap.size W2 wx ∧ Blk wx gp 34 #[.int .i64 g1, .int .i64 g2, .string g3]))
    case first =>
      refine wp_var0 (fun KV HKV => ?_)
      refine wp_region_till (m := 5) (S := (fun W => W.cell? ⟨b, 3, none⟩ = some (.pointer (some ⟨T, 0, none⟩)) ∧ W.cell? ⟨q2, 0, none⟩ = some (.int .i64 k1) ∧ W.cell? ⟨q2, 1, none⟩ = some (.int .i64 k2) ∧ W.cell? ⟨q2, 2, none⟩ = some (.string k3))) (by kernel_rfl) ?_
      have e4 : W2.drew = W2.drewN 1 := rfl
      rw [e4]
      have S0 : (W2.drewN 1).cell? ⟨b, 3, none⟩ = some (.pointer (some ⟨T, 0, none⟩)) ∧ (W2.drewN 1).cell? ⟨q2, 0, none⟩ = some (.int .i64 k1) ∧ (W2.drewN 1).cell? ⟨q2, 1, none⟩ = some (.int .i64 k2) ∧ (W2.drewN 1).cell? ⟨q2, 2, none⟩ = some (.string k3) := ⟨x3, y0, y1, y2⟩
      have HBD := Lib.hid (below_drw (Below.refl W2.heap.size W2) 1)
      clear e4 x3 y0 y1 y2
      generalize W2.drewN 1 = E at *
      change tillH _ _ _ _ _ _ 14 #[false, false, false, false, false, false, false, false, false, false, false, false, false, false] _ _
      refine tillH_takeAny (i := 0) (oi := ?oo1) (v := ?vv1) ?hi1 (by kernel_rfl) (by kernel_rfl) (by kernel_rfl) ?hq1 (by kernel_rfl) ?hy1 (fun _ => S0) ?hh1
      case hi1 => (simp only [List.getElem?_toArray, List.getElem?_cons_succ, List.getElem?_cons_zero]; rfl)
      case hq1 => exact fun _ _ _ h => h
      case hy1 => exact Or.inl ⟨by rfl, by (intro W; go_simp; (try with_reducible rfl))⟩
      (try simp only [Act.put, List.setIfInBounds_toArray, List.set_cons_zero, List.set_cons_succ])
      refine tillH_takeAny (i := 1) (oi := ?oo2) (v := ?vv2) ?hi2 (by kernel_rfl) (by kernel_rfl) (by kernel_rfl) ?hq2 (by kernel_rfl) ?hy2 (fun _ => S0) ?hh2
      case hi2 => (simp only [List.getElem?_toArray, List.getElem?_cons_succ, List.getElem?_cons_zero]; rfl)
      case hq2 => exact fun _ _ _ h => h
      case hy2 => exact Or.inl ⟨by rfl, by (intro W; go_simp; (try with_reducible rfl))⟩
      (try simp only [Act.put, List.setIfInBounds_toArray, List.set_cons_zero, List.set_cons_succ])
      refine tillH_takeAny (i := 2) (oi := ?oo3) (v := ?vv3) ?hi3 (by kernel_rfl) (by kernel_rfl) (by kernel_rfl) ?hq3 (by kernel_rfl) ?hy3 (fun _ => S0) ?hh3
      case hi3 => (simp only [List.getElem?_toArray, List.getElem?_cons_succ, List.getElem?_cons_zero]; rfl)
      case hq3 => exact fun _ _ _ h => h
      case hy3 => exact Or.inl ⟨by rfl, by (intro W; go_simp; (try with_reducible rfl))⟩
      (try simp only [Act.put, List.setIfInBounds_toArray, List.set_cons_zero, List.set_cons_succ])
      refine tillH_take (i := 3) (oi := ?oo4) (v := ?vv4) ?hi4 (by kernel_rfl) (by kernel_rfl) (by kernel_rfl) ?hq4 (by kernel_rfl) (by kernel_rfl) (by kernel_rfl) ?hy4 S0 ?hh4
      case hi4 => (simp only [List.getElem?_toArray, List.getElem?_cons_succ, List.getElem?_cons_zero]; rfl)
      case hq4 => exact fun _ _ _ h => h
      case hy4 => exact Or.inl ⟨by rfl, by (intro W hSw; (try obtain ⟨s0, s1, s2, s3⟩ := hSw); go_simp; (try with_reducible rfl))⟩
      (try simp only [Act.put, List.setIfInBounds_toArray, List.set_cons_zero, List.set_cons_succ])
      refine tillH_take (i := 4) (oi := ?oo5) (v := ?vv5) ?hi5 (by kernel_rfl) (by kernel_rfl) (by kernel_rfl) ?hq5 (by kernel_rfl) (by kernel_rfl) (by kernel_rfl) ?hy5 S0 ?hh5
      case hi5 => (simp only [List.getElem?_toArray, List.getElem?_cons_succ, List.getElem?_cons_zero]; rfl)
      case hq5 => exact fun _ _ _ h => h
      case hy5 => exact Or.inl ⟨by rfl, by (intro W hSw; (try obtain ⟨s0, s1, s2, s3⟩ := hSw); go_simp; (try with_reducible rfl))⟩
      (try simp only [Act.put, List.setIfInBounds_toArray, List.set_cons_zero, List.set_cons_succ])
      refine tillH_next (rs := [5, 10]) (by kernel_rfl) (by simp) ?_
      refine NextH.cons rfl (fun K hK => ?_) (NextH.cons rfl (fun K hK => ?_) NextH.nil)
      · go_simp
        refine (HGC.out _ HBD.out).mono ?_
        rintro e E15 ⟨rfl, b6⟩
        have HBD15 := Lib.hid (HBD.out.trans (b6.mono HBD.out.size))
        refine hK.out _ _ (fun h => absurd h (by simp)) ?_
        clear hK K
        (try simp only [Act.put, List.setIfInBounds_toArray, List.set_cons_zero, List.set_cons_succ])
        clear b6
        refine tillH_takeAny (i := 6) (oi := ?oo6) (v := ?vv6) ?hi6 (by kernel_rfl) (by kernel_rfl) (by kernel_rfl) ?hq6 (by kernel_rfl) ?hy6 (fun h => absurd h (by simp)) ?hh6
        case hi6 => (simp only [List.getElem?_toArray, List.getElem?_cons_succ, List.getElem?_cons_zero]; rfl)
        case hq6 => exact fun _ _ _ h => h
        case hy6 => exact Or.inl ⟨by rfl, by (intro W; go_simp; (try with_reducible rfl))⟩
        (try simp only [Act.put, List.setIfInBounds_toArray, List.set_cons_zero, List.set_cons_succ])
        refine tillH_takeAny (i := 7) (oi := ?oo7) (v := ?vv7) ?hi7 (by kernel_rfl) (by kernel_rfl) (by kernel_rfl) ?hq7 (by kernel_rfl) ?hy7 (fun h => absurd h (by simp)) ?hh7
        case hi7 => (simp only [List.getElem?_toArray, List.getElem?_cons_succ, List.getElem?_cons_zero]; rfl)
        case hq7 => exact fun _ _ _ h => h
        case hy7 => exact Or.inl ⟨by rfl, by (intro W; go_simp; (try with_reducible rfl))⟩
        (try simp only [Act.put, List.setIfInBounds_toArray, List.set_cons_zero, List.set_cons_succ])
        refine tillH_takeAny (i := 8) (oi := ?oo8) (v := ?vv8) ?hi8 (by kernel_rfl) (by kernel_rfl) (by kernel_rfl) ?hq8 (by kernel_rfl) ?hy8 (fun h => absurd h (by simp)) ?hh8
        case hi8 => (simp only [List.getElem?_toArray, List.getElem?_cons_succ, List.getElem?_cons_zero]; rfl)
        case hq8 => exact fun _ _ _ h => h
        case hy8 => exact Or.inl ⟨by rfl, by (intro W; go_simp; (try with_reducible rfl))⟩
        (try simp only [Act.put, List.setIfInBounds_toArray, List.set_cons_zero, List.set_cons_succ])
        refine tillH_takeAny (i := 9) (oi := ?oo9) (v := ?vv9) ?hi9 (by kernel_rfl) (by kernel_rfl) (by kernel_rfl) ?hq9 (by kernel_rfl) ?hy9 (fun h => absurd h (by simp)) ?hh9
        case hi9 => (simp only [List.getElem?_toArray, List.getElem?_cons_succ, List.getElem?_cons_zero]; rfl)
        case hq9 => exact fun _ _ _ h => h
        case hy9 => exact Or.inl ⟨by rfl, by (intro W; go_simp; (try with_reducible rfl))⟩
        (try simp only [Act.put, List.setIfInBounds_toArray, List.set_cons_zero, List.set_cons_succ])
        refine tillH_next (rs := [10]) (by kernel_rfl) (by simp) ?_
        refine NextH.cons rfl (fun K hK => ?_) NextH.nil
        go_simp
        have ba := (Below.refl E15.heap.size E15).alloc (Nat.le_refl _) (.cells #[.int .i64 0, .int .i64 0, .string ⟨#[]⟩] 34)
        have HBD1110 := Lib.hid (And.intro (HBD15.out.trans (ba.mono HBD15.out.size)) (And.intro (Blk.new E15 34 #[.int .i64 0, .int .i64 0, .string ⟨#[]⟩]) HBD15.out.size))
        refine hK.out _ _ (fun h => absurd h (by simp)) ?_
        clear hK K
        (try simp only [Act.put, List.setIfInBounds_toArray, List.set_cons_zero, List.set_cons_succ])
        generalize E15.alloc (.cells #[.int .i64 0, .int .i64 0, .string ⟨#[]⟩] 34) = E1110 at *
        generalize E15.heap.size = rr at *
        clear ba
        have rb := HBD1110.out.2.1
        have z0 := rb.frozen 0
        have z1 := rb.frozen 1
        have z2 := rb.frozen 2
        have y0 : E1110.cell? ⟨rr, 0, none⟩ = some (.int .i64 0) := by rw [rb.cell]; rfl
        have y1 : E1110.cell? ⟨rr, 1, none⟩ = some (.int .i64 0) := by rw [rb.cell]; rfl
        have y2 : E1110.cell? ⟨rr, 2, none⟩ = some (.string ⟨#[]⟩) := by rw [rb.cell]; rfl
        have lr := rb.lt
        have hbl : Blk (((E1110.setCell ⟨rr, 0, none⟩ (.int .i64 g1)).setCell ⟨rr, 1, none⟩ (.int .i64 g2)).setCell ⟨rr, 2, none⟩ (.string g3)) rr 34 #[.int .i64 g1, .int .i64 g2, .string g3] := (((rb.set_ 0 _).set_ 1 _).set_ 2 _)
        have hbe : Below W2.heap.size W2 (((E1110.setCell ⟨rr, 0, none⟩ (.int .i64 g1)).setCell ⟨rr, 1, none⟩ (.int .i64 g2)).setCell ⟨rr, 2, none⟩ (.string g3)) := (((HBD1110.out.1.setCell (p := ⟨rr, 0, none⟩) (by show W2.heap.size ≤ rr; exact HBD1110.out.2.2) _).setCell (p := ⟨rr, 1, none⟩) (by show W2.heap.size ≤ rr; exact HBD1110.out.2.2) _).setCell (p := ⟨rr, 2, none⟩) (by show W2.heap.size ≤ rr; exact HBD1110.out.2.2) _)
        have HF := Lib.hid (And.intro hbe (And.intro hbl HBD1110.out.2.2))
        clear rb hbl hbe
        refine tillH_next (rs := [11]) (by kernel_rfl) (by simp) ?_
        refine NextH.cons rfl (fun K hK => ?_) NextH.nil
        go_simp
        refine hK.out _ _ (fun h => absurd h (by simp)) ?_
        clear hK K
        (try simp only [Act.put, List.setIfInBounds_toArray, List.set_cons_zero, List.set_cons_succ])
        refine tillH_takeAny (i := 12) (oi := ?oo10) (v := ?vv10) ?hi10 (by kernel_rfl) (by kernel_rfl) (by kernel_rfl) ?hq10 (by kernel_rfl) ?hy10 (fun h => absurd h (by simp)) ?hh10
        case hi10 => (simp only [List.getElem?_toArray, List.getElem?_cons_succ, List.getElem?_cons_zero]; rfl)
        case hq10 => exact fun _ _ _ h => h
        case hy10 => exact Or.inl ⟨by rfl, by (intro W; go_simp; (try with_reducible rfl))⟩
        (try simp only [Act.put, List.setIfInBounds_toArray, List.set_cons_zero, List.set_cons_succ])
        refine tillH_takeAny (i := 13) (oi := ?oo11) (v := ?vv11) ?hi11 (by kernel_rfl) (by kernel_rfl) (by kernel_rfl) ?hq11 (by kernel_rfl) ?hy11 (fun h => absurd h (by simp)) ?hh11
        case hi11 => (simp only [List.getElem?_toArray, List.getElem?_cons_succ, List.getElem?_cons_zero]; rfl)
        case hq11 => exact fun _ _ _ h => h
        case hy11 => exact Or.inl ⟨by rfl, by (intro W; go_simp; (try with_reducible rfl))⟩
        (try simp only [Act.put, List.setIfInBounds_toArray, List.set_cons_zero, List.set_cons_succ])
        refine tillH_done (by kernel_rfl) ?_ _
        refine HKV.out _ _ ?_
        go_wp2_with (fail)
        go_meet
        exact ⟨rr, rfl, rfl, rfl, Lib.hid ⟨HF.out.1, HF.out.2.1⟩⟩
      · go_simp
        have ba := (Below.refl E.heap.size E).alloc (Nat.le_refl _) (.cells #[.int .i64 0, .int .i64 0, .string ⟨#[]⟩] 34)
        have HBD110 := Lib.hid (And.intro (HBD.out.trans (ba.mono HBD.out.size)) (And.intro (Blk.new E 34 #[.int .i64 0, .int .i64 0, .string ⟨#[]⟩]) HBD.out.size))
        have S2 : (E.alloc (.cells #[.int .i64 0, .int .i64 0, .string ⟨#[]⟩] 34)).cell? ⟨b, 3, none⟩ = some (.pointer (some ⟨T, 0, none⟩)) ∧ (E.alloc (.cells #[.int .i64 0, .int .i64 0, .string ⟨#[]⟩] 34)).cell? ⟨q2, 0, none⟩ = some (.int .i64 k1) ∧ (E.alloc (.cells #[.int .i64 0, .int .i64 0, .string ⟨#[]⟩] 34)).cell? ⟨q2, 1, none⟩ = some (.int .i64 k2) ∧ (E.alloc (.cells #[.int .i64 0, .int .i64 0, .string ⟨#[]⟩] 34)).cell? ⟨q2, 2, none⟩ = some (.string k3) := by
          obtain ⟨s0, s1, s2, s3⟩ := S0
          exact ⟨(ba.cell (World.block_lt_of_cell? E _ s0)).trans s0, (ba.cell (World.block_lt_of_cell? E _ s1)).trans s1, (ba.cell (World.block_lt_of_cell? E _ s2)).trans s2, (ba.cell (World.block_lt_of_cell? E _ s3)).trans s3⟩
        refine hK.out _ _ (fun _ => S2) ?_
        clear hK K
        (try simp only [Act.put, List.setIfInBounds_toArray, List.set_cons_zero, List.set_cons_succ])
        generalize E.alloc (.cells #[.int .i64 0, .int .i64 0, .string ⟨#[]⟩] 34) = E110 at *
        generalize E.heap.size = rr at *
        clear ba
        refine tillH_next (rs := [5]) (by kernel_rfl) (by simp) ?_
        refine NextH.cons rfl (fun K hK => ?_) NextH.nil
        go_simp
        refine (HGC.out _ HBD110.out.1).mono ?_
        rintro e E125 ⟨rfl, b6⟩
        have HBD125 := Lib.hid (And.intro (HBD110.out.1.trans (b6.mono HBD110.out.1.size)) (And.intro (HBD110.out.2.1.below b6 HBD110.out.2.1.lt) HBD110.out.2.2))
        refine hK.out _ _ (fun h => absurd h (by simp)) ?_
        clear hK K
        (try simp only [Act.put, List.setIfInBounds_toArray, List.set_cons_zero, List.set_cons_succ])
        clear b6
        refine tillH_takeAny (i := 6) (oi := ?oo12) (v := ?vv12) ?hi12 (by kernel_rfl) (by kernel_rfl) (by kernel_rfl) ?hq12 (by kernel_rfl) ?hy12 (fun h => absurd h (by simp)) ?hh12
        case hi12 => (simp only [List.getElem?_toArray, List.getElem?_cons_succ, List.getElem?_cons_zero]; rfl)
        case hq12 => exact fun _ _ _ h => h
        case hy12 => exact Or.inl ⟨by rfl, by (intro W; go_simp; (try with_reducible rfl))⟩
        (try simp only [Act.put, List.setIfInBounds_toArray, List.set_cons_zero, List.set_cons_succ])
        refine tillH_takeAny (i := 7) (oi := ?oo13) (v := ?vv13) ?hi13 (by kernel_rfl) (by kernel_rfl) (by kernel_rfl) ?hq13 (by kernel_rfl) ?hy13 (fun h => absurd h (by simp)) ?hh13
        case hi13 => (simp only [List.getElem?_toArray, List.getElem?_cons_succ, List.getElem?_cons_zero]; rfl)
        case hq13 => exact fun _ _ _ h => h
        case hy13 => exact Or.inl ⟨by rfl, by (intro W; go_simp; (try with_reducible rfl))⟩
        (try simp only [Act.put, List.setIfInBounds_toArray, List.set_cons_zero, List.set_cons_succ])
        refine tillH_takeAny (i := 8) (oi := ?oo14) (v := ?vv14) ?hi14 (by kernel_rfl) (by kernel_rfl) (by kernel_rfl) ?hq14 (by kernel_rfl) ?hy14 (fun h => absurd h (by simp)) ?hh14
        case hi14 => (simp only [List.getElem?_toArray, List.getElem?_cons_succ, List.getElem?_cons_zero]; rfl)
        case hq14 => exact fun _ _ _ h => h
        case hy14 => exact Or.inl ⟨by rfl, by (intro W; go_simp; (try with_reducible rfl))⟩
        (try simp only [Act.put, List.setIfInBounds_toArray, List.set_cons_zero, List.set_cons_succ])
        refine tillH_takeAny (i := 9) (oi := ?oo15) (v := ?vv15) ?hi15 (by kernel_rfl) (by kernel_rfl) (by kernel_rfl) ?hq15 (by kernel_rfl) ?hy15 (fun h => absurd h (by simp)) ?hh15
        case hi15 => (simp only [List.getElem?_toArray, List.getElem?_cons_succ, List.getElem?_cons_zero]; rfl)
        case hq15 => exact fun _ _ _ h => h
        case hy15 => exact Or.inl ⟨by rfl, by (intro W; go_simp; (try with_reducible rfl))⟩
        (try simp only [Act.put, List.setIfInBounds_toArray, List.set_cons_zero, List.set_cons_succ])
        have rb := HBD125.out.2.1
        have z0 := rb.frozen 0
        have z1 := rb.frozen 1
        have z2 := rb.frozen 2
        have y0 : E125.cell? ⟨rr, 0, none⟩ = some (.int .i64 0) := by rw [rb.cell]; rfl
        have y1 : E125.cell? ⟨rr, 1, none⟩ = some (.int .i64 0) := by rw [rb.cell]; rfl
        have y2 : E125.cell? ⟨rr, 2, none⟩ = some (.string ⟨#[]⟩) := by rw [rb.cell]; rfl
        have lr := rb.lt
        have hbl : Blk (((E125.setCell ⟨rr, 0, none⟩ (.int .i64 g1)).setCell ⟨rr, 1, none⟩ (.int .i64 g2)).setCell ⟨rr, 2, none⟩ (.string g3)) rr 34 #[.int .i64 g1, .int .i64 g2, .string g3] := (((rb.set_ 0 _).set_ 1 _).set_ 2 _)
        have hbe : Below W2.heap.size W2 (((E125.setCell ⟨rr, 0, none⟩ (.int .i64 g1)).setCell ⟨rr, 1, none⟩ (.int .i64 g2)).setCell ⟨rr, 2, none⟩ (.string g3)) := (((HBD125.out.1.setCell (p := ⟨rr, 0, none⟩) (by show W2.heap.size ≤ rr; exact HBD125.out.2.2) _).setCell (p := ⟨rr, 1, none⟩) (by show W2.heap.size ≤ rr; exact HBD125.out.2.2) _).setCell (p := ⟨rr, 2, none⟩) (by show W2.heap.size ≤ rr; exact HBD125.out.2.2) _)
        have HF := Lib.hid (And.intro hbe (And.intro hbl HBD125.out.2.2))
        clear rb hbl hbe
        refine tillH_next (rs := [11]) (by kernel_rfl) (by simp) ?_
        refine NextH.cons rfl (fun K hK => ?_) NextH.nil
        go_simp
        refine hK.out _ _ (fun h => absurd h (by simp)) ?_
        clear hK K
        (try simp only [Act.put, List.setIfInBounds_toArray, List.set_cons_zero, List.set_cons_succ])
        refine tillH_takeAny (i := 12) (oi := ?oo16) (v := ?vv16) ?hi16 (by kernel_rfl) (by kernel_rfl) (by kernel_rfl) ?hq16 (by kernel_rfl) ?hy16 (fun h => absurd h (by simp)) ?hh16
        case hi16 => (simp only [List.getElem?_toArray, List.getElem?_cons_succ, List.getElem?_cons_zero]; rfl)
        case hq16 => exact fun _ _ _ h => h
        case hy16 => exact Or.inl ⟨by rfl, by (intro W; go_simp; (try with_reducible rfl))⟩
        (try simp only [Act.put, List.setIfInBounds_toArray, List.set_cons_zero, List.set_cons_succ])
        refine tillH_takeAny (i := 13) (oi := ?oo17) (v := ?vv17) ?hi17 (by kernel_rfl) (by kernel_rfl) (by kernel_rfl) ?hq17 (by kernel_rfl) ?hy17 (fun h => absurd h (by simp)) ?hh17
        case hi17 => (simp only [List.getElem?_toArray, List.getElem?_cons_succ, List.getElem?_cons_zero]; rfl)
        case hq17 => exact fun _ _ _ h => h
        case hy17 => exact Or.inl ⟨by rfl, by (intro W; go_simp; (try with_reducible rfl))⟩
        (try simp only [Act.put, List.setIfInBounds_toArray, List.set_cons_zero, List.set_cons_succ])
        refine tillH_done (by kernel_rfl) ?_ _
        refine HKV.out _ _ ?_
        go_wp2_with (fail)
        go_meet
        exact ⟨rr, rfl, rfl, rfl, Lib.hid ⟨HF.out.1, HF.out.2.1⟩⟩
    case rest =>
    obtain ⟨gp, rfl, rfl, rfl, HR⟩ := hcut
    have hf3 := HF2.out.1.below HR.out.1
    have kq3 := HF2.out.2.below HR.out.1 HF2.out.2.lt
    cases gb with
    | false =>
      have HE : Hid (∃ Oj, FI o b T lv (.slice (some ⟨g, 0, none⟩) n rcap) Ot w ((o.keys.take (j + 1)).foldl frz1 o.A) Oj wc) := Lib.hid ⟨Oj, by
        rw [HK.out.2.2.1, frz_none HK.out.1 (getA_lost (by rw [HK.out.2.2.2.2.2]))]
        exact hf3⟩
      clear hf3 kq3 y0 y1 y2 x3 HGC HF2
      go_wp2_with fail
      go_roundw
      case rel => exact ⟨j + 1, by omega, rfl, HE⟩
      case measure => simp only [intOf]; omega
    | true =>
      have hKS := HK.out.2.2.2.2.1 (by rw [HK.out.2.2.2.2.2])
      obtain ⟨x, hx, hxk, hxg⟩ := getA_found HK.out.1 (k := (k1, k2, k3)) (by show (getA A' (k1, k2, k3)).2.2 = true; rw [HK.out.2.2.2.2.2])
      have hxg2 : getA A' (k1, k2, k3) = (x.val, x.flags, true) := hxg
      rw [HK.out.2.2.2.2.2] at hxg2
      injection hxg2 with e1 e2
      injection e2 with e2 e3
      have hpf := put_frz HK.out.1 hKS hx hxk
      rw [← e1, ← e2] at hpf
      have hpf2 : putA (k1, k2, k3) (g1, g2, g3) (bits .andNot .i64 gf 5) A' = (o.keys.take (j + 1)).foldl frz1 o.A := by
        rw [HK.out.2.2.1]
        exact hpf
      have HPF := Lib.hid hpf2
      have x3 : wc.cell? ⟨b, 3, none⟩ = some (.pointer (some ⟨T, 0, none⟩)) := by rw [hf3.io.ob.cell]; rfl
      have y0 : wc.cell? ⟨q2, 0, none⟩ = some (.int .i64 k1) := by rw [kq3.cell]; rfl
      have y1 : wc.cell? ⟨q2, 1, none⟩ = some (.int .i64 k2) := by rw [kq3.cell]; rfl
      have y2 : wc.cell? ⟨q2, 2, none⟩ = some (.string k3) := by rw [kq3.cell]; rfl
      have v0 : wc.cell? ⟨gp, 0, none⟩ = some (.int .i64 g1) := by rw [HR.out.2.cell]; rfl
      have v1 : wc.cell? ⟨gp, 1, none⟩ = some (.int .i64 g2) := by rw [HR.out.2.cell]; rfl
      have v2 : wc.cell? ⟨gp, 2, none⟩ = some (.string g3) := by rw [HR.out.2.cell]; rfl
      have HF3 := Lib.hid (And.intro hf3 (And.intro kq3 HR.out.2))
      clear hf3 kq3 HGC HF2 hKS hx hxk hxg e1 e2 e3 hpf hpf2 HR
      go_upto_region 8 with fail
      refine still_tail 8 (by kernel_rfl) (by kernel_rfl) (fun W4 hW4 => ?_)
      have b4 : Below wc.heap.size wc W4 := by rw [hW4]; exact below_drw (Below.refl _ _) 1
      have hf4 := HF3.out.1.below b4
      have kq4 := HF3.out.2.1.below b4 HF3.out.2.1.lt
      have kg4 := HF3.out.2.2.below b4 HF3.out.2.2.lt
      have x3 : W4.cell? ⟨b, 3, none⟩ = some (.pointer (some ⟨T, 0, none⟩)) := by rw [hf4.io.ob.cell]; rfl
      have y0 : W4.cell? ⟨q2, 0, none⟩ = some (.int .i64 k1) := by rw [kq4.cell]; rfl
      have y1 : W4.cell? ⟨q2, 1, none⟩ = some (.int .i64 k2) := by rw [kq4.cell]; rfl
      have y2 : W4.cell? ⟨q2, 2, none⟩ = some (.string k3) := by rw [kq4.cell]; rfl
      have v0 : W4.cell? ⟨gp, 0, none⟩ = some (.int .i64 g1) := by rw [kg4.cell]; rfl
      have v1 : W4.cell? ⟨gp, 1, none⟩ = some (.int .i64 g2) := by rw [kg4.cell]; rfl
      have v2 : W4.cell? ⟨gp, 2, none⟩ = some (.string g3) := by rw [kg4.cell]; rfl
      have lbb := hf4.io.ob.lt
      have HF4 := Lib.hid hf4
      clear hf4 kq4 kg4 b4 hW4 HF3
      simp only [List.take_succ_cons, List.take_zero, List.drop_succ_cons, List.drop_zero]
      repeat still_step
      refine wpStill_nil ?_
      go_wp2_with (fail)
      refine (Go.Proofs.YtmimnaaofpkndaaDoor.put_any T A' [] Oj (k1, k2, k3) (g1, g2, g3) (bits .andNot .i64 gf 5) W4 HF4.out.io.tab HK.out.2.1 HK.out.2.2.2.1 (by simp)).mono ?_
      rintro e W5 ⟨rfl, hT5, u5⟩
      have hfin := HF4.out.put hbw hT5 u5 (fun k hk => hk.imp id And.left)
      rw [HPF.out] at hfin
      have HE : Hid (∃ Oj, FI o b T lv (.slice (some ⟨g, 0, none⟩) n rcap) Ot w ((o.keys.take (j + 1)).foldl frz1 o.A) Oj W5) := Lib.hid ⟨_, hfin⟩
      clear hT5 u5 hfin HF4 x3 y0 y1 y2 v0 v1 v2 lbb
      go_wp2_with fail
      go_roundw
      case rel => exact ⟨j + 1, by omega, rfl, HE⟩
      case measure => simp only [intOf]; omega
  · obtain rfl : j = n := by omega
    have t2 : decide ((j : Int) < (j : Int)) = false := by simp
    have hall : (o.keys.take j).foldl frz1 o.A = o.A.map frzE := by
      rw [← HN.out.1, List.take_length, frzF_keys HB.out.2.1]
    rw [hall] at hfj
    have hfin : Left o b T lv Ot w o.freeze wr := ⟨hfj.up, lv, Oj, hfj.io, fun k hk => by
      rcases hk with e | e | e
      · exact .inl (.inl e)
      · exact .inl (.inr (.inl e))
      · exact (hfj.sub k e).imp (fun q => .inr (.inr q)) id⟩
    have HE := Lib.hid hfin
    clear hfj hfin hall
    go_wp2
    go_end0
    exact ⟨⟨_, rfl⟩, HE.out⟩
end Go.Proofs.YtmimnaaofpkndaaDoor.Hp
