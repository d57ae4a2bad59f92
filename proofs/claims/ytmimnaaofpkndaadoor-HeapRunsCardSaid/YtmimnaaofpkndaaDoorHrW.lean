/- HeapRuns: an object's places: keys that tell places, rising. -/
import Derived.Test.YtmimnaaofpkndaaDoorHrV
import Derived.Test.YtmimnaaofpkndaaDoorHrQ
set_option linter.unusedVariables false
set_option linter.unusedSimpArgs false
namespace Go.Proofs.YtmimnaaofpkndaaDoor.Hp
open Go.RowKit Go.Proofs.YtmimnaaofpkndaaDoor Go.Shelf Go.Sort
attribute [local go_sem] Oper.semAt_some
theorem slice_low {P : Program} {T E : TypeId} (ht : P.underlying T = some (.slice E)) (he : P.elem T = E) {i0 : TypeInfo} (hi0 : P.info? E = some i0) (hs : i0.size = 3) (g n cap lo : Nat) (h2 : lo ≤ n) (h3 : n ≤ cap) :
    ∃ dp, (lo < n → dp = some ⟨g, lo * 3, none⟩) ∧ ∀ W, (Instr.slice T (.slice (some ⟨g, 0, none⟩) n cap) (some (.int .i64 (lo : Int))) none none).run P W = .ok (.slice dp (n - lo) (cap - lo)) W := by
  refine ⟨if cap = lo then some ⟨g, 0, none⟩ else some ((⟨g, 0, none⟩ : Addr).add (lo * 3)), fun h => ?_, fun W => ?_⟩
  · rw [if_neg (by omega), add_atv, Nat.zero_add]
  · rw [run_slice_l W T _ n cap (by rw [he]; exact ht) .i64 lo (by omega) (by omega), he]
    simp [sizeOf, typeInfo, hi0, hs, Result.andThen, sliced]
/-- The places among keys, sorted. -/
def PlS (pre : List Ent) (m : List Nat) : Prop := m.Pairwise (· < ·) ∧ ∀ x, x ∈ m ↔ x ∈ plcI pre
theorem pre_ok {o : PO} (hO : o.Ok) {pre : List Ent} (hp : pre <+: o.A) : PO.Ok ⟨false, false, 0, pre, []⟩ :=
  ⟨fun x hx => hO.ks x (hp.subset hx), hO.nd.sublist hp.sublist, fun h => (by cases h), fun _ => rfl, Nat.zero_le _⟩
theorem PlS.lt {o : PO} (hO : o.Ok) {pre : List Ent} (hp : pre <+: o.A) {m : List Nat} (h : PlS pre m) : ∀ i ∈ m, i < 13 := fun i hi => ((plcI_mem (pre_ok hO hp) i).1 ((h.2 i).1 hi)).1
theorem PlS.len {o : PO} (hO : o.Ok) {pre : List Ent} (hp : pre <+: o.A) {m : List Nat} (h : PlS pre m) : m.length ≤ 13 :=
  nodup_len (h.1.imp (fun hab => Nat.ne_of_lt hab)) (h.lt hO hp)
theorem plcI_one (pre : List Ent) (e : Ent) : plcI (pre ++ [e]) = plcI pre ++ if e.key.1 = 7 ∧ 0 ≤ plcV e.key then [(plcV e.key).toNat] else [] := by
  unfold plcI
  rw [List.filter_append, List.map_append]
  congr 1
  by_cases h : e.key.1 = 7 ∧ 0 ≤ plcV e.key
  · simp [h]
  · rw [if_neg h]
    have : (decide (e.key.1 = 7) && decide (0 ≤ plcV e.key)) = false := by
      rw [Bool.eq_false_iff]
      intro hc
      rw [Bool.and_eq_true, decide_eq_true_eq, decide_eq_true_eq] at hc
      exact h hc
    simp [this]
theorem PlS.skip {pre : List Ent} {m : List Nat} (h : PlS pre m) {e : Ent} (he : ¬ (e.key.1 = 7 ∧ 0 ≤ plcV e.key)) : PlS (pre ++ [e]) m := by
  refine ⟨h.1, fun x => ?_⟩
  rw [plcI_one, if_neg he, List.append_nil]
  exact h.2 x
theorem PlS.no {o : PO} (hO : o.Ok) {pre : List Ent} {e : Ent} (hp : (pre ++ [e]) <+: o.A) {m : List Nat} (h : PlS pre m) {i : Nat} (hk : e.key = keyD i) : i ∉ m := by
  intro hi
  have hp0 : pre <+: o.A := (List.prefix_append pre [e]).trans hp
  obtain ⟨_, _, x, hx, hxk⟩ := (plcI_mem (pre_ok hO hp0) i).1 ((h.2 i).1 hi)
  have hnd := hO.nd.sublist hp.sublist
  rw [List.pairwise_append] at hnd
  exact hnd.2.2 x hx e (List.mem_singleton.2 rfl) (hxk.trans hk.symm)
theorem PlS.ins {pre : List Ent} {m : List Nat} (h : PlS pre m) {e : Ent} {i j : Nat} (hi : i < 13) (hk : e.key = keyD i) (h1 : ∀ x ∈ m.take j, x < i) (h2 : ∀ x ∈ m.drop j, i < x) : PlS (pre ++ [e]) (insN m j i) := by
  have hp : plcV e.key = (i : Int) := by rw [hk]; exact plcV_keyD i (by omega)
  refine ⟨insN_sorted h.1 h1 h2, fun x => ?_⟩
  rw [insN_mem, h.2, plcI_one, if_pos ⟨by rw [hk]; rfl, by omega⟩, List.mem_append, List.mem_singleton, hp]
  have e1 : ((i : Int)).toNat = i := by omega
  rw [e1]
  exact Or.comm
theorem take_lt {m : List Nat} {i j : Nat} (hs : m.Pairwise (· < ·)) (hj : 0 < j) (hjm : j ≤ m.length) (h : m[j - 1]'(by omega) < i) : ∀ x ∈ m.take j, x < i := by
  intro x hx
  obtain ⟨k, hk, rfl⟩ := List.getElem_of_mem hx
  rw [List.length_take] at hk
  rw [List.getElem_take]
  by_cases e : k = j - 1
  · subst e; exact h
  · have := (List.pairwise_iff_getElem.1 hs) k (j - 1) (by omega) (by omega) (by omega)
    omega
theorem map_ins (m : List Nat) (i j : Nat) (hj : j ≤ m.length) : (upL (m.map keyD ++ [z3]) j).set j (keyD i) = (insN m j i).map keyD := by
  rw [upL_set _ _ _ (by rw [List.length_map]; exact hj)]
  unfold insN
  rw [List.map_append, List.map_cons, List.map_take, List.map_drop]
/-- What places comes to. -/
def PlcP (A : List Ent) (T : Nat) (Ot : Nat → Prop) (w : World) (e : Ending) (w' : World) : Prop :=
  ∃ rv m O', e = .returned rv ∧ PlS A m ∧ w'.ownsRow w.heap.size 34 3 rv m.length (valsC (m.map keyD)) ∧ TabA w' T A [] O' ∧ (∀ k, O' k → Ot k ∨ w.heap.size ≤ k) ∧ Upd w w' Ot ∧ ∀ g, rv.ownBlock = some g → ¬ O' g
set_option maxHeartbeats 40000000 in
set_option maxRecDepth 100000 in
theorem places_any {o : PO} {b T : Nat} {lv : Value} {Ot : Nat → Prop} {w : World} (h : LieO o b T lv Ot w) (hO : o.Ok) (hA : o.A.length ≤ 4000) :
    Calls Tryd.prog 67 #[.pointer (some ⟨b, 0, none⟩)] w (PlcP o.A T Ot w) := by
  have x3 : w.cell? ⟨b, 3, none⟩ = some (.pointer (some ⟨T, 0, none⟩)) := by rw [h.ob.cell]; rfl
  obtain ⟨D0, hD0⟩ : ∃ D0, w.heap.size = D0 := ⟨_, rfl⟩
  have hbD : b < D0 := hD0 ▸ h.ob.lt
  obtain ⟨i0, hi, hz0, hz1, hz2⟩ := info_parts infoVal
  have HB := Lib.hid (And.intro h (And.intro hO hA))
  clear h hO hA
  refine callsM_of_wp Tryd.func67 rfl ?_
  simp only [Tryd.ntmps67, List.size_toArray, List.length_cons, List.length_nil, Nat.reduceAdd, Nat.reduceSub, Array.replicate_succ, Array.replicate_zero, List.push_toArray, List.append_toArray, List.nil_append, List.cons_append]
  go_wp2_with (go_at_call 55; refine (all_fn T _).mono ?_; rintro e w2 ⟨rfl, rfl⟩)
  obtain ⟨hB, hO, hA⟩ := HB.out
  have hT := hB.tab
  have hOl := hB.lt
  obtain ⟨W2, hW2⟩ : ∃ W2, (w.alloc (.cells #[.slice none 0 0] 45)).alloc (.cells #[.pointer (some ⟨T, 0, none⟩)] 44) = W2 := ⟨_, rfl⟩
  have b2 : Below w.heap.size w W2 := by rw [← hW2]; exact ((Below.refl _ _).alloc (Nat.le_refl _) _).alloc (by simp) _
  have sz2 : W2.heap.size = D0 + 2 := by rw [← hW2, ← hD0]; simp
  have kL : Blk W2 D0 45 #[.slice none 0 0] := by rw [← hW2, ← hD0]; exact (Blk.new w _ _).alloc _
  have kB : Blk W2 (D0 + 1) 44 #[.pointer (some ⟨T, 0, none⟩)] := by
    rw [← hW2, ← hD0]
    have := Blk.new (w.alloc (.cells #[.slice none 0 0] 45)) 44 #[.pointer (some ⟨T, 0, none⟩)]
    rw [World.size_alloc] at this
    exact this
  have hT2 := hT.below b2
  have H2 := Lib.hid (And.intro b2 (And.intro kL (And.intro kB (And.intro hT2 hOl))))
  rw [hW2]
  clear hW2 hB hT hO hA hOl kL kB hT2 x3 b2
  refine wpIn_wide.1 (wpIn_range_b (F := Fence.wide) (n := 9) rfl (by decide) (gf := 77) (argsOf := fun l => #[.func (.yield l) #[] #[], .pointer (some ⟨D0 + 1, 0, none⟩)]) ?res (encs := fun x : Ent => #[VK x.key, VK x.val]) (fun _ => rfl) o.A False Ot ?lt0 (AllFin T o.A []) ?seq (fun O1 W' l o hF hl => hF.put hl o)
    (fun O1 pre W' => ∃ lv m, Coll w (D0 + 2) D0 [] Ot lv (m.map keyD) O1 W' ∧ PlS pre m) (fun _ _ _ _ => False) (fun _ _ _ _ h => h) ?iup ?igr (fun _ _ _ _ _ h _ => h) ?iput (fun _ _ _ _ _ _ _ h _ _ _ => h) ?h0
    (fun O1 pre e a' W' => ∃ b1, a' = ⟨#[.pointer (some ⟨b, 0, none⟩), undef, .slice none 0 0, .pointer (some ⟨D0, 0, none⟩), .pointer (some ⟨b1, 0, none⟩), undef, undef, .pointer (some ⟨b, 0, none⟩), .pointer (some ⟨b, 0, none⟩), .pointer (some ⟨b, 3, none⟩), .pointer (some ⟨T, 0, none⟩), .func (.func 77) #[] #[.pointer (some ⟨D0 + 1, 0, none⟩)], VK e.key, VK e.val, undef, undef, undef, undef, undef, undef, undef, undef, undef, undef, undef, undef, undef, undef, undef, undef, undef, undef, undef, undef, undef, undef, undef, undef, undef, undef, undef, undef, undef, undef, undef, undef, undef, undef, undef, undef, undef, undef, undef, undef, undef, undef, undef, undef], []⟩ ∧ Blk W' b1 34 #[.int .i64 e.key.1, .int .i64 e.key.2.1, .string e.key.2.2] ∧ ∀ lv, Blk W' D0 45 #[lv] → lv.ownBlock ≠ some b1) ?ax ?assign ?body ?done (fun _ _ _ _ _ _ _ _ h _ => h.elim))
  case res => exact fun l W => ⟨({ target := .fn (.func 77) #[.pointer (some ⟨D0 + 1, 0, none⟩)], args := #[.func (.yield l) #[] #[]] } : Deferred), by kernel_rfl, fun _ _ => trivial, by kernel_rfl⟩
  case lt0 => exact fun k hk => Nat.lt_of_lt_of_le (H2.out.2.2.2.2 k hk) H2.out.1.size
  case seq => exact fun l W' u => all_b 8 (by decide) l T o.A [] Ot False W' (D0 + 1) (u.blk H2.out.2.2.1 (fun h => h)) (H2.out.2.2.2.1.upd u (fun _ _ h => h)) (by have := HB.out.2.2; omega) (by simp)
  case iup => exact fun O1 pre V V' ⟨lv, m, h, hm⟩ u => ⟨lv, m, h.turn u (fun k hk => .inl hk) (fun k hk => Nat.lt_of_lt_of_le (h.lt k hk) u.size), hm⟩
  case igr => exact fun O1 O1' pre V V' ⟨lv, m, h, hm⟩ u g1 g2 g3 => ⟨lv, m, h.turn u g2 g3, hm⟩
  case iput => exact fun O1 pre V l' o o' ⟨lv, m, h, hm⟩ hl hk ho' => ⟨lv, m, h.put o' hk ho' (by omega), hm⟩
  case h0 =>
    intro O1 V u hsz hO1 hlt
    obtain ⟨b2, kL, kB, hT2, hOl⟩ := H2.out
    have nO : ∀ k, D0 ≤ k → ¬ Ot k := fun k hk e => by have := hOl k e; omega
    have nO1 : ∀ k, k < W2.heap.size → ¬ Ot k → ¬ O1 k := fun k hk h e => (hO1 k e).elim h (fun e => by omega)
    exact ⟨_, [], ⟨u.blk kL (nO _ (Nat.le_refl _)), World.ownsRow_nil _ _ _ _, fun g hg => (by (simp [Value.ownBlock] at hg)), fun x hx => (List.not_mem_nil hx).elim, fun x hx => (List.not_mem_nil hx).elim, (Upd.of_below_all b2).trans u, fun k hk => (hO1 k hk).imp id (fun e => by omega), hlt, nO1 _ (by omega) (nO _ (Nat.le_refl _)), by omega, by omega⟩, List.Pairwise.nil, fun x => by simp [plcI]⟩
  case ax =>
    rintro O1 pre e a' V l' o o' ⟨b1, rfl, k1, kx⟩ hl hk ho'
    have nb : ∀ {g : Nat} {t : TypeId} {xs : Array Value}, Blk V g t xs → ¬ g = l' := fun hb e => by subst e; rw [show V.heap[_]? = _ from hb] at hk; cases hk; cases ho'
    have hlD : l' ≠ D0 := by omega
    exact ⟨b1, rfl, (Upd.put V l' o').blk k1 (nb k1), fun lv hb => kx lv ((World.putObj_heap_other (Ne.symm hlD)).symm.trans hb)⟩
  case assign =>
    intro l' O1 pre e V K1 hI1 _ hK1
    gi_wp2
    have b1 := ((Below.refl V.heap.size V).alloc (Nat.le_refl _) (.cells #[.int .i64 e.key.1, .int .i64 e.key.2.1, .string e.key.2.2] 34))
    obtain ⟨lv, m, hc, hm⟩ := hI1
    refine hK1 _ _ (KeepsOthers.alloc _ _) (Upd.of_below_all b1) ⟨lv, m, hc.below b1, hm⟩ ⟨_, rfl, Blk.new V _ _, fun lv' hb he => ?_⟩
    have h1 : Blk _ D0 45 #[lv] := (hc.below b1).box
    unfold Blk at h1 hb
    rw [h1] at hb
    have e1 : lv = lv' := by injection hb with hb; injection hb with hb; injection hb with hb; injection hb
    subst e1
    have := (hc.row.lt _ he).2
    omega
  case body =>
    rintro l' O1 pre e a' V ⟨lv1, m, hC, hm⟩ ⟨b1, rfl, k1, kx⟩ hpre
    obtain ⟨hks, hgr, -, -⟩ := HB.out.2.1.ks e (hpre.subset (by simp))
    have hsz : e.key.2.2.size ≤ 4000 := ks_size hks
    have c0 : V.cell? ⟨b1, 0, none⟩ = some (.int .i64 e.key.1) := by rw [k1.cell]; rfl
    have c1 : V.cell? ⟨b1, 1, none⟩ = some (.int .i64 e.key.2.1) := by rw [k1.cell]; rfl
    have c2 : V.cell? ⟨b1, 2, none⟩ = some (.string e.key.2.2) := by rw [k1.cell]; rfl
    have lb := k1.lt
    obtain ⟨iv, hiv⟩ : ∃ iv : Int, Tx.indexOf e.key.2.2 = iv := ⟨_, rfl⟩
    have hix := fun W => Tx.index_any e.key.2.2 W (by omega)
    rw [hiv] at hix
    have HIX := Lib.hid hix
    by_cases hin : e.key.1 = 7 ∧ 0 ≤ plcV e.key
    rotate_left
    · -- no place: it goes on
      have hfin : ∀ q, stepsOn O1 (fun pre W' => ∃ lv m, Coll w (D0 + 2) D0 [] Ot lv (m.map keyD) O1 W' ∧ PlS pre m) (fun _ _ _ => False) (pre ++ [e]) V .normal ⟨#[], []⟩ (V.drewN q) := fun q => by
        have bq := below_drw (Below.refl V.heap.size V) q
        exact ⟨⟨bq.size, fun k o hk _ => (bq.block k (Array.getElem?_eq_some_iff.1 hk).1).trans hk⟩, Upd.of_below_all bq, lv1, m, hC.below bq, hm.skip hin⟩
      have HF := Lib.hid hfin
      by_cases h7 : e.key.1 = 7
      · have t1 : (e.key.1 != 7) = false := by rw [h7]; decide
        have t2 : decide (iv < 0) = true := by
          rw [decide_eq_true_eq]
          have : plcV e.key = iv := by unfold plcV; rw [if_pos h7]; exact hiv
          have h9 : ¬ 0 ≤ plcV e.key := fun h => hin ⟨h7, h⟩
          omega
        rw [h7] at t1 c0
        clear hfin hix hC hm hpre hks hgr hsz hiv hin k1 h7
        gi_wp2_with (refine ⟨trivial, ?_⟩; gi_at_call 68; refine (callsIn_wide.2 (HIX.out _)).mono ?_; rintro e w' ⟨rfl, q, rfl⟩)
        exact HF.out _
      · have t1 : (e.key.1 != 7) = true := by simp [h7]
        clear hfin hix hC hm hpre hks hgr hsz hiv hin k1
        gi_wp2_with (refine ⟨trivial, ?_⟩; gi_at_call 68; refine (callsIn_wide.2 (HIX.out _)).mono ?_; rintro e w' ⟨rfl, q, rfl⟩)
        exact HF.out _
    · -- a place: sorted in
      obtain ⟨h7, hp0⟩ := hin
      have hpv : plcV e.key = iv := by unfold plcV; rw [if_pos h7]; exact hiv
      obtain ⟨i, hi13, hki, hvi⟩ : ∃ i : Nat, i < 13 ∧ e.key = keyD i ∧ iv = (i : Int) := by
        rcases ks_plc hks with hv | ⟨i, h1, h2, h3⟩
        · omega
        · exact ⟨i, h1, h2, by omega⟩
      subst hvi
      have hp0' : pre <+: o.A := (List.prefix_append pre [e]).trans hpre
      have hno := hm.no HB.out.2.1 hpre hki
      have hml := hm.len HB.out.2.1 hp0'
      have hmlt := hm.lt HB.out.2.1 hp0'
      obtain ⟨n, hn⟩ : ∃ n, m.length = n := ⟨_, rfl⟩
      have hlen : (m.map keyD).length = n := by rw [List.length_map, hn]
      obtain ⟨la, lcap, hlv, hla⟩ := own_shape hC.row
      rw [hlen] at hlv hla
      subst hlv
      rw [hn] at hml
      have hbn : (Value.slice la n lcap).ownBlock ≠ some b1 := kx _ hC.box
      have t1 : (e.key.1 != 7) = false := by rw [h7]; decide
      have t2 : decide ((i : Int) < 0) = false := by rw [decide_eq_false_iff_not]; omega
      have hixA : ∀ W, Calls Tryd.prog 68 #[.string e.key.2.2] W fun e w' => e = .returned (.int .i64 (i : Int)) ∧ Below W.heap.size W w' := fun W => (HIX.out W).mono (by rintro e w' ⟨rfl, q, rfl⟩; exact ⟨rfl, below_drw (Below.refl _ _) q⟩)
      have HIA := Lib.hid hixA
      rw [h7] at t1 c0
      have HQ := Lib.hid (And.intro h7 (And.intro hki (And.intro hno (And.intro hmlt (And.intro hn (And.intro hlen (And.intro hla (And.intro hbn (And.intro hp0' (And.intro hm (And.intro hC (And.intro k1 hpre))))))))))))
      clear hix hixA HIX hiv hsz hgr hks hpv hp0 h7 hki hno hmlt hn hlen hla hbn hp0' hm hC k1 kx hpre
      gi_wp2_with (fail)
      refine ⟨trivial, ?_⟩
      refine (callsIn_wide.2 (HIA.out _)).mono ?_
      rintro e1 W1 ⟨rfl, bW1⟩
      have c0 : W1.cell? ⟨b1, 0, none⟩ = some (.int .i64 7) := by rw [(HQ.out.2.2.2.2.2.2.2.2.2.2.2.1.below bW1 HQ.out.2.2.2.2.2.2.2.2.2.2.2.1.lt).cell, ← HQ.out.1]; rfl
      have l1 : W1.cell? ⟨D0, 0, none⟩ = some (.slice la n lcap) := by rw [(HQ.out.2.2.2.2.2.2.2.2.2.2.1.below bW1).box.cell]; rfl
      gi_wp2_with (fail)
      gi_loopw [6] (fun v wr => ∃ j : Nat, j ≤ n ∧ v = .int .i64 (j : Int) ∧ Hid (Below V.heap.size V wr ∧ ∀ x ∈ m.drop j, i < x)) (fun v _ => (intOf v).toNat)
      case atStart => exact ⟨n, Nat.le_refl _, rfl, Lib.hid ⟨bW1, fun x hx => by rw [← HQ.out.2.2.2.2.1, List.drop_length] at hx; cases hx⟩⟩
      case round =>
      obtain ⟨j, hj, rfl, HJ⟩ := hrel
      obtain ⟨bW3, hdr⟩ := HJ.out
      clear c0 c1 c2 lb l1 bW1 HJ
      obtain ⟨h7, hki, hno, hmlt, hn, hlen, hla, hbn, hp0', hm, hC, k1, hpre⟩ := HQ.out
      by_cases hj0 : j = 0
      · obtain ⟨W3, hW3⟩ : ∃ W3, W3 = wr := ⟨_, rfl⟩
        subst hW3
        have hex : ∀ x ∈ m.take j, x < i := fun x hx => by rw [hj0, List.take_zero] at hx; cases hx
        have t3 : decide ((0 : Int) < (j : Int)) = false := by rw [decide_eq_false_iff_not]; omega
        have t5 : ¬ 0 < j := by omega
        clear hj0
        have C3 := hC.below bW3
        have k3 := k1.below bW3 k1.lt
        have l3 : W3.cell? ⟨D0, 0, none⟩ = some (.slice la n lcap) := by rw [C3.box.cell]; rfl
        have lD := C3.box.lt
        obtain ⟨S2, hS2⟩ : ∃ S2, W3.heap.size = S2 := ⟨_, rfl⟩
        have lD' : D0 < S2 := hS2 ▸ lD
        have hr3 : W3.ownsRow D0 34 3 (.slice la n lcap) n (valsC (m.map keyD)) := by have := C3.row; rw [hlen, hD0] at this; exact this
        have hnews := World.news_of_block (cs := #[.int .i64 0, .int .i64 0, .string ⟨#[]⟩]) (t := 34) (fr := (0, 0)) (heap_alloc_new W3 (.cells #[.int .i64 0, .int .i64 0, .string ⟨#[]⟩] 34))
        rw [hS2] at hnews
        have hnb : ∀ W', W3.grownBy W' (Value.slice la n lcap).ownBlock → Blk W' b1 34 #[.int .i64 e.key.1, .int .i64 e.key.2.1, .string e.key.2.2] := fun W' hg => k3.grown hg (fun e => hbn e.symm)
        have H3 := Lib.hid (And.intro C3 (And.intro k3 (And.intro bW3 (And.intro hex hdr))))
        clear C3 k3 bW3 hex hdr hnb h7 hki hno hmlt hn hlen hla hbn hp0' hm hC k1 hpre
        gi_wp2_with (fail)
        refine ⟨trivial, ?_⟩
        gi_wp2_with (gi_at_builtin; refine wpListIn_more rfl _ _ 45 rfl D0 34 i0 _ 3 32 Tryd.underlying45 hi hz0 hz1 hz2 rfl (by decide) _ _ _ rfl (hr3.alloc _) ⟨S2, 0, none⟩ 1 1 [.int .i64 0, .int .i64 0, .string ⟨#[]⟩] rfl rfl hnews (by simp [Value.oneCell']) (by decide) (by unfold maxLen; omega) (by omega) (by simp; omega) _ rfl ?_)
        intro g3 cap3 w3 hown3 hgrow3 hat3 hlt3
        obtain ⟨C3, k3, bW3, hex, hdr⟩ := H3.out
        obtain ⟨h7, hki, hno, hmlt, hn, hlen, hla, hbn, hp0', hm, hC, k1, hpre⟩ := HQ.out
        have h4 := C3.more (n := n) z3 hlen (by rw [hD0]; exact hown3) hgrow3 (hat3.imp id (fun e => by omega))
        have kb3 : Blk w3 b1 34 #[.int .i64 e.key.1, .int .i64 e.key.2.1, .string e.key.2.2] := Blk.grown (k3.alloc _) hgrow3 (fun e => hbn e.symm)
        have f3 := h4.2.2.2.frozen 0
        have l3c : w3.cell? ⟨D0, 0, none⟩ = some (.slice la n lcap) := by rw [h4.2.2.2.cell]; rfl
        have l3l := h4.2.2.2.lt
        have hDb : D0 ≠ b1 := fun e => by have := h4.2.2.2.ne_ kb3 (by decide); exact this e
        have kb4 := kb3.far (p := ⟨D0, 0, none⟩) (Ne.symm hDb) (.slice (some ⟨g3, 0, none⟩) (n + 1) cap3)
        have hbn3 : g3 ≠ b1 := fun e => by
          subst e
          rcases hat3 with q | q
          · exact hbn q
          · have := k3.lt; omega
        have H4 := Lib.hid (And.intro h4.1 (And.intro h4.2.1 (And.intro h4.2.2.1 (And.intro kb4 (And.intro hbn3 (And.intro bW3 (And.intro hex hdr)))))))
        clear h4 kb3 kb4 C3 k3 bW3 hex hdr hown3 hgrow3 hat3 hlt3 hbn3 hDb hr3 hnews l3 H3 h7 hki hno hmlt hn hlen hla hbn hp0' hm hC k1 hpre
        gi_wp2_with (fail)
        clear l3c f3 l3l lD lD' hS2
        obtain ⟨W4, hW4⟩ : ∃ W4, w3.setCell ⟨D0, 0, none⟩ (.slice (some ⟨g3, 0, none⟩) (n + 1) cap3) = W4 := ⟨_, rfl⟩
        rw [hW4] at H4 ⊢
        clear hW4
        have l4 : W4.cell? ⟨D0, 0, none⟩ = some (.slice (some ⟨g3, 0, none⟩) (n + 1) cap3) := by rw [H4.out.1.box.cell]; rfl
        have hcap : n + 1 ≤ cap3 := (own_cap (B := w.heap.size) (xs := valsC (m.map keyD ++ [z3])) (by have := H4.out.1.row; rw [List.length_append, HQ.out.2.2.2.2.2.1] at this; exact this)).1
        have q4 := fun d os => cell_regrown l4 d os
        obtain ⟨j1, hj1⟩ : ∃ j1, j1 = j + 1 := ⟨_, rfl⟩
        have hj1a : j1 ≤ j + 1 := by omega
        have hj1b : j + 1 ≤ j1 := by omega
        have HJ1 := Lib.hid hj1
        clear hj1
        have hlo1 : j1 ≤ n + 1 := by omega
        have hlo0 : j ≤ n + 1 := by omega
        obtain ⟨d1, hd1, hs1⟩ := slice_low (P := Tryd.prog) Tryd.underlying45 rfl hi hz1 g3 (n + 1) cap3 j1 hlo1 hcap
        obtain ⟨d0, hd0, hs0⟩ := slice_low (P := Tryd.prog) Tryd.underlying45 rfl hi hz1 g3 (n + 1) cap3 j hlo0 hcap
        have aj : IntKind.i64.wrap ((j : Int) + 1) = (j1 : Int) := by rw [IntWalk.i64_in _ (by omega)]; omega
        have HD := Lib.hid (And.intro hd1 hd0)
        clear hd1 hd0
        refine quietR_tail 7 (by kernel_rfl) (by kernel_rfl) (by kernel_rfl) ?_
        simp only [List.take_succ_cons, List.take_zero, List.drop_succ_cons, List.drop_zero]
        repeat (
          refine wpQuietIn_step (fun _ _ _ _ => trivial) (fun K hK => ?_)
          go_simp
          refine hK _ ?_
          clear hK K)
        refine wpQuietIn_nil ?_
        rintro W5 ⟨⟨dq, osq⟩, hW5⟩
        have b45 : Below W4.heap.size W4 W5 := by rw [hW5]; exact below_regrown W4 dq osq
        clear hW5 q4
        obtain ⟨C4, u4, ko4, kb4, hbn3, bW3, hex, hdr⟩ := H4.out
        obtain ⟨h7, hki, hno, hmlt, hn, hlen, hla, hbn, hp0', hm, hC, k1, hpre⟩ := HQ.out
        have C5 := C4.below b45
        have hown5 : W5.ownsRow w.heap.size 34 3 (.slice (some ⟨g3, 0, none⟩) (n + 1) cap3) (n + 1) (valsC (m.map keyD ++ [z3])) := by have := C5.row; rw [List.length_append, hlen] at this; exact this
        refine wpListIn_copy_up rfl (.tmp 48) (.tmp 51) 45 rfl w.heap.size 34 Tryd.underlying45 (by rw [hi]; exact congrArg some hz1) g3 (n + 1) cap3 (m.map keyD ++ [z3]) hown5 j (by omega) (by rw [List.length_append, hlen]; rfl) d1 d0 _ _ _ _ rfl rfl (by rw [HJ1.out]) rfl (fun h => ⟨(HD.out.1 (by omega)).trans (by rw [HJ1.out]), HD.out.2 (by omega)⟩) ?_
        intro W6 hown6 u6
        have hup : (upL (m.map keyD ++ [z3]) j).length = n + 1 := by rw [upL_len _ _ (by rw [List.length_append, hlen]; show j < n + 1; omega), List.length_append, hlen]; rfl
        obtain ⟨C6, u6', ko6⟩ := C5.edit u6 (ks' := upL (m.map keyD ++ [z3]) j) (by rw [hup]; exact hown6)
        have kb6 := u6.blk (kb4.below b45 kb4.lt) (fun e => hbn3 e.symm)
        have h9 := C6.setE (i := j) (keyD i) hup (by omega)
        rw [map_ins m i j (by omega)] at h9
        obtain ⟨y, hy⟩ : ∃ y, (upL (m.map keyD ++ [z3]) j)[j]? = some y := ⟨_, List.getElem?_eq_getElem (by rw [hup]; omega)⟩
        have e0 : W6.cell? ⟨g3, j * 3, none⟩ = some (.int .i64 y.1) := (hown6.cellAt (j * 3) (by omega)).trans (valsC_get _ j 0 y hy (by decide))
        have e1 : W6.cell? ⟨g3, j * 3 + 1, none⟩ = some (.int .i64 y.2.1) := (hown6.cellAt (j * 3 + 1) (by omega)).trans (valsC_get _ j 1 y hy (by decide))
        have e2 : W6.cell? ⟨g3, j * 3 + 2, none⟩ = some (.string y.2.2) := (hown6.cellAt (j * 3 + 2) (by omega)).trans (valsC_get _ j 2 y hy (by decide))
        have g0 : W6.frozen? ⟨g3, j * 3, none⟩ = false := hown6.frozenAt _
        have g1 : W6.frozen? ⟨g3, j * 3 + 1, none⟩ = false := hown6.frozenAt _
        have g2 : W6.frozen? ⟨g3, j * 3 + 2, none⟩ = false := hown6.frozenAt _
        have lg := World.block_lt_of_cell? W6 _ e0
        have l6 : W6.cell? ⟨D0, 0, none⟩ = some (.slice (some ⟨g3, 0, none⟩) (n + 1) cap3) := by rw [C6.box.cell]; rfl
        have y0 : W6.cell? ⟨b1, 0, none⟩ = some (.int .i64 (keyD i).1) := by rw [kb6.cell, ← hki]; rfl
        have y1 : W6.cell? ⟨b1, 1, none⟩ = some (.int .i64 (keyD i).2.1) := by rw [kb6.cell, ← hki]; rfl
        have y2 : W6.cell? ⟨b1, 2, none⟩ = some (.string (keyD i).2.2) := by rw [kb6.cell, ← hki]; rfl
        have bV3 : Below V.heap.size V W3 := bW3
        have hfin : stepsOn O1 (fun pre W' => ∃ lv m, Coll w (D0 + 2) D0 [] Ot lv (m.map keyD) O1 W' ∧ PlS pre m) (fun _ _ _ => False) (pre ++ [e]) V .normal ⟨#[], []⟩ (((W6.setCell ⟨g3, j * 3, none⟩ (.int .i64 (keyD i).1)).setCell ⟨g3, j * 3 + 1, none⟩ (.int .i64 (keyD i).2.1)).setCell ⟨g3, j * 3 + 2, none⟩ (.string (keyD i).2.2)) := by
          have kof : ∀ {A B : World}, Below A.heap.size A B → KeepsOthers A B := fun b => ⟨b.size, fun k o hk _ => (b.block k (Array.getElem?_eq_some_iff.1 hk).1).trans hk⟩
          refine ⟨((((kof bV3).trans ko4).trans (kof b45)).trans ko6).trans h9.2.2, ((((Upd.of_below_all bV3).trans u4).trans (Upd.of_below_all b45)).trans u6').trans h9.2.1, _, _, h9.1, hm.ins hi13 hki hex hdr⟩
        have HF := Lib.hid hfin
        obtain ⟨⟨x1, x2, x3⟩, hkd⟩ : ∃ k : K3, keyD i = k := ⟨_, rfl⟩
        rw [hkd] at y0 y1 y2 HF
        have z0 : (0 : Int) ≤ (j : Int) := by omega
        have z1 : (j : Int) < ((n + 1 : Nat) : Int) := by omega
        clear hfin h9 C4 u4 ko4 kb4 hbn3 bW3 hex hdr C5 hown5 hown6 u6 hup C6 u6' ko6 kb6 hy bV3 b45 H4 HD hs1 hs0 hkd l4 h7 hki hno hmlt hn hlen hla hbn hp0' hm hC k1 hpre
        gi_wp2_with (fail)
        exact HF.out
      · obtain ⟨jj, hjj⟩ : ∃ jj, j = jj + 1 := ⟨j - 1, by omega⟩
        have hjm : jj < m.length := by omega
        obtain ⟨x, hx⟩ : ∃ x, m[jj] = x := ⟨_, rfl⟩
        have hxm : x ∈ m := hx ▸ List.getElem_mem hjm
        have hx13 := hmlt x hxm
        have hKSx : KS (keyD x) := by
          obtain ⟨_, _, y, hy, hyk⟩ := (plcI_mem (pre_ok HB.out.2.1 hp0') x).1 ((hm.2 x).1 hxm)
          exact hyk ▸ (HB.out.2.1.ks y (hp0'.subset hy)).1
        have hxk : (m.map keyD)[jj]? = some (keyD x) := by rw [List.getElem?_map, List.getElem?_eq_getElem hjm, hx]; rfl
        obtain ⟨g, rfl⟩ := hla (by omega)
        have Cr := hC.below bW3
        have l1 : wr.cell? ⟨D0, 0, none⟩ = some (.slice (some ⟨g, 0, none⟩) n lcap) := by rw [Cr.box.cell]; rfl
        have e2 : wr.cell? ⟨g, jj * 3 + 2, none⟩ = some (.string (keyD x).2.2) := by
          have h1 := Cr.row
          rw [hlen] at h1
          exact (h1.cellAt (jj * 3 + 2) (by omega)).trans (valsC_get _ jj 2 _ hxk (by decide))
        have ak : IntKind.i64.wrap ((j : Int) - 1) = (jj : Int) := by rw [IntWalk.i64_in _ (by omega)]; omega
        have t3 : decide ((0 : Int) < (j : Int)) = true := by rw [decide_eq_true_eq]; omega
        have t5 : 0 < j := by omega
        have z0 : (0 : Int) ≤ (jj : Int) := by omega
        have z1 : (jj : Int) < (n : Int) := by omega
        have hjja : jj + 1 ≤ j := by omega
        have HJJ := Lib.hid hjj
        clear hjj hj0
        have hxc : ∀ W, Calls Tryd.prog 68 #[.string (keyD x).2.2] W fun e w' => e = .returned (.int .i64 (x : Int)) ∧ Below W.heap.size W w' := fun W => by
          have h1 : Tx.indexOf (keyD x).2.2 = (x : Int) := by
            have := plcV_keyD x (by omega)
            unfold plcV at this
            rw [if_pos (show (keyD x).1 = 7 from rfl)] at this
            exact this
          have h2 := Tx.index_any (keyD x).2.2 W (by have := ks_size hKSx; omega)
          rw [h1] at h2
          exact h2.mono (by rintro e w' ⟨rfl, q, rfl⟩; exact ⟨rfl, below_drw (Below.refl _ _) q⟩)
        have HXC := Lib.hid hxc
        obtain ⟨ks, hks⟩ : ∃ s, (keyD x).2.2 = s := ⟨_, rfl⟩
        rw [hks] at e2 HXC
        have HBR := Lib.hid bW3
        have HXX := Lib.hid (And.intro hdr (And.intro hxm hx))
        clear Cr hxc hxk hks h7 hki hno hmlt hn hlen hla hbn hp0' hm hC k1 hpre hdr hxm hx hKSx bW3
        gi_wp2_with (fail)
        refine ⟨trivial, ?_⟩
        refine (callsIn_wide.2 (HXC.out _)).mono ?_
        rintro e1 W3 ⟨rfl, b3⟩
        obtain ⟨h7, hki, hno, hmlt, hn, hlen, hla, hbn, hp0', hm, hC, k1, hpre⟩ := HQ.out
        obtain ⟨hdr, hxm, hx⟩ := HXX.out
        have bW3 := HBR.out
        have bW4 := bW3.trans (b3.mono bW3.size)
        by_cases hxi : i < x
        · have t4 : decide ((i : Int) < (x : Int)) = true := by rw [decide_eq_true_eq]; omega
          have HR := Lib.hid (And.intro bW4 (show ∀ y ∈ m.drop jj, i < y from fun y hy => by
            rw [List.drop_eq_getElem_cons hjm, hx] at hy
            rcases List.mem_cons.1 hy with e | e
            · rw [e]; exact hxi
            · exact hdr y (by rw [HJJ.out]; exact e)))
          clear hdr bW3 b3 bW4 l1 e2 h7 hki hno hmlt hn hlen hla hbn hp0' hm hC k1 hpre hxm hx HXX HBR
          gi_wp2_with (fail)
          go_roundw
          case rel => exact ⟨jj, by omega, rfl, HR⟩
          case measure => simp only [intOf]; omega
        have hxne : x ≠ i := fun e => hno (e ▸ hxm)
        have hxlt : x < i := by omega
        have t4 : decide ((i : Int) < (x : Int)) = false := by rw [decide_eq_false_iff_not]; omega
        have hex : ∀ y ∈ m.take j, y < i := by
          rw [HJJ.out]
          exact take_lt hm.1 (by omega) (by omega) (by simpa [hx] using hxlt)
        clear bW3 b3 l1 e2 hxm hx HXC HXX HBR
        have bW3 := bW4
        clear bW4
        have C3 := hC.below bW3
        have k3 := k1.below bW3 k1.lt
        have l3 : W3.cell? ⟨D0, 0, none⟩ = some (.slice (some ⟨g, 0, none⟩) n lcap) := by rw [C3.box.cell]; rfl
        have lD := C3.box.lt
        obtain ⟨S2, hS2⟩ : ∃ S2, W3.heap.size = S2 := ⟨_, rfl⟩
        have lD' : D0 < S2 := hS2 ▸ lD
        have hr3 : W3.ownsRow D0 34 3 (.slice (some ⟨g, 0, none⟩) n lcap) n (valsC (m.map keyD)) := by have := C3.row; rw [hlen, hD0] at this; exact this
        have hnews := World.news_of_block (cs := #[.int .i64 0, .int .i64 0, .string ⟨#[]⟩]) (t := 34) (fr := (0, 0)) (heap_alloc_new W3 (.cells #[.int .i64 0, .int .i64 0, .string ⟨#[]⟩] 34))
        rw [hS2] at hnews
        have hnb : ∀ W', W3.grownBy W' (Value.slice (some ⟨g, 0, none⟩) n lcap).ownBlock → Blk W' b1 34 #[.int .i64 e.key.1, .int .i64 e.key.2.1, .string e.key.2.2] := fun W' hg => k3.grown hg (fun e => hbn e.symm)
        have H3 := Lib.hid (And.intro C3 (And.intro k3 (And.intro bW3 (And.intro hex hdr))))
        clear C3 k3 bW3 hex hdr hnb h7 hki hno hmlt hn hlen hla hbn hp0' hm hC k1 hpre
        gi_wp2_with (gi_at_builtin; refine wpListIn_more rfl _ _ 45 rfl D0 34 i0 _ 3 32 Tryd.underlying45 hi hz0 hz1 hz2 rfl (by decide) _ _ _ rfl (hr3.alloc _) ⟨S2, 0, none⟩ 1 1 [.int .i64 0, .int .i64 0, .string ⟨#[]⟩] rfl rfl hnews (by simp [Value.oneCell']) (by decide) (by unfold maxLen; omega) (by omega) (by simp; omega) _ rfl ?_)
        intro g3 cap3 w3 hown3 hgrow3 hat3 hlt3
        obtain ⟨C3, k3, bW3, hex, hdr⟩ := H3.out
        obtain ⟨h7, hki, hno, hmlt, hn, hlen, hla, hbn, hp0', hm, hC, k1, hpre⟩ := HQ.out
        have h4 := C3.more (n := n) z3 hlen (by rw [hD0]; exact hown3) hgrow3 (hat3.imp id (fun e => by omega))
        have kb3 : Blk w3 b1 34 #[.int .i64 e.key.1, .int .i64 e.key.2.1, .string e.key.2.2] := Blk.grown (k3.alloc _) hgrow3 (fun e => hbn e.symm)
        have f3 := h4.2.2.2.frozen 0
        have l3c : w3.cell? ⟨D0, 0, none⟩ = some (.slice (some ⟨g, 0, none⟩) n lcap) := by rw [h4.2.2.2.cell]; rfl
        have l3l := h4.2.2.2.lt
        have hDb : D0 ≠ b1 := fun e => by have := h4.2.2.2.ne_ kb3 (by decide); exact this e
        have kb4 := kb3.far (p := ⟨D0, 0, none⟩) (Ne.symm hDb) (.slice (some ⟨g3, 0, none⟩) (n + 1) cap3)
        have hbn3 : g3 ≠ b1 := fun e => by
          subst e
          rcases hat3 with q | q
          · exact hbn q
          · have := k3.lt; omega
        have H4 := Lib.hid (And.intro h4.1 (And.intro h4.2.1 (And.intro h4.2.2.1 (And.intro kb4 (And.intro hbn3 (And.intro bW3 (And.intro hex hdr)))))))
        clear h4 kb3 kb4 C3 k3 bW3 hex hdr hown3 hgrow3 hat3 hlt3 hbn3 hDb hr3 hnews l3 H3 h7 hki hno hmlt hn hlen hla hbn hp0' hm hC k1 hpre
        gi_wp2_with (fail)
        clear l3c f3 l3l lD lD' hS2
        obtain ⟨W4, hW4⟩ : ∃ W4, w3.setCell ⟨D0, 0, none⟩ (.slice (some ⟨g3, 0, none⟩) (n + 1) cap3) = W4 := ⟨_, rfl⟩
        rw [hW4] at H4 ⊢
        clear hW4
        have l4 : W4.cell? ⟨D0, 0, none⟩ = some (.slice (some ⟨g3, 0, none⟩) (n + 1) cap3) := by rw [H4.out.1.box.cell]; rfl
        have hcap : n + 1 ≤ cap3 := (own_cap (B := w.heap.size) (xs := valsC (m.map keyD ++ [z3])) (by have := H4.out.1.row; rw [List.length_append, HQ.out.2.2.2.2.2.1] at this; exact this)).1
        have q4 := fun d os => cell_regrown l4 d os
        obtain ⟨j1, hj1⟩ : ∃ j1, j1 = j + 1 := ⟨_, rfl⟩
        have hj1a : j1 ≤ j + 1 := by omega
        have hj1b : j + 1 ≤ j1 := by omega
        have HJ1 := Lib.hid hj1
        clear hj1
        have hlo1 : j1 ≤ n + 1 := by omega
        have hlo0 : j ≤ n + 1 := by omega
        obtain ⟨d1, hd1, hs1⟩ := slice_low (P := Tryd.prog) Tryd.underlying45 rfl hi hz1 g3 (n + 1) cap3 j1 hlo1 hcap
        obtain ⟨d0, hd0, hs0⟩ := slice_low (P := Tryd.prog) Tryd.underlying45 rfl hi hz1 g3 (n + 1) cap3 j hlo0 hcap
        have aj : IntKind.i64.wrap ((j : Int) + 1) = (j1 : Int) := by rw [IntWalk.i64_in _ (by omega)]; omega
        have HD := Lib.hid (And.intro hd1 hd0)
        clear hd1 hd0
        refine quietR_tail 7 (by kernel_rfl) (by kernel_rfl) (by kernel_rfl) ?_
        simp only [List.take_succ_cons, List.take_zero, List.drop_succ_cons, List.drop_zero]
        repeat (
          refine wpQuietIn_step (fun _ _ _ _ => trivial) (fun K hK => ?_)
          go_simp
          refine hK _ ?_
          clear hK K)
        refine wpQuietIn_nil ?_
        rintro W5 ⟨⟨dq, osq⟩, hW5⟩
        have b45 : Below W4.heap.size W4 W5 := by rw [hW5]; exact below_regrown W4 dq osq
        clear hW5 q4
        obtain ⟨C4, u4, ko4, kb4, hbn3, bW3, hex, hdr⟩ := H4.out
        obtain ⟨h7, hki, hno, hmlt, hn, hlen, hla, hbn, hp0', hm, hC, k1, hpre⟩ := HQ.out
        have C5 := C4.below b45
        have hown5 : W5.ownsRow w.heap.size 34 3 (.slice (some ⟨g3, 0, none⟩) (n + 1) cap3) (n + 1) (valsC (m.map keyD ++ [z3])) := by have := C5.row; rw [List.length_append, hlen] at this; exact this
        refine wpListIn_copy_up rfl (.tmp 48) (.tmp 51) 45 rfl w.heap.size 34 Tryd.underlying45 (by rw [hi]; exact congrArg some hz1) g3 (n + 1) cap3 (m.map keyD ++ [z3]) hown5 j (by omega) (by rw [List.length_append, hlen]; rfl) d1 d0 _ _ _ _ rfl rfl (by rw [HJ1.out]) rfl (fun h => ⟨(HD.out.1 (by omega)).trans (by rw [HJ1.out]), HD.out.2 (by omega)⟩) ?_
        intro W6 hown6 u6
        have hup : (upL (m.map keyD ++ [z3]) j).length = n + 1 := by rw [upL_len _ _ (by rw [List.length_append, hlen]; show j < n + 1; omega), List.length_append, hlen]; rfl
        obtain ⟨C6, u6', ko6⟩ := C5.edit u6 (ks' := upL (m.map keyD ++ [z3]) j) (by rw [hup]; exact hown6)
        have kb6 := u6.blk (kb4.below b45 kb4.lt) (fun e => hbn3 e.symm)
        have h9 := C6.setE (i := j) (keyD i) hup (by omega)
        rw [map_ins m i j (by omega)] at h9
        obtain ⟨y, hy⟩ : ∃ y, (upL (m.map keyD ++ [z3]) j)[j]? = some y := ⟨_, List.getElem?_eq_getElem (by rw [hup]; omega)⟩
        have e0 : W6.cell? ⟨g3, j * 3, none⟩ = some (.int .i64 y.1) := (hown6.cellAt (j * 3) (by omega)).trans (valsC_get _ j 0 y hy (by decide))
        have e1 : W6.cell? ⟨g3, j * 3 + 1, none⟩ = some (.int .i64 y.2.1) := (hown6.cellAt (j * 3 + 1) (by omega)).trans (valsC_get _ j 1 y hy (by decide))
        have e2 : W6.cell? ⟨g3, j * 3 + 2, none⟩ = some (.string y.2.2) := (hown6.cellAt (j * 3 + 2) (by omega)).trans (valsC_get _ j 2 y hy (by decide))
        have g0 : W6.frozen? ⟨g3, j * 3, none⟩ = false := hown6.frozenAt _
        have g1 : W6.frozen? ⟨g3, j * 3 + 1, none⟩ = false := hown6.frozenAt _
        have g2 : W6.frozen? ⟨g3, j * 3 + 2, none⟩ = false := hown6.frozenAt _
        have lg := World.block_lt_of_cell? W6 _ e0
        have l6 : W6.cell? ⟨D0, 0, none⟩ = some (.slice (some ⟨g3, 0, none⟩) (n + 1) cap3) := by rw [C6.box.cell]; rfl
        have y0 : W6.cell? ⟨b1, 0, none⟩ = some (.int .i64 (keyD i).1) := by rw [kb6.cell, ← hki]; rfl
        have y1 : W6.cell? ⟨b1, 1, none⟩ = some (.int .i64 (keyD i).2.1) := by rw [kb6.cell, ← hki]; rfl
        have y2 : W6.cell? ⟨b1, 2, none⟩ = some (.string (keyD i).2.2) := by rw [kb6.cell, ← hki]; rfl
        have bV3 : Below V.heap.size V W3 := bW3
        have hfin : stepsOn O1 (fun pre W' => ∃ lv m, Coll w (D0 + 2) D0 [] Ot lv (m.map keyD) O1 W' ∧ PlS pre m) (fun _ _ _ => False) (pre ++ [e]) V .normal ⟨#[], []⟩ (((W6.setCell ⟨g3, j * 3, none⟩ (.int .i64 (keyD i).1)).setCell ⟨g3, j * 3 + 1, none⟩ (.int .i64 (keyD i).2.1)).setCell ⟨g3, j * 3 + 2, none⟩ (.string (keyD i).2.2)) := by
          have kof : ∀ {A B : World}, Below A.heap.size A B → KeepsOthers A B := fun b => ⟨b.size, fun k o hk _ => (b.block k (Array.getElem?_eq_some_iff.1 hk).1).trans hk⟩
          refine ⟨((((kof bV3).trans ko4).trans (kof b45)).trans ko6).trans h9.2.2, ((((Upd.of_below_all bV3).trans u4).trans (Upd.of_below_all b45)).trans u6').trans h9.2.1, _, _, h9.1, hm.ins hi13 hki hex hdr⟩
        have HF := Lib.hid hfin
        obtain ⟨⟨x1, x2, x3⟩, hkd⟩ : ∃ k : K3, keyD i = k := ⟨_, rfl⟩
        rw [hkd] at y0 y1 y2 HF
        have z0 : (0 : Int) ≤ (j : Int) := by omega
        have z1 : (j : Int) < ((n + 1 : Nat) : Int) := by omega
        clear hfin h9 C4 u4 ko4 kb4 hbn3 bW3 hex hdr C5 hown5 hown6 u6 hup C6 u6' ko6 kb6 hy bV3 b45 H4 HD hs1 hs0 hkd l4 h7 hki hno hmlt hn hlen hla hbn hp0' hm hC k1 hpre
        gi_wp2_with (fail)
        exact HF.out
  case done =>
    intro O1 D V hD hnD hF hI hk
    obtain rfl : D = D0 + 2 := by omega
    clear hD
    obtain ⟨D', O', hTF, hsub, _, hlen⟩ := hF
    obtain rfl : D' = [] := List.length_eq_zero_iff.1 (by simpa using hlen)
    obtain ⟨lv1, m, hC, hm⟩ := hI
    have l0 : V.cell? ⟨D0, 0, none⟩ = some lv1 := by rw [hC.box.cell]; rfl
    have HV := Lib.hid (And.intro hC (And.intro hm (And.intro hTF (And.intro hsub (And.intro hk hnD)))))
    clear hC hm hTF hsub hk hnD hlen
    go_wp2_with (fail)
    obtain ⟨hC, hm, hTF, hsub, hk, hnD⟩ := HV.out
    have hgn : ∀ g, lv1.ownBlock = some g → g ≠ D0 + 2 := fun g hg e => by
      obtain ⟨c, f, h1⟩ := own_kind hC.row g hg
      rw [e] at h1
      rw [h1] at hk
      cases hk
    have hO'D : ¬ O' (D0 + 2) := fun e => hnD (hsub _ e)
    have hrow : V.ownsRow w.heap.size 34 3 lv1 m.length (valsC (m.map keyD)) := by have := hC.row; rw [List.length_map] at this; exact this
    refine marksOf (I := fun V1 => V1.ownsRow w.heap.size 34 3 lv1 m.length (valsC (m.map keyD)) ∧ TabA V1 T o.A [] O' ∧ Upd w V1 Ot) [D0 + 2] ?_ ?_ [D0 + 2] V (fun _ h => h) (by simp) (fun E hE => by rw [List.mem_singleton.1 hE]; exact hk) ⟨hrow, hTF, hC.upd⟩
    · intro V1 E o1 h1 hE
      obtain rfl : E = D0 + 2 := List.mem_singleton.1 hE
      have u := Upd.put V1 (D0 + 2) o1
      exact ⟨u.own h1.1 (fun k hk e => hgn k hk e), h1.2.1.upd u (fun k hk e => hO'D (e ▸ hk)), Upd.join h1.2.2 (u.mono fun k _ e => .inr (by omega))⟩
    · intro V1 h1
      exact ⟨lv1, by simp [results, Tryd.results67, go_sem], lv1, m, O', rfl, hm, h1.1, h1.2.1, fun k hk => hC.o k (hsub k hk), h1.2.2, fun g hg e => hC.nr g hg (hsub g e)⟩
end Go.Proofs.YtmimnaaofpkndaaDoor.Hp
