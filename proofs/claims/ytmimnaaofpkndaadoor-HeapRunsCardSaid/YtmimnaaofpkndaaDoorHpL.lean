/- HpL: several texts in one. -/
import Derived.Test.YtmimnaaofpkndaaDoorHpF
import Derived.LaidEqlPtr
import Derived.Lib.QuietBelow
import Derived.Test.YtmimnaaofpkndaaDoorOrdC
import Derived.WalkSmall
import Derived.OpenShut
import Derived.Deep.Slices
import Derived.StillTailTactics
/- The heap: Keys of the example. -/
set_option linter.unusedVariables false
set_option linter.unusedSimpArgs false
namespace Go.Proofs.YtmimnaaofpkndaaDoor.Hp
open Go.RowKit Go.Proofs.YtmimnaaofpkndaaDoor Go.Shelf
attribute [local go_sem] Oper.semAt_some
def keyD (j : Nat) : K3 := keyL (Tx.decB j)
/-- Keys on its way. -/
structure KI (w W : World) (p b : Nat) (L : List K3) (lv : Value) : Prop where
  ob : Blk W p 26 #[.pointer (some ⟨b, 0, none⟩)]
  lb : Blk W (p + 1) 45 #[lv]
  row : W.ownsRow (p + 2) 34 3 lv L.length (valsC L)
theorem KI.upd {w W W' : World} {p b : Nat} {L : List K3} {lv : Value} {M : Nat → Prop} (h : KI w W p b L lv) (u : Upd W W' M) (h0 : ¬ M p) (h1 : ¬ M (p + 1)) (h2 : ∀ k, lv.ownBlock = some k → ¬ M k) : KI w W' p b L lv := ⟨u.blk h.ob h0, u.blk h.lb h1, u.own h.row h2⟩
theorem KI.below {w W W' : World} {p b : Nat} {L : List K3} {lv : Value} (h : KI w W p b L lv) (u : Below W.heap.size W W') : KI w W' p b L lv := h.upd (M := fun _ => False) (Upd.of_below_all u) (fun h => h) (fun h => h) (fun _ _ h => h)
/-- One more behind the others: what the append and the store leave. -/
theorem KI.more {w W w3 : World} {p b g cap : Nat} {L : List K3} {lv : Value} (k : K3) (h : KI w W p b L lv) (hown : w3.ownsRow (p + 2) 34 3 (.slice (some ⟨g, 0, none⟩) (L.length + 1) cap) (L.length + 1) (valsC L ++ [.int .i64 k.1, .int .i64 k.2.1, .string k.2.2]))
    (hgrow : W.grownBy w3 lv.ownBlock) : KI w (w3.setCell ⟨p + 1, 0, none⟩ (.slice (some ⟨g, 0, none⟩) (L.length + 1) cap)) p b (L ++ [k]) (.slice (some ⟨g, 0, none⟩) (L.length + 1) cap) := by
  have hn1 : lv.ownBlock ≠ some p := fun e => by have := (h.row.lt p e).1; omega
  have hn2 : lv.ownBlock ≠ some (p + 1) := fun e => by have := (h.row.lt _ e).1; omega
  have ob3 := h.ob.grown hgrow (fun e => hn1 e.symm)
  have lb3 := h.lb.grown hgrow (fun e => hn2 e.symm)
  refine ⟨ob3.far (by show p ≠ p + 1; omega) _, lb3.set_ 0 _, ?_⟩
  rw [List.length_append, valsC_append]
  exact own_set hown lb3 (by decide) _ _
theorem KI.more_upd {w W w3 : World} {p b g cap n : Nat} {L : List K3} {lv : Value} (h : KI w W p b L lv) (hgrow : W.grownBy w3 lv.ownBlock) : Upd W (w3.setCell ⟨p + 1, 0, none⟩ (.slice (some ⟨g, 0, none⟩) n cap)) (fun k => p ≤ k) :=
  ((Upd.refl W _).grown hgrow (fun k e => by have := (h.row.lt k e).1; omega)).set (p + 1) 0 _ (by omega)
/-- What Keys of the example comes to. -/
def KeyP (p T : Nat) (O : Nat → Prop) (w : World) (e : Ending) (w' : World) : Prop :=
  ∃ g cap O', e = .returned (.slice (some ⟨g, 0, none⟩) 3 cap) ∧ w'.ownsRow (p + 2) 34 3 (.slice (some ⟨g, 0, none⟩) 3 cap) 3 (valsC [keyD 0, keyD 1, lenK]) ∧ TabA w' T [] [] O' ∧ Upd w w' O
set_option maxRecDepth 100000 in
set_option maxHeartbeats 8000000 in
theorem keys_fit (b T g0 cap0 : Nat) (O : Nat → Prop) (w : World) (h : Blk w b 51 (objA 1 0 false T (.slice (some ⟨g0, 0, none⟩) 2 cap0) nilP nilP nilS 0)) (hT : TabA w T [] [] O) (hLg : Lg w) (hO0 : ¬ O 0) (hOb : ¬ O b) (hOg : ¬ O g0) (hg0 : g0 < w.heap.size)
    (he : ∀ j, j < 2 → w.cell? ⟨g0, j * 3, none⟩ = some (.int .i64 0) ∧ w.cell? ⟨g0, j * 3 + 1, none⟩ = some (.int .i64 0) ∧ w.cell? ⟨g0, j * 3 + 2, none⟩ = some (.string ⟨#[]⟩)) :
    Calls Tryd.prog 36 #[.pointer (some ⟨b, 0, none⟩)] w (KeyP w.heap.size T O w) := by
  obtain ⟨i0, hi, hz0, hz1, hz2⟩ := info_parts infoVal
  have H := Lib.hid (And.intro h (And.intro hT (And.intro hLg he)))
  obtain ⟨p, hp⟩ : ∃ p, w.heap.size = p := ⟨_, rfl⟩
  have hbl := h.lt
  have hOlt := hT.lt
  have bb : Below w.heap.size w ((w.alloc (.cells #[.pointer (some ⟨b, 0, none⟩)] 26)).alloc (.cells #[.slice none 0 0] 45)) := ((Below.refl _ _).alloc (Nat.le_refl _) _).alloc (by simp) _
  have hK0 : KI w ((w.alloc (.cells #[.pointer (some ⟨b, 0, none⟩)] 26)).alloc (.cells #[.slice none 0 0] 45)) p b [] (.slice none 0 0) := by
    refine ⟨?_, ?_, World.ownsRow_nil _ _ _ _⟩
    · rw [← hp]; exact (Blk.new w _ _).alloc _
    · have := Blk.new (w.alloc (.cells #[.pointer (some ⟨b, 0, none⟩)] 26)) 45 #[.slice none 0 0]
      rw [World.size_alloc, hp] at this
      exact this
  clear h hT hLg he
  refine callsM_of_wp Tryd.func36 rfl ?_
  simp only [Tryd.ntmps36, List.size_toArray, List.length_cons, List.length_nil, Nat.reduceAdd, Nat.reduceSub, Array.replicate_succ, Array.replicate_zero, List.push_toArray, List.append_toArray, List.nil_append, List.cons_append]
  rw [hp]
  go_upto_region 2 with fail
  generalize ((w.alloc (.cells #[.pointer (some ⟨b, 0, none⟩)] 26)).alloc (.cells #[.slice none 0 0] 45)) = W0 at *
  have o1 := H.out.1.below bb H.out.1.lt
  have y0 : W0.cell? ⟨p, 0, none⟩ = some (.pointer (some ⟨b, 0, none⟩)) := by rw [hK0.ob.cell]; rfl
  have y4 : W0.cell? ⟨b, 4, none⟩ = some (.slice (some ⟨g0, 0, none⟩) 2 cap0) := by rw [o1.cell]; rfl
  have lb0 := o1.lt
  have HK0 := Lib.hid (And.intro hK0 bb)
  clear o1 hK0 bb
  go_wp2_with fail
  clear y0 y4 lb0
  go_loopw [13] (fun i wr => ∃ j : Nat, j ≤ 2 ∧ i = .int .i64 (j : Int) ∧ Hid (∃ lv, KI w wr p b ((List.range j).map keyD) lv ∧ Below w.heap.size w wr)) (fun i _ => 2 - (intOf i).toNat)
  case atStart => exact ⟨0, Nat.zero_le _, rfl, Lib.hid ⟨_, HK0.out⟩⟩
  case round =>
    clear HK0
    obtain ⟨j, hj, rfl, HKI⟩ := hrel
    obtain ⟨lv, hki, hbw⟩ := HKI.out
    by_cases hlt : j < 2
    · obtain ⟨L, hL⟩ : ∃ L, (List.range j).map keyD = L := ⟨_, rfl⟩
      rw [hL] at hki
      have HL := Lib.hid hL
      have HLj : Hid (L.length = j) := Lib.hid (by rw [← hL]; simp)
      clear hL
      obtain ⟨e0, e1, e2⟩ := H.out.2.2.2 j hlt
      have c0 : wr.cell? ⟨g0, j * 3, none⟩ = some (.int .i64 0) := by rw [hbw.cell hg0]; exact e0
      have c1 : wr.cell? ⟨g0, j * 3 + 1, none⟩ = some (.int .i64 0) := by rw [hbw.cell hg0]; exact e1
      have c2 : wr.cell? ⟨g0, j * 3 + 2, none⟩ = some (.string ⟨#[]⟩) := by rw [hbw.cell hg0]; exact e2
      have t2 : decide ((j : Int) < 2) = true := by simp; omega
      have z0 : (0 : Int) ≤ (j : Int) := by omega
      have z1 : (j : Int) < 2 := by omega
      have aw : IntKind.i64.wrap ((j : Int) + 1) = (j : Int) + 1 := IntWalk.i64_in _ (by omega)
      have b2 := (Below.refl wr.heap.size wr).alloc (Nat.le_refl _) (.cells #[.int .i64 0, .int .i64 0, .string ⟨#[]⟩] 34)
      have hki2 := hki.below b2
      have hb2 := hbw.trans (b2.mono hbw.size)
      have HB2 := Lib.hid hb2
      clear e0 e1 e2 HKI hki hbw b2 hb2
      go_upto_region 6 with fail
      generalize wr.alloc (.cells #[.int .i64 0, .int .i64 0, .string ⟨#[]⟩] 34) = W2 at *
      generalize wr.heap.size = q2 at *
      clear c0 c1 c2
      obtain ⟨la, lcap, rfl, _⟩ := own_shape hki2.row
      rw [HLj.out] at hki2
      have HK2 := Lib.hid hki2
      clear hki2
      refine wp_var0 (fun KV HKV => ?_)
      refine wp_region_till (m := 5) (S := (fun W => W.cell? ⟨p + 1, 0, none⟩ = some (.slice la j lcap))) (by kernel_rfl) ?_
      have e4 : W2.drew = W2.drewN 1 := rfl
      rw [e4]
      have HK3 := Lib.hid (HK2.out.upd (M := fun _ => False) ((Upd.refl W2 _).drewN 1) (fun h => h) (fun h => h) (fun _ _ h => h))
      have HB3 := Lib.hid (below_drw HB2.out 1)
      generalize W2.drewN 1 = D at *
      have s0 : D.cell? ⟨p + 1, 0, none⟩ = some (.slice la j lcap) := by rw [HK3.out.lb.cell]; rfl
      change tillH _ _ _ _ _ _ 7 #[false, false, false, false, false, false, false] _ _
      refine tillH_take (i := 0) (oi := ?oo1) (v := ?vv1) ?hi1 (by kernel_rfl) (by kernel_rfl) (by kernel_rfl) ?hq1 (by kernel_rfl) (by kernel_rfl) (by kernel_rfl) ?hy1 s0 ?hh1
      case hi1 => (simp only [List.getElem?_toArray, List.getElem?_cons_succ, List.getElem?_cons_zero]; rfl)
      case hq1 => exact fun _ _ _ h => h
      case hy1 => exact Or.inl ⟨by rfl, by (intro W hSw; (try obtain hSw := hSw); go_simp; (try with_reducible rfl))⟩
      (try simp only [Act.put, List.setIfInBounds_toArray, List.set_cons_zero, List.set_cons_succ])
      refine tillH_takeAny (i := 1) (oi := ?oo2) (v := ?vv2) ?hi2 (by kernel_rfl) (by kernel_rfl) (by kernel_rfl) ?hq2 (by kernel_rfl) ?hy2 (fun _ => s0) ?hh2
      case hi2 => (simp only [List.getElem?_toArray, List.getElem?_cons_succ, List.getElem?_cons_zero]; rfl)
      case hq2 => exact fun _ _ _ h => h
      case hy2 => exact Or.inl ⟨by rfl, by (intro W; go_simp; (try with_reducible rfl))⟩
      (try simp only [Act.put, List.setIfInBounds_toArray, List.set_cons_zero, List.set_cons_succ])
      refine tillH_next (rs := [2]) (by kernel_rfl) (by simp) ?_
      refine NextH.cons rfl (fun K hK => ?_) NextH.nil
      go_simp
      refine (digits_any j (by omega) D).mono ?_
      rintro e w5 ⟨rfl, b5⟩
      have HK5 := Lib.hid (HK3.out.below b5)
      have HB5 := Lib.hid (HB3.out.trans (b5.mono HB3.out.size))
      have s5 : w5.cell? ⟨p + 1, 0, none⟩ = some (.slice la j lcap) := by rw [HK5.out.lb.cell]; rfl
      refine hK.out _ _ (fun _ => s5) ?_
      clear hK K
      (try simp only [Act.put, List.setIfInBounds_toArray, List.set_cons_zero, List.set_cons_succ])
      clear s0 b5 HK3 HB3
      refine tillH_next (rs := [3]) (by kernel_rfl) (by simp) ?_
      refine NextH.cons rfl (fun K hK => ?_) NextH.nil
      go_simp
      refine (keyL_any (Tx.decB j) (Nat.le_trans (decB_len j (by omega)) (by omega)) w5).mono ?_
      rintro e w6 ⟨rfl, b6⟩
      have HK6 := Lib.hid (HK5.out.below b6)
      have HB6 := Lib.hid (HB5.out.trans (b6.mono HB5.out.size))
      have s6 : w6.cell? ⟨p + 1, 0, none⟩ = some (.slice la j lcap) := by rw [HK6.out.lb.cell]; rfl
      refine hK.out _ _ (fun _ => s6) ?_
      clear hK K
      (try simp only [Act.put, List.setIfInBounds_toArray, List.set_cons_zero, List.set_cons_succ])
      clear s5 b6 HK5 HB5
      obtain ⟨kk, hkk⟩ : ∃ kk, keyL (Tx.decB j) = kk := ⟨_, rfl⟩
      have hkk2 : ((List.range (j + 1)).map keyD) = L ++ [kk] := by rw [List.range_succ, List.map_append, HL.out, ← hkk]; rfl
      have HKK := Lib.hid hkk2
      rw [hkk]
      clear hkk hkk2
      refine tillH_next (rs := [4]) (by kernel_rfl) (by simp) ?_
      refine NextH.cons rfl (fun K hK => ?_) NextH.nil
      go_simp
      have b7 := (Below.refl w6.heap.size w6).alloc (Nat.le_refl _) (.cells #[.int .i64 kk.1, .int .i64 kk.2.1, .string kk.2.2] 34)
      have HK7 := Lib.hid (HK6.out.below b7)
      have HB7 := Lib.hid (HB6.out.trans (b7.mono HB6.out.size))
      have s7 : (w6.alloc (.cells #[.int .i64 kk.1, .int .i64 kk.2.1, .string kk.2.2] 34)).cell? ⟨p + 1, 0, none⟩ = some (.slice la j lcap) := by rw [HK7.out.lb.cell]; rfl
      refine hK.out _ _ (fun _ => s7) ?_
      clear hK K
      (try simp only [Act.put, List.setIfInBounds_toArray, List.set_cons_zero, List.set_cons_succ])
      refine tillH_next (rs := [5]) (by kernel_rfl) (by simp) ?_
      refine NextH.cons rfl (fun K hK => ?_) NextH.nil
      refine step_append_lies _ (by rfl) _ _ _ (by rfl) (p + 2) 34 i0 _ 3 32 Tryd.underlying45 hi hz0 hz1 hz2 rfl (by decide) _ _ _ (by rfl) HK7.out.row ⟨w6.heap.size, 0, none⟩ 1 1 [.int .i64 kk.1, .int .i64 kk.2.1, .string kk.2.2] (by rfl) (by rfl) (World.news_of_block (cs := #[.int .i64 kk.1, .int .i64 kk.2.1, .string kk.2.2]) (t := 34) (fr := (0, 0)) (heap_alloc_new w6 _)) (by simp [Value.oneCell']) (by decide) (by rw [HLj.out]; unfold maxLen; omega) (by rw [HLj.out]; omega) (by have := HK7.out.lb.lt; omega) _ rfl ?_
      intro gg capg w8 hown8 hgrow8 hat8 hlt8
      refine hK.out _ _ (fun h => absurd h (by simp)) ?_
      clear hK K
      (try simp only [Act.put, List.setIfInBounds_toArray, List.set_cons_zero, List.set_cons_succ])
      have hK8 := HK7.out.more kk hown8 hgrow8
      have hu8 := HK7.out.more_upd (g := gg) (cap := capg) (n := L.length + 1) hgrow8
      have lb8 := HK7.out.lb.grown hgrow8 (fun e => by have := (HK7.out.row.lt _ e.symm).1; omega)
      have x8 : w8.cell? ⟨p + 1, 0, none⟩ = some (.slice la j lcap) := by rw [lb8.cell]; rfl
      have f8 := lb8.frozen 0
      have l8 := lb8.lt
      have HK8 := Lib.hid (And.intro hK8 (HB7.out.trans (hu8.below (by have := HK7.out.lb.lt; omega) (fun k hk => by rw [hp]; exact hk))))
      clear hown8 hgrow8 hat8 hlt8 hK8 hu8 lb8 s6 s7 HK6 HB6 b7
      refine tillH_next (rs := [6]) (by kernel_rfl) (by simp) ?_
      refine NextH.cons rfl (fun K hK => ?_) NextH.nil
      go_simp
      refine hK.out _ _ (fun h => absurd h (by simp)) ?_
      clear hK K
      (try simp only [Act.put, List.setIfInBounds_toArray, List.set_cons_zero, List.set_cons_succ])
      refine tillH_done (by kernel_rfl) ?_ _
      refine HKV.out _ _ ?_
      go_wp2_with (fail)
      go_roundw
      case rel => exact ⟨j + 1, by omega, by go_num, Lib.hid ⟨_, by rw [HKK.out]; exact HK8.out⟩⟩
      case measure => simp [intOf]; omega
    · obtain rfl : j = 2 := by omega
      have t2 : decide (((2 : Nat) : Int) < 2) = false := by decide
      have o1 := H.out.1.below hbw H.out.1.lt
      have hT1 := H.out.2.1.below hbw
      have hL1 := H.out.2.2.1.below hbw
      have hki0 : KI w wr p b [keyD 0, keyD 1] lv := hki
      have y0 : wr.cell? ⟨p, 0, none⟩ = some (.pointer (some ⟨b, 0, none⟩)) := by rw [hki0.ob.cell]; rfl
      have y1 : wr.cell? ⟨b, 0, none⟩ = some (.int .i64 1) := by rw [o1.cell]; rfl
      have y3 : wr.cell? ⟨b, 3, none⟩ = some (.pointer (some ⟨T, 0, none⟩)) := by rw [o1.cell]; rfl
      have lb1 := o1.lt
      have lp1 := hki0.lb.lt
      have HA := Lib.hid (And.intro hki0 (And.intro o1 (And.intro hT1 (And.intro hL1 hbw))))
      clear HKI hki hki0 o1 hT1 hL1 hbw
      go_wp2_with fail
      refine (all_fn T _).mono ?_
      rintro e w5 ⟨rfl, hw5⟩
      have b5 : Below wr.heap.size wr w5 := by rw [hw5]; exact (Below.refl _ _).alloc (Nat.le_refl _) _
      have htb : Blk w5 wr.heap.size 44 #[.pointer (some ⟨T, 0, none⟩)] := by rw [hw5]; exact Blk.new _ _ _
      have H5 := Lib.hid (And.intro (HA.out.1.below b5) (And.intro (HA.out.2.1.below b5 HA.out.2.1.lt) (And.intro (HA.out.2.2.1.below b5) (And.intro (HA.out.2.2.2.1.below b5) (HA.out.2.2.2.2.trans (b5.mono HA.out.2.2.2.2.size))))))
      have hz5 : wr.heap.size < w5.heap.size := htb.lt
      clear y0 y1 y3 lb1 b5
      go_wp2_with fail
      rw [← hw5]
      generalize wr.heap.size = q5 at *
      clear hw5
      refine range_empty rfl T q5 O rfl htb H5.out.2.2.1 ?_
      intro D1 W1 O1 hD1 hnD1 hk1 hT1 hO1 u1
      have hp5 : p + 1 < w5.heap.size := H5.out.1.lb.lt
      have nO : ∀ k, p ≤ k → ¬ O k := fun k hk h => by have := hOlt k h; omega
      have hK1 := H5.out.1.upd u1 (nO _ (Nat.le_refl _)) (nO _ (by omega)) (fun k e => nO k (by have := (H5.out.1.row.lt k e).1; omega))
      have hrow5 := fun k e => H5.out.1.row.lt k e
      have o1 := u1.blk H5.out.2.1 hOb
      have hL1 := H5.out.2.2.2.1.upd u1 hO0
      have hu1 : Upd w W1 O := (Upd.of_below_all H5.out.2.2.2.2).trans u1
      obtain ⟨kk, hkk⟩ : ∃ kk, lenK = kk := ⟨_, rfl⟩
      unfold Lg at hL1
      rw [hkk] at hL1
      obtain ⟨g1, g2, g3⟩ := hL1
      have HKK := Lib.hid hkk
      clear hkk
      obtain ⟨la, lcap, rfl, _⟩ := own_shape hK1.row
      have y0 : W1.cell? ⟨p, 0, none⟩ = some (.pointer (some ⟨b, 0, none⟩)) := by rw [hK1.ob.cell]; rfl
      have y1 : W1.cell? ⟨b, 0, none⟩ = some (.int .i64 1) := by rw [o1.cell]; rfl
      have x1 : W1.cell? ⟨p + 1, 0, none⟩ = some (.slice la 2 lcap) := by rw [hK1.lb.cell]; rfl
      have hK1r : W1.ownsRow (p + 2) 34 3 (.slice la 2 lcap) 2 (valsC [keyD 0, keyD 1]) := hK1.row
      have lz : p + 2 ≤ W1.heap.size := by have := hK1.lb.lt; omega
      have HW1 := Lib.hid (And.intro hK1 (And.intro o1 (And.intro hT1 (And.intro hO1 hu1))))
      clear hK1 o1 hT1 hO1 hu1 u1 htb
      go_wp2_with (at_builtin; refine wpList_append_lies _ rfl _ _ 45 rfl (p + 2) 34 i0 _ 3 32 Tryd.underlying45 hi hz0 hz1 hz2 rfl (by decide) _ _ _ rfl (hK1r.alloc _) ⟨W1.heap.size, 0, none⟩ 1 1 [.int .i64 kk.1, .int .i64 kk.2.1, .string kk.2.2] rfl rfl (World.news_of_block (cs := #[.int .i64 kk.1, .int .i64 kk.2.1, .string kk.2.2]) (t := 34) (fr := (0, 0)) (heap_alloc_new W1 _)) (by simp [Value.oneCell']) (by decide) (by unfold maxLen; omega) (by omega) (by simp; omega) _ rfl ?_)
      intro gg capg w8 hown8 hgrow8 hat8 hlt8
      have b7 : Below W1.heap.size W1 (W1.alloc (.cells #[.int .i64 kk.1, .int .i64 kk.2.1, .string kk.2.2] 34)) := (Below.refl _ _).alloc (Nat.le_refl _) _
      have hK7 := HW1.out.1.below b7
      have hK8 := hK7.more kk hown8 hgrow8
      have hu8 := hK7.more_upd (g := gg) (cap := capg) (n := 3) hgrow8
      have lb8 := hK7.lb.grown hgrow8 (fun e => by have := (hK7.row.lt _ e.symm).1; omega)
      have x8 : w8.cell? ⟨p + 1, 0, none⟩ = some (.slice la 2 lcap) := by rw [lb8.cell]; rfl
      have f8 := lb8.frozen 0
      have l8 := lb8.lt
      -- only the box and the row have turned
      have us : Upd W1 (w8.setCell ⟨p + 1, 0, none⟩ (.slice (some ⟨gg, 0, none⟩) 3 capg)) (fun k => k = p + 1 ∨ (Value.slice la 2 lcap).ownBlock = some k) := (((Upd.refl W1 _).alloc _).grown hgrow8 (fun k e => .inr e)).set (p + 1) 0 _ (.inl rfl)
      have hrow1 : ∀ k, (Value.slice la 2 lcap).ownBlock = some k → p + 2 ≤ k ∧ k < w5.heap.size := fun k e => hrow5 k e
      have nO1 : ∀ k, O1 k → ¬ (k = p + 1 ∨ (Value.slice la 2 lcap).ownBlock = some k) := fun k hk h => by
        have hk' : p + 1 ≤ k ∧ k < w5.heap.size := by
          rcases h with rfl | h
          · omega
          · have := hrow1 k h; omega
        rcases HW1.out.2.2.2.1 k hk with h1 | h1
        · exact nO k (by omega) h1
        · omega
      have hT8 := HW1.out.2.2.1.upd us nO1
      have o8 := us.blk HW1.out.2.1 (fun h => by
        rcases h with h | h
        · omega
        · have := hrow1 b h; omega)
      have hD1w : D1 < W1.heap.size := (Array.getElem?_eq_some_iff.1 hk1).1
      have hk8 := (us.block D1 hD1w (fun h => by
        rcases h with h | h
        · omega
        · have := hrow1 D1 h; omega)).trans hk1
      have hu9 : Upd w (w8.setCell ⟨p + 1, 0, none⟩ (.slice (some ⟨gg, 0, none⟩) 3 capg)) O := by
        refine ⟨us.os.trans HW1.out.2.2.2.2.os, us.tape.trans HW1.out.2.2.2.2.tape, us.output.trans HW1.out.2.2.2.2.output, Nat.le_trans HW1.out.2.2.2.2.size us.size, fun k hk hn => (us.block k (Nat.lt_of_lt_of_le hk HW1.out.2.2.2.2.size) (fun h => ?_)).trans (HW1.out.2.2.2.2.block k hk hn)⟩
        rcases h with h | h
        · omega
        · have := hrow1 k h; omega
      have hO1' := HW1.out.2.2.2.1
      have hrow9 := fun k e => hK8.row.lt k e
      have H9 := Lib.hid (And.intro hK8 (And.intro o8 (And.intro hT8 hu9)))
      have hgg : ∀ k, (Value.slice (some ⟨gg, 0, none⟩) 3 capg).ownBlock = some k → ¬ O1 k := fun k e h => by
        have hk : gg = k := by simpa [Value.ownBlock] using e
        subst hk
        rcases hat8 with h8 | h8
        · exact nO1 gg h (.inr h8)
        · have := HW1.out.2.2.1.lt gg h
          omega
      have hggD : gg ≠ D1 := by
        rcases hat8 with h8 | h8
        · have := hrow1 gg h8; omega
        · omega
      clear hown8 hgrow8 hat8 hlt8 hK7 hK8 hu8 lb8 us hT8 o8 hu9 b7 hK1r HW1
      go_upto_region 16 with fail
      generalize (w8.setCell ⟨p + 1, 0, none⟩ (.slice (some ⟨gg, 0, none⟩) 3 capg)) = w9 at *
      clear y0 y1 x1 g1 g2 g3 x8 f8 l8
      have y0 : w9.cell? ⟨p, 0, none⟩ = some (.pointer (some ⟨b, 0, none⟩)) := by rw [H9.out.1.ob.cell]; rfl
      have y3 : w9.cell? ⟨b, 3, none⟩ = some (.pointer (some ⟨T, 0, none⟩)) := by rw [H9.out.2.1.cell]; rfl
      have lb9 := H9.out.2.1.lt
      go_wp2_with fail
      refine (all_fn T _).mono ?_
      rintro e wa ⟨rfl, hwa⟩
      have ba : Below w9.heap.size w9 wa := by rw [hwa]; exact (Below.refl _ _).alloc (Nat.le_refl _) _
      have hta : Blk wa w9.heap.size 44 #[.pointer (some ⟨T, 0, none⟩)] := by rw [hwa]; exact Blk.new _ _ _
      have Ha := Lib.hid (And.intro (H9.out.1.below ba) (And.intro (H9.out.2.2.1.below ba) ((H9.out.2.2.2).then_below ba)))
      have hka : wa.heap[D1]? = some (.deferred (some [])) := (ba.block D1 (Array.getElem?_eq_some_iff.1 hk8).1).trans hk8
      have hza := hta.lt
      have hD9 := (Array.getElem?_eq_some_iff.1 hk8).1
      clear y0 y3 lb9
      go_wp2_with fail
      rw [← hwa]
      generalize w9.heap.size = q9 at *
      clear hwa
      refine range_empty rfl T q9 O1 rfl hta Ha.out.2.1 ?_
      intro D2 W2 O2 hD2 hnD2 hk2 hT2 hO2 u2
      have pO1 : ∀ k, O1 k → k ≠ p ∧ k ≠ p + 1 := fun k hk => by
        have h5 := hp5
        rcases hO1' k hk with h1 | h1
        · have := hOlt k h1; omega
        · omega
      have hK2 := Ha.out.1.upd u2 (fun h => (pO1 _ h).1 rfl) (fun h => (pO1 _ h).2 rfl) hgg
      have hu2 : Upd w W2 O := by
        refine ⟨u2.os.trans Ha.out.2.2.os, u2.tape.trans Ha.out.2.2.tape, u2.output.trans Ha.out.2.2.output, Nat.le_trans Ha.out.2.2.size u2.size, fun k hk hn => (u2.block k (Nat.lt_of_lt_of_le hk Ha.out.2.2.size) (fun h => ?_)).trans (Ha.out.2.2.block k hk hn)⟩
        rcases hO1' k h with h1 | h1
        · exact hn h1
        · omega
      have hkb := (u2.block D1 (Array.getElem?_eq_some_iff.1 hka).1 hnD1).trans hka
      have x2 : W2.cell? ⟨p + 1, 0, none⟩ = some (.slice (some ⟨gg, 0, none⟩) 3 capg) := by rw [hK2.lb.cell]; rfl
      have HF := Lib.hid (And.intro hK2 (And.intro hT2 hu2))
      have hD12 : D2 ≠ D1 := fun e => by rw [e] at hD2; omega
      clear hK2 hT2 hu2 u2 hta
      go_wp2_with fail
      refine marksOf (I := fun W => W.ownsRow (p + 2) 34 3 (.slice (some ⟨gg, 0, none⟩) 3 capg) 3 (valsC [keyD 0, keyD 1, lenK]) ∧ TabA W T [] [] O2 ∧ Upd w W O) [D2, D1] ?_ ?_ [D2, D1] W2 (fun D h => h) (by simp [hD12]) ?_ ⟨?_, HF.out.2.1, HF.out.2.2⟩
      · intro W D o hh hD
        have hDn : ¬ O2 D ∧ w.heap.size ≤ D ∧ gg ≠ D := by
          have h9 := hrow9 gg (by simp [Value.ownBlock])
          rcases List.mem_cons.1 hD with rfl | hD
          · exact ⟨hnD2, by omega, by omega⟩
          · rw [List.mem_singleton] at hD
            subst hD
            refine ⟨fun h => ?_, by omega, hggD⟩
            rcases hO2 _ h with h1 | h1
            · exact hnD1 h1
            · omega
        refine ⟨(Upd.put W D o).own hh.1 (fun k e hk => hDn.2.2 (by rw [← hk]; simpa [Value.ownBlock] using e)), hh.2.1.upd (Upd.put W D o) (fun k hk e => hDn.1 (e ▸ hk)), ?_⟩
        refine ⟨hh.2.2.os, hh.2.2.tape, hh.2.2.output, by have := hh.2.2.size; simpa [World.putObj] using this, fun k hk hn => (World.putObj_heap_other (by omega)).trans (hh.2.2.block k hk hn)⟩
      · intro W hh
        exact ⟨.slice (some ⟨gg, 0, none⟩) 3 capg, by simp [results, Tryd.results36, go_sem], gg, capg, O2, rfl, hh.1, hh.2⟩
      · intro D hD
        rcases List.mem_cons.1 hD with rfl | hD
        · exact hk2
        · rw [List.mem_singleton] at hD; subst hD; exact hkb
      · have := HF.out.1.row
        rw [HKK.out]
        exact this
end Go.Proofs.YtmimnaaofpkndaaDoor.Hp

/- The heap: the example (fit). -/
set_option linter.unusedVariables false
set_option linter.unusedSimpArgs false
namespace Go.Proofs.YtmimnaaofpkndaaDoor.Hp
open Go.RowKit Go.Proofs.YtmimnaaofpkndaaDoor Go.Shelf Go.Sort
theorem keyL_len : keyL [108, 101, 110, 103, 116, 104] = lenK := by
  unfold keyL lenK
  rw [Tx.ofB_ascii _ (by decide)]
  rfl
theorem keyD_1 : keyD 1 = keyL [49] := by
  unfold keyD
  rw [dig_small 1 (by decide)]
  rfl
theorem infoObj : ∃ i, Tryd.prog.info? 51 = some i := Option.isSome_iff_exists.1 (by kernel_rfl)
theorem obj_same (b : Nat) (w : World) : (binOp .eql tObj (.pointer (some ⟨b, 0, none⟩)) (.pointer (some ⟨b, 0, none⟩))).run Tryd.prog w = .ok (.bool true) w := by
  obtain ⟨i, hi⟩ := infoObj
  exact run_eql_ptr_same w ⟨b, 0, none⟩ Tryd.underlying26 hi
set_option maxRecDepth 100000 in
set_option maxHeartbeats 8000000 in
theorem fit_any (w : World) (hLg : Lg w) : Calls Tryd.prog 8 #[] w fun e w' => e = .returned (.bool true) ∧ Below w.heap.size w w' := by
  have HLg := Lib.hid hLg
  have h0 := hLg.lt
  clear hLg
  go_enter Tryd.func8, Tryd.ntmps8
  go_wp2_with fail
  refine (hnew_any w).mono ?_
  rintro e w1 ⟨rfl, rfl⟩
  have hx0 := newW_hx w
  have hb0 := newW_below w
  have hz0 : (newW w).heap.size = w.heap.size + 2 := by simp [newW]
  have HX0 := Lib.hid (And.intro hx0 hb0)
  clear hx0 hb0
  generalize newW w = w1 at *
  go_wp2_with fail
  refine (make_any 1 0 HX0.out.1 (by omega) (by omega) (by simp) (by omega)).mono ?_
  rintro e w2 ⟨b, T, cv, rfl, hT0, hTb, hob, hT, hX, u2, hcv⟩
  have hb2 : Below w.heap.size w w2 := HX0.out.2.trans (u2.below HX0.out.2.size (fun k hk => by
    rcases hk with rfl | h
    · exact Nat.le_refl _
    · simp [Value.ownBlock] at h))
  have hcv' : ∀ g, cv.ownBlock = some g → b < g := fun g hg => (hcv g hg).resolve_left (by simp [Value.ownBlock])
  have o4 : w2.cell? ⟨b, 4, none⟩ = some (.slice none 0 0) := by rw [hob.cell]; rfl
  have f4 := hob.frozen 4
  have lb := hob.lt
  have HH := Lib.hid (And.intro hob (And.intro hT (And.intro hX hb2)))
  clear hob hT hX hb2 hcv u2 HX0
  go_upto_region 8 with fail
  obtain ⟨w3, hw3⟩ : ∃ x, ((w2.setCell ⟨b, 4, none⟩ (.slice (some ⟨w2.heap.size, 0, none⟩) 2 2)).alloc (.cells #[.int .i64 0, .int .i64 0, .string ⟨#[]⟩, .int .i64 0, .int .i64 0, .string ⟨#[]⟩] 34)) = x := ⟨_, rfl⟩
  rw [hw3]
  have ho3 : Blk w3 b 51 (objA 1 0 false T (.slice (some ⟨w2.heap.size, 0, none⟩) 2 2) nilP nilP nilS 0) := by rw [← hw3]; exact (HH.out.1.set_ 4 _).alloc _
  have hg3 : Blk w3 w2.heap.size 34 #[.int .i64 0, .int .i64 0, .string ⟨#[]⟩, .int .i64 0, .int .i64 0, .string ⟨#[]⟩] := by
    have := Blk.new (w2.setCell ⟨b, 4, none⟩ (.slice (some ⟨w2.heap.size, 0, none⟩) 2 2)) 34 #[.int .i64 0, .int .i64 0, .string ⟨#[]⟩, .int .i64 0, .int .i64 0, .string ⟨#[]⟩]
    rw [World.size_setCell] at this
    rw [← hw3]; exact this
  have u3 : Upd w2 w3 (fun k => k = b) := by rw [← hw3]; exact ((Upd.refl w2 (fun k => k = b)).set b 4 _ rfl).alloc _
  have hTw := HH.out.2.1.lt T rfl
  have hT3 : TabA w3 T [] [] (fun k => k = T) := HH.out.2.1.upd u3 (fun k hk h => by omega)
  have hAw := HH.out.2.2.1.ar.blk.lt
  have hX3 : Hx w3 (w.heap.size + 1) w.heap.size w.heap.size cv nilS nilS [(some (tObj, b), false)] [] [] 1 := HH.out.2.2.1.upd u3 (by show ¬ w.heap.size + 1 = b; omega) (by show ¬ w.heap.size = b; omega) (fun g hg h => by have := hcv' g hg; omega) (fun g hg => by simp [Value.ownBlock] at hg) (fun g hg => by simp [Value.ownBlock] at hg)
  have hb3 : Below w.heap.size w w3 := HH.out.2.2.2.trans (u3.below HH.out.2.2.2.size (fun k hk => by omega))
  have hL3 := HLg.out.below hb3
  have he3 : ∀ j, j < 2 → w3.cell? ⟨w2.heap.size, j * 3, none⟩ = some (.int .i64 0) ∧ w3.cell? ⟨w2.heap.size, j * 3 + 1, none⟩ = some (.int .i64 0) ∧ w3.cell? ⟨w2.heap.size, j * 3 + 2, none⟩ = some (.string ⟨#[]⟩) := by
    intro j hj
    rw [hg3.cell, hg3.cell, hg3.cell]
    match j, hj with
    | 0, _ => exact ⟨rfl, rfl, rfl⟩
    | 1, _ => exact ⟨rfl, rfl, rfl⟩
  have hkeys := keys_fit b T w2.heap.size 2 (fun k => k = T) w3 ho3 hT3 hL3 (by show ¬ 0 = T; omega) (by show ¬ b = T; omega) (by show ¬ w2.heap.size = T; omega) hg3.lt he3
  have H3 := Lib.hid (And.intro hX3 hb3)
  have hz3 := hb3.size
  have hbw3 := ho3.lt
  clear hw3 ho3 hg3 u3 hT3 hX3 hb3 hL3 he3 o4 f4 lb HH
  go_wp2_with fail
  refine hkeys.mono ?_
  rintro e w4 ⟨g, gcap, O4, rfl, hrow, -, u4⟩
  have hX4 : Hx w4 (w.heap.size + 1) w.heap.size w.heap.size cv nilS nilS [(some (tObj, b), false)] [] [] 1 := H3.out.1.upd u4 (by show ¬ w.heap.size + 1 = T; omega) (by show ¬ w.heap.size = T; omega) (fun g hg h => by have := hcv' g hg; omega) (fun g hg => by simp [Value.ownBlock] at hg) (fun g hg => by simp [Value.ownBlock] at hg)
  have hb4 : Below w.heap.size w w4 := H3.out.2.trans (u4.below H3.out.2.size (fun k hk => by omega))
  obtain ⟨k1, hk1⟩ : ∃ k, keyD 1 = k := ⟨_, rfl⟩
  obtain ⟨k2, hk2⟩ : ∃ k, lenK = k := ⟨_, rfl⟩
  have r1 : ∀ j, j < 3 → w4.cell? ⟨g, 3 + j, none⟩ = ([.int .i64 k1.1, .int .i64 k1.2.1, .string k1.2.2] : List Value)[j]? := fun j hj => by
    rw [hrow.cellAt (3 + j) (by omega), show 3 + j = 1 * 3 + j by omega, valsC_get _ 1 j (keyD 1) rfl hj, hk1]
  have r2 : ∀ j, j < 3 → w4.cell? ⟨g, 6 + j, none⟩ = ([.int .i64 k2.1, .int .i64 k2.2.1, .string k2.2.2] : List Value)[j]? := fun j hj => by
    rw [hrow.cellAt (6 + j) (by omega), show 6 + j = 2 * 3 + j by omega, valsC_get _ 2 j lenK rfl hj, hk2]
  have a0 : w4.cell? ⟨g, 3, none⟩ = some (.int .i64 k1.1) := r1 0 (by decide)
  have a1 : w4.cell? ⟨g, 4, none⟩ = some (.int .i64 k1.2.1) := r1 1 (by decide)
  have a2 : w4.cell? ⟨g, 5, none⟩ = some (.string k1.2.2) := r1 2 (by decide)
  have c0 : w4.cell? ⟨g, 6, none⟩ = some (.int .i64 k2.1) := r2 0 (by decide)
  have c1 : w4.cell? ⟨g, 7, none⟩ = some (.int .i64 k2.2.1) := r2 1 (by decide)
  have c2 : w4.cell? ⟨g, 8, none⟩ = some (.string k2.2.2) := r2 2 (by decide)
  have D1 := fun d os => Calls.regrown_of (show Calls Tryd.prog 13 #[.string ⟨[(49 : UInt8)].toArray⟩] (grow (redrawn w4 d) os) (fun e w' => e = .returned (VK k1) ∧ Below (grow (redrawn w4 d) os).heap.size (grow (redrawn w4 d) os) w') from by
    have h := keyL_any [49] (by decide) (grow (redrawn w4 d) os); rwa [← keyD_1, hk1] at h)
  have D2 := fun d os => Calls.regrown_of (show Calls Tryd.prog 13 #[.string ⟨[(108 : UInt8), 101, 110, 103, 116, 104].toArray⟩] (grow (redrawn w4 d) os) (fun e w' => e = .returned (VK k2) ∧ Below (grow (redrawn w4 d) os).heap.size (grow (redrawn w4 d) os) w') from by
    have h := keyL_any [108, 101, 110, 103, 116, 104] (by decide) (grow (redrawn w4 d) os); rwa [keyL_len, hk2] at h)
  have hkk : ∀ (i : Nat) (n : Nat × Nat), (([(some (tObj, b), false)] : List Cell).getD i (none, false)).1 = some n → n.1 = tObj ∨ n.1 = tEnv ∨ n.1 = tMark := fun i n h => by
    cases i with
    | zero => simp at h; subst h; exact .inl rfl
    | succ i => simp at h
  have obd : ∀ (r : Int) (v : Value), objP [(some (tObj, b), false)] r = v → ∀ d os, Calls Tryd.prog 11 #[.pointer (some ⟨w.heap.size + 1, 0, none⟩), .int .i64 r] (grow (redrawn w4 d) os) (fun e w' => e = .returned v ∧ Below (grow (redrawn w4 d) os).heap.size (grow (redrawn w4 d) os) w') := fun r v hv d os => by
    refine (obj_any r (hX4.below (below_regrown w4 d os)) (by simp) hkk).mono ?_
    rintro e w' ⟨rfl, q, rfl⟩
    exact ⟨by rw [hv], below_drw (Below.refl _ _) q⟩
  have D3 := fun d os => Calls.regrown_of (obd 1 (.pointer (some ⟨b, 0, none⟩)) rfl d os)
  have D4 := fun d os => Calls.regrown_of (obd 2 (.pointer none) rfl d os)
  have A0 := fun d os => cell_regrown a0 d os
  have A1 := fun d os => cell_regrown a1 d os
  have A2 := fun d os => cell_regrown a2 d os
  have C0 := fun d os => cell_regrown c0 d os
  have C1 := fun d os => cell_regrown c1 d os
  have C2 := fun d os => cell_regrown c2 d os
  have E1 := fun W => obj_same b W
  have HB4 := Lib.hid hb4
  clear r1 r2 a0 a1 a2 c0 c1 c2 hb4 obd hkk hX4 hrow u4 hk1 hk2 H3 hkeys
  go_wp2_with fail
  refine wp_region_quiet_below (by kernel_rfl) (by kernel_rfl) ?_
  repeat (quiet_step (first | with_reducible exact D1 _ _ | with_reducible exact D2 _ _ | with_reducible exact D3 _ _ | with_reducible exact D4 _ _))
  refine wpQuiet_nil ?_
  intro _ hw'
  obtain ⟨⟨dq, osq⟩, hw''⟩ := hw'
  subst hw''
  have bq := below_regrown w4 dq osq
  clear A0 A1 A2 C0 C1 C2 D1 D2 D3 D4 E1
  go_wp2
  go_ret
  exact ⟨by simp, HB4.out.trans (bq.mono HB4.out.size)⟩
end Go.Proofs.YtmimnaaofpkndaaDoor.Hp

/- HeapRuns: words of the chapter's other laws that serve here. -/
set_option linter.unusedVariables false
set_option linter.unusedSimpArgs false
namespace Go.Proofs.YtmimnaaofpkndaaDoor.Hp
open Go.RowKit Go.Proofs.YtmimnaaofpkndaaDoor Go.Shelf Go.Sort
attribute [local go_sem] Oper.semAt_some
theorem norm_mod (n m : Int) (hm : 0 < m) (h9 : m < 1000000000) : ∃ N : Nat, (wrap64 (n.tmod m + m)).tmod m = (N : Int) ∧ (N : Int) < m := by
  have h1 := Int.tmod_lt_of_pos n hm
  have h2 := Int.lt_tmod_of_pos n hm
  rw [IntWalk.wrap64_in _ (by omega)]
  rw [Int.tmod_eq_emod_of_nonneg (by omega)]
  have h3 := Int.emod_nonneg (n.tmod m + m) (by omega : m ≠ 0)
  have h4 := Int.emod_lt_of_pos (n.tmod m + m) hm
  exact ⟨((n.tmod m + m) % m).toNat, by omega, by omega⟩
theorem and_to (x : Int) (m : Nat) (hm : m < 1000) : ∃ j : Nat, j ≤ m ∧ bits .and .i64 x (m : Int) = (j : Int) := by
  have h : ((BitVec.ofInt 64 x) &&& (BitVec.ofInt 64 (m : Int))).toNat ≤ m := by
    rw [BitVec.toNat_and]
    refine Nat.le_trans Nat.and_le_right ?_
    rw [BitVec.ofInt_natCast, BitVec.toNat_ofNat]
    exact Nat.mod_le _ _
  refine ⟨((BitVec.ofInt 64 x) &&& (BitVec.ofInt 64 (m : Int))).toNat, h, ?_⟩
  show IntKind.i64.wrap ((((BitVec.ofInt 64 x) &&& (BitVec.ofInt 64 (m : Int))).toNat : Nat) : Int) = _
  exact IntWalk.i64_in _ (by omega)
theorem own_cap {w : World} {B size n cap g : Nat} {t : TypeId} {xs : List Value} (h : w.ownsRow B t size (.slice (some ⟨g, 0, none⟩) n cap) n xs) : n ≤ cap ∧ cap ≤ maxLen := by
  rcases h.2 with ⟨h', _⟩ | ⟨g', cap', cur, h', hb, hg, hnc, hcm, hcs, htake⟩
  · simp at h'
  · simp only [Value.slice.injEq, Option.some.injEq, Addr.mk.injEq, and_true, true_and] at h'
    obtain ⟨rfl, rfl⟩ := h'
    exact ⟨hnc, hcm⟩
theorem still_tail {P : Program} {id : Nat} {Q : Exit → Act → World → Prop} {a : Act} {w : World} {l : List Oper} (n : Nat) (hm : P.follows .mixedOrders = true) (hB : Region.lexTailB .any l.toArray n = true)
    (h : ∀ W, W = w.drewN 1 → wpStill P l.toArray W (fun a' => wpList P l.toArray Q (l.drop n) a' W) (l.take n) a) : (Code.region id l.toArray true).wp P Q a w := wp_region_still_tail n hm hB (h _ rfl)
theorem valsC_take (L : List K3) (n : Nat) : (valsC L).take (n * 3) = valsC (L.take n) := by
  induction n generalizing L with
  | zero => simp [valsC]
  | succ n ih =>
    cases L with
    | nil => simp [valsC]
    | cons k L =>
      have h1 : valsC (k :: L) = .int .i64 k.1 :: .int .i64 k.2.1 :: .string k.2.2 :: valsC L := by simp [valsC]
      rw [h1, show (n + 1) * 3 = n * 3 + 1 + 1 + 1 by omega, List.take_succ_cons, List.take_succ_cons, List.take_succ_cons, ih, List.take_succ_cons]
      simp [valsC]
def E0 : K3 := (10, 0, ⟨#[]⟩)
def lenAt (b : Nat) (w : World) : Nat := match w.cell? ⟨b, 4, none⟩ with
  | some (.slice _ n _) => n
  | _ => 0
theorem lenAt_of {b n : Nat} {w : World} {a : Option Addr} {cap : Nat} (h : w.cell? ⟨b, 4, none⟩ = some (.slice a n cap)) : lenAt b w = n := by unfold lenAt; rw [h]
theorem valsC_length (L : List K3) : (valsC L).length = L.length * 3 := by
  induction L with
  | nil => rfl
  | cons k L ih =>
    have h1 : valsC (k :: L) = .int .i64 k.1 :: .int .i64 k.2.1 :: .string k.2.2 :: valsC L := by simp [valsC]
    rw [h1]; simp [ih]; omega
theorem own_elem {W : World} {B g n cap : Nat} {L : List K3} (h : W.ownsRow B 34 3 (.slice (some ⟨g, 0, none⟩) n cap) L.length (valsC L)) (i : Nat) (k : K3) (hk : L[i]? = some k) (j : Nat) (hj : j < 3) : W.cell? ⟨g, i * 3 + j, none⟩ = ([.int .i64 k.1, .int .i64 k.2.1, .string k.2.2] : List Value)[j]? := by
  have hi : i < L.length := (List.getElem?_eq_some_iff.1 hk).1
  obtain ⟨A, c, hA, _⟩ := own_shape h
  have hn : n = L.length := by injection hA
  rw [hn] at h
  rw [h.cellAt (i * 3 + j) (by omega), valsC_get L i j k hk hj]
theorem lenK_idx : idxV 1 lenK = -1 := by
  unfold idxV
  rw [if_pos ⟨rfl, rfl⟩, ← keyL_len, keyL_idx _ (by decide)]
  rfl
theorem valsC_set (L : List K3) (i : Nat) (v : K3) : (((valsC L).set (i * 3) (.int .i64 v.1)).set (i * 3 + 1) (.int .i64 v.2.1)).set (i * 3 + 2) (.string v.2.2) = if i < L.length then valsC (L.set i v) else (((valsC L).set (i * 3) (.int .i64 v.1)).set (i * 3 + 1) (.int .i64 v.2.1)).set (i * 3 + 2) (.string v.2.2) := by
  split
  · rename_i h
    induction L generalizing i with
    | nil => simp at h
    | cons k L ih =>
      have h1 : ∀ (k : K3) (L : List K3), valsC (k :: L) = .int .i64 k.1 :: .int .i64 k.2.1 :: .string k.2.2 :: valsC L := fun k L => by simp [valsC]
      cases i with
      | zero => simp [h1]
      | succ i =>
        have := ih i (by simpa using h)
        have s3 : ∀ (x y z u : Value) (l : List Value) (a : Nat), (x :: y :: z :: l).set (a + 3) u = x :: y :: z :: l.set a u := fun _ _ _ _ _ _ => rfl
        rw [h1, show (i + 1) * 3 = i * 3 + 3 by omega, show i * 3 + 3 + 1 = i * 3 + 1 + 3 by omega, show i * 3 + 3 + 2 = i * 3 + 2 + 3 by omega, s3, s3, s3, this, List.set_cons_succ, h1]
  · rfl
theorem keyD_idx (i : Nat) (hi : i < 1000) : idxV 1 (keyD i) = (i : Int) := by
  unfold idxV
  rw [if_pos ⟨rfl, rfl⟩]
  show Tx.indexOf (keyL (Tx.decB i)).2.2 = _
  rw [keyL_idx _ (Tx.decB_ascii i (by omega)), Tx.idxL_dec i (by omega), if_neg (by omega)]
theorem keyD_size (i : Nat) (hi : i < 1000) : (keyD i).2.2.size ≤ 4000 := keyL_size _ (Tx.decB_ascii i (by omega)) (by have := decB_len i (by omega); omega)
def Z0 : K3 := (0, 0, ⟨#[]⟩)
theorem valsC_setK (L : List K3) (i : Nat) (x : K3) (k : Int) (hx : L[i]? = some x) : (valsC L).set (i * 3) (.int .i64 k) = valsC (L.set i (k, x.2.1, x.2.2)) := by
  induction L generalizing i with
  | nil => simp at hx
  | cons d L ih =>
    have h1 : ∀ (k : K3) (L : List K3), valsC (k :: L) = .int .i64 k.1 :: .int .i64 k.2.1 :: .string k.2.2 :: valsC L := fun k L => by simp [valsC]
    cases i with
    | zero => simp at hx; subst hx; simp [h1]
    | succ i =>
      have s3 : ∀ (x y z u : Value) (l : List Value) (a : Nat), (x :: y :: z :: l).set (a + 3) u = x :: y :: z :: l.set a u := fun _ _ _ _ _ _ => rfl
      rw [h1, show (i + 1) * 3 = i * 3 + 3 by omega, s3, ih i (by simpa using hx), List.set_cons_succ, h1]
theorem made_vals (n : Nat) : (madeCells (Value.agg #[.int .i64 0, .int .i64 0, .string ⟨#[]⟩]).cells (n * 3)).toList = valsC (List.replicate n Z0) := by
  apply List.ext_getElem?
  intro j
  by_cases hj : j < n * 3
  · have h := valsC_get (List.replicate n Z0) (j / 3) (j % 3) Z0 (by rw [List.getElem?_replicate, if_pos (by omega)]) (Nat.mod_lt _ (by decide))
    rw [show j / 3 * 3 + j % 3 = j by omega] at h
    rw [h]
    have h3 : j % 3 = 0 ∨ j % 3 = 1 ∨ j % 3 = 2 := by omega
    rcases h3 with e | e | e <;> simp [madeCells, hj, e, Value.cells, Z0]
  · have : (valsC (List.replicate n Z0)).length ≤ j := by rw [valsC_length]; simp; omega
    rw [List.getElem?_eq_none this]
    simp [madeCells]; omega
theorem vsymbol_any (r : Int) (w : World) : Calls Tryd.prog 46 #[.int .i64 r] w (Ret (VS 8 r ⟨#[]⟩) w) := by
  go_enter Tryd.func46, Tryd.ntmps46
  go_wp2
  exact bodyPost_ret (v := VS 8 r ⟨#[]⟩) (by simp [results, Tryd.results46, go_sem]) rfl ⟨rfl, (Below.refl _ _).alloc (Nat.le_refl _) _⟩
end Go.Proofs.YtmimnaaofpkndaaDoor.Hp
