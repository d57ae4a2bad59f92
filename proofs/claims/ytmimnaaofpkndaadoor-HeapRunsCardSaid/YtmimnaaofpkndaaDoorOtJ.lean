/- OtJ: several texts in one. -/
import Derived.Test.YtmimnaaofpkndaaDoorOtG
import Derived.WalkSmall
import Derived.LaidEqlPtr
import Derived.TacticsInMore
import Derived.Deep.DeepCutAuto
/- Contract of Close. -/
set_option linter.unusedVariables false
set_option linter.unusedSimpArgs false
namespace Go.Proofs.YtmimnaaofpkndaaDoor
open Go.RowKit Go.Sort
/-- A list whose place k is taken by its last. -/
def swp (l : List (Nat × Nat)) (k : Nat) : List (Nat × Nat) := (l.set k (l.getLastD (0, 0))).dropLast
theorem swp_len (l : List (Nat × Nat)) (k : Nat) : (swp l k).length = l.length - 1 := by simp [swp]
theorem swp_eq {P S : List (Nat × Nat)} {c : Nat × Nat} : swp (P ++ c :: S) P.length = if S = [] then P else P ++ S.getLastD (0, 0) :: S.dropLast := by
  unfold swp
  rw [List.set_append_right _ _ (Nat.le_refl _), Nat.sub_self, List.set_cons_zero]
  rcases List.eq_nil_or_concat S with rfl | ⟨S', z, rfl⟩
  · simp
  · simp [List.getLastD_eq_getLast?, List.dropLast_append_of_ne_nil, List.dropLast_cons_of_ne_nil]
    rw [show c :: (S' ++ [z]) = (c :: S') ++ [z] from rfl, List.getLast?_concat]; rfl
theorem swp_spec {l : List (Nat × Nat)} {k : Nat} {c : Nat × Nat} (hk : l[k]? = some c) (hn : (l.map Prod.fst).Nodup) :
    (∀ x, x ∈ swp l k ↔ x ∈ l ∧ x.1 ≠ c.1) ∧ ((swp l k).map Prod.fst).Nodup := by
  obtain ⟨h1, h2⟩ := List.getElem?_eq_some_iff.1 hk
  have hl : l = l.take k ++ c :: l.drop (k + 1) := by rw [← h2, ← List.drop_eq_getElem_cons h1, List.take_append_drop]
  have hP : (l.take k).length = k := by rw [List.length_take]; omega
  generalize l.take k = P at *
  generalize l.drop (k + 1) = S at *
  subst hl
  subst hP
  rw [swp_eq]
  rw [List.map_append, List.map_cons, List.nodup_append] at hn
  obtain ⟨n1, n2, n3⟩ := hn
  rw [List.nodup_cons] at n2
  have hPc : ∀ x ∈ P, x.1 ≠ c.1 := fun x hx => n3 x.1 (List.mem_map_of_mem hx) c.1 (List.mem_cons_self ..)
  have hSc : ∀ x ∈ S, x.1 ≠ c.1 := fun x hx e => n2.1 (e ▸ List.mem_map_of_mem hx)
  by_cases hS : S = []
  · subst hS
    rw [if_pos rfl]
    refine ⟨fun x => ⟨fun hx => ⟨List.mem_append_left _ hx, hPc x hx⟩, fun ⟨hx, hne⟩ => ?_⟩, n1⟩
    rcases List.mem_append.1 hx with hx | hx
    · exact hx
    · rw [List.mem_singleton] at hx; subst hx; exact absurd rfl hne
  · rw [if_neg hS]
    obtain ⟨S', z, rfl⟩ : ∃ S' z, S = S' ++ [z] := by
      rcases List.eq_nil_or_concat S with h | ⟨S', z, h⟩
      · exact absurd h hS
      · exact ⟨S', z, by simpa using h⟩
    have e1 : (S' ++ [z]).getLastD (0, 0) = z := by simp [List.getLastD_eq_getLast?]
    have e2 : (S' ++ [z]).dropLast = S' := by simp
    rw [e1, e2]
    refine ⟨fun x => ⟨fun hx => ?_, fun ⟨hx, hne⟩ => ?_⟩, ?_⟩
    · rcases List.mem_append.1 hx with hx | hx
      · exact ⟨List.mem_append_left _ hx, hPc x hx⟩
      · have hx2 : x ∈ S' ++ [z] := by
          rcases List.mem_cons.1 hx with hx | hx
          · subst hx; simp
          · exact List.mem_append_left _ hx
        exact ⟨List.mem_append_right _ (List.mem_cons_of_mem _ hx2), hSc x hx2⟩
    · rcases List.mem_append.1 hx with hx | hx
      · exact List.mem_append_left _ hx
      · rcases List.mem_cons.1 hx with hx | hx
        · subst hx; exact absurd rfl hne
        · apply List.mem_append_right
          rcases List.mem_append.1 hx with hx | hx
          · exact List.mem_cons_of_mem _ hx
          · rw [List.mem_singleton] at hx; subst hx; exact List.mem_cons_self ..
    · rw [List.map_append, List.map_cons, List.nodup_append]
      have n4 := n2.2
      rw [List.map_append, List.nodup_append] at n4
      refine ⟨n1, List.nodup_cons.2 ⟨fun h => n4.2.2 z.1 h z.1 (by simp) rfl, n4.1⟩, fun a ha b hb => n3 a ha b ?_⟩
      rcases List.mem_cons.1 hb with hb | hb
      · subst hb; simp
      · simp only [List.mem_cons, List.map_append, List.mem_append]; exact .inr (.inl hb)
theorem swp_row {l : List (Nat × Nat)} {k : Nat} (hk : k < l.length) : (l.set k (l.getLastD (0, 0))).map curC = (swp l k).map curC ++ [curC (l.getLastD (0, 0))] := by
  have hne : l.set k (l.getLastD (0, 0)) ≠ [] := by
    intro h
    have := congrArg List.length h
    simp at this
    subst this
    simp at hk
  have h1 := List.dropLast_concat_getLast hne
  have h2 : (l.set k (l.getLastD (0, 0))).getLast hne = l.getLastD (0, 0) := by
    rcases List.eq_nil_or_concat l with rfl | ⟨l', z, rfl⟩
    · simp at hk
    · rw [List.getLast_eq_getElem, List.getElem_set]
      simp [List.getLastD_eq_getLast?]
  rw [← h1, h2]
  simp [swp]
theorem close_tab {w : World} {T gC cap c k a : Nat} {lv sv : Value} {es : List Ent} {sl : List Nat} {live : Nat} {cs : List (Nat × Nat)} {O : Nat → Prop} (h : TabV w T lv sv (.slice (some ⟨gC, 0, none⟩) cs.length cap) es sl live cs O) (hk : cs[k]? = some (c, a)) :
    TabV (((w.setCell ⟨gC, k, none⟩ (curC (cs.getLastD (0, 0)))).setCell ⟨T, 3, none⟩ (.slice (some ⟨gC, 0, none⟩) (swp cs k).length cap)).setCell ⟨c, 0, none⟩ (.pointer none)) T lv sv (.slice (some ⟨gC, 0, none⟩) (swp cs k).length cap) es sl live (swp cs k) (fun x => O x ∧ x ≠ c) ∧
    Blk (((w.setCell ⟨gC, k, none⟩ (curC (cs.getLastD (0, 0)))).setCell ⟨T, 3, none⟩ (.slice (some ⟨gC, 0, none⟩) (swp cs k).length cap)).setCell ⟨c, 0, none⟩ (.pointer none)) c 151 #[.pointer none, .int .i64 (a : Int)] ∧
    Upd w (((w.setCell ⟨gC, k, none⟩ (curC (cs.getLastD (0, 0)))).setCell ⟨T, 3, none⟩ (.slice (some ⟨gC, 0, none⟩) (swp cs k).length cap)).setCell ⟨c, 0, none⟩ (.pointer none)) O := by
  have hm : (c, a) ∈ cs := List.mem_of_getElem? hk
  have hkl := (List.getElem?_eq_some_iff.1 hk).1
  obtain ⟨hsp, hnd⟩ := swp_spec hk h.nodup
  have hst := World.ownsRow.stored h.curs k (curC (cs.getLastD (0, 0)))
  have hcb := h.cur _ hm
  have nT : T ≠ gC := fun e => own_blk_ne h.curs h.blk (by decide) (by rw [e]; rfl)
  have nc : ∀ d ∈ cs, d.1 ≠ gC := fun d hd e => own_blk_ne h.curs (h.cur d hd) (by decide) (by rw [e]; rfl)
  have nTc : T ≠ c := h.blk.ne_ hcb (by decide)
  have hb1 : Blk (w.setCell ⟨gC, k, none⟩ (curC (cs.getLastD (0, 0)))) T 117 #[lv, sv, .int .i64 (live : Int), .slice (some ⟨gC, 0, none⟩) cs.length cap] := h.blk.far nT _
  have he1 := h.ents.kept hst.2 (.inr (own_own_ne h.ents h.curs (by decide) rfl))
  have hs1 := h.slots.kept hst.2 (.inr (own_own_ne h.slots h.curs (by decide) rfl))
  have hc1 := hst.1
  rw [← List.map_set, swp_row hkl] at hc1
  have hlen : (swp cs k).length + 1 = cs.length := by rw [swp_len]; omega
  rw [← hlen] at hc1
  have hc2 := ownsRow_pop (size := 1) (by simp) hc1
  have hT2 := tab_setCv (cs' := swp cs k) (O' := fun x => O x ∧ x ≠ c) hb1 he1 hs1 hc2 (fun d hd => (h.cur d ((hsp d).1 hd).1).far (nc d ((hsp d).1 hd).1) _) hnd ⟨h.oT, nTc⟩
    (fun g hg => ⟨h.oL g hg, fun e => own_blk_ne h.ents hcb (by decide) (by rw [hg, e])⟩) (fun g hg => ⟨h.oS g hg, fun e => own_blk_ne h.slots hcb (by decide) (by rw [hg, e])⟩)
    (fun g hg => ⟨h.oC g hg, fun e => own_blk_ne h.curs hcb (by decide) (by rw [← e]; exact hg)⟩) (fun d hd => ⟨h.oc d ((hsp d).1 hd).1, ((hsp d).1 hd).2⟩) (fun x hx => by have := h.oLt x hx.1; simpa using this)
  refine ⟨hT2.upd ((Upd.refl _ (fun x => x = c)).set c 0 _ rfl) (fun x hx e => hx.2 e), ?_, (((Upd.refl w O).set gC k _ (h.oC gC rfl)).set T 3 _ h.oT).set c 0 _ (h.oc _ hm)⟩
  exact ((hcb.far (nc _ hm) _).far nTc.symm _).set_ 0 _
theorem infoCu : (Tryd.prog.info? 151).map (fun i => i.size) = some 2 := by kernel_rfl
theorem cur_same (c : Nat) (w : World) : (binOp .eql 46 (.pointer (some ⟨c, 0, none⟩)) (.pointer (some ⟨c, 0, none⟩))).run Tryd.prog w = .ok (.bool true) w := by
  obtain ⟨i, hi, _⟩ := Option.map_eq_some_iff.1 infoCu
  exact run_eql_ptr_same w ⟨c, 0, none⟩ Tryd.underlying46 hi
theorem cur_other {a b : Nat} {w : World} {x y : Array Value} (h : a ≠ b) (ha : Blk w a 151 x) (hb : Blk w b 151 y) : (binOp .eql 46 (.pointer (some ⟨a, 0, none⟩)) (.pointer (some ⟨b, 0, none⟩))).run Tryd.prog w = .ok (.bool false) w := by
  obtain ⟨i, hi, hz⟩ := Option.map_eq_some_iff.1 infoCu
  exact run_eql_ptr_other w Tryd.underlying46 hi (by rw [hz]; decide) (fun e => h (congrArg Addr.block e)) ha hb
/-- What Close comes to. -/
def CloP (c T : Nat) (A : List Ent) (D : List (Nat × Nat)) (O : Nat → Prop) (w : World) (e : Ending) (w' : World) : Prop :=
  e = .returned (.tuple #[]) ∧ (∃ D', TabA w' T A D' (fun x => O x ∧ x ≠ c) ∧ (∀ x, x ∈ D' ↔ x ∈ D ∧ x.1 ≠ c) ∧ D'.length + 1 = D.length) ∧ (∃ a : Int, Blk w' c 151 #[.pointer none, .int .i64 a]) ∧ Upd w w' O
theorem close_fin {w W : World} {T gC cap c k a : Nat} {lv sv : Value} {es : List Ent} {sl : List Nat} {cs : List (Nat × Nat)} {O : Nat → Prop} (h : TabS w T lv sv (.slice (some ⟨gC, 0, none⟩) cs.length cap) es sl cs O) (hk : cs[k]? = some (c, a))
    (hW : W = (((w.setCell ⟨gC, k, none⟩ (curC (cs.getLastD (0, 0)))).setCell ⟨T, 3, none⟩ (.slice (some ⟨gC, 0, none⟩) (swp cs k).length cap)).setCell ⟨c, 0, none⟩ (.pointer none))) (q : Nat) :
    CloP c T (cp es) (cs.map (curF es)) O w (.returned (.tuple #[])) (W.drewN q) := by
  obtain ⟨h1, h2, h3⟩ := close_tab h.tab hk
  rw [← hW] at h1 h2 h3
  obtain ⟨hsp, hnd⟩ := swp_spec hk h.tab.nodup
  have hkl := (List.getElem?_eq_some_iff.1 hk).1
  refine ⟨rfl, ⟨(swp cs k).map (curF es), ⟨lv, sv, _, es, sl, swp cs k, ⟨h1.upd (M := fun _ => False) ((Upd.refl _ _).drewN q) (fun _ _ h => h), h.core, h.slotN, h.load, h.room, fun d hd => h.at_ d ((hsp d).1 hd).1, h.keyS⟩, rfl, rfl⟩, fun x => ⟨fun hx => ?_, fun ⟨hx, hne⟩ => ?_⟩, by rw [List.length_map, List.length_map, swp_len]; omega⟩, ⟨a, h2.drewN q⟩, h3.drewN q⟩
  · obtain ⟨d, hd, rfl⟩ := List.mem_map.1 hx
    exact ⟨List.mem_map_of_mem ((hsp d).1 hd).1, ((hsp d).1 hd).2⟩
  · obtain ⟨d, hd, rfl⟩ := List.mem_map.1 hx
    exact List.mem_map_of_mem ((hsp d).2 ⟨hd, hne⟩)
set_option maxHeartbeats 4000000 in
set_option maxRecDepth 100000 in
theorem close_wp (c T : Nat) (A : List Ent) (D : List (Nat × Nat)) (O : Nat → Prop) (w : World) (h : TabA w T A D O) (x : Nat × Nat) (hx : x ∈ D) (hxc : x.1 = c) (hD : D.length ≤ 100000) :
    ∃ cd, Tryd.f79.body = some cd ∧ cd.wp Tryd.prog (bodyPost Tryd.prog Tryd.f79 (CloP c T A D O w)) { tmps := #[.pointer (some ⟨c, 0, none⟩)] ++ Array.replicate (Tryd.f79.ntmps - #[Value.pointer (some ⟨c, 0, none⟩)].size) undef, defers := [] } w := by
  obtain ⟨lv, sv, cv, es, sl, cs, hs, rfl, rfl⟩ := h
  obtain ⟨y, hy, rfl⟩ := List.mem_map.1 hx
  have hyc : y.1 = c := hxc
  have ht := hs.tab
  have hcb := ht.cur y hy
  rw [hyc] at hcb
  obtain ⟨AC, capC, rfl, hAC⟩ := own_shape ht.curs
  obtain ⟨gC, rfl⟩ := hAC (List.length_pos_of_mem hy)
  rw [List.length_map] at hD
  obtain ⟨m, hm⟩ : ∃ m, cs.length = m := ⟨_, rfl⟩
  obtain ⟨p, hp⟩ : ∃ p, m = p + 1 := ⟨m - 1, by have := List.length_pos_of_mem hy; omega⟩
  have c0 : w.cell? ⟨c, 0, none⟩ = some (.pointer (some ⟨T, 0, none⟩)) := by rw [hcb.cell]; rfl
  have cf := hcb.frozen 0
  have x3 : w.cell? ⟨T, 3, none⟩ = some (.slice (some ⟨gC, 0, none⟩) m capC) := by rw [ht.blk.cell, ← hm]; rfl
  have xf := ht.blk.frozen 3
  have n1 : T ≠ gC := fun e => own_blk_ne ht.curs ht.blk (by decide) (by rw [e]; rfl)
  have n2 : c ≠ gC := fun e => own_blk_ne ht.curs hcb (by decide) (by rw [e]; rfl)
  have n3 : T ≠ c := ht.blk.ne_ hcb (by decide)
  have n4 := n1.symm
  have n5 := n2.symm
  have n6 := n3.symm
  have a1 : IntKind.i64.wrap ((m : Int) - 1) = (p : Int) := by rw [IntWalk.i64_in _ (by omega)]; omega
  have hcap : m ≤ capC := by
    obtain ⟨_, h2⟩ := ht.curs
    rcases h2 with ⟨h0, _⟩ | ⟨g', cap', cur, hv, _, _, hn, _⟩
    · cases h0
    · cases hv; rw [hm] at hn; exact hn
  have hpc : p ≤ capC := by omega
  have p0 : (0 : Int) ≤ (p : Int) := by omega
  have p1 : (p : Int) < (m : Int) := by omega
  have hlast : cs[p]? = some (cs.getLastD (0, 0)) := by
    rw [List.getLastD_eq_getLast?, List.getLast?_eq_getElem?, hm, hp, Nat.add_sub_cancel]
    rw [List.getElem?_eq_getElem (by omega)]; rfl
  obtain ⟨z, hz⟩ : ∃ z, cs.getLastD (0, 0) = z := ⟨_, rfl⟩
  rw [hz] at hlast
  have hmb : m ≤ 100000 := by omega
  have HZ := Lib.hid hz
  clear hz
  have kl : w.cell? ⟨gC, p, none⟩ = some (.pointer (some ⟨z.1, 0, none⟩)) := by
    rw [World.ownsRow.cellAt ht.curs p (by omega), List.getElem?_map, hlast]; rfl
  have HS := Lib.hid hs
  have HM := Lib.hid hm
  have HT := Lib.hid ht
  have HY := Lib.hid (And.intro hy hyc)
  have HP := Lib.hid hp
  have HCB := Lib.hid hcb
  clear hs ht hm hy hyc hcb hlast hAC hcap hx hxc hp hD
  refine ⟨_, rfl, ?_⟩
  simp only [Tryd.ntmps79, List.size_toArray, List.length_cons, List.length_nil, Nat.reduceAdd, Nat.reduceSub, Array.replicate_succ, Array.replicate_zero, List.push_toArray, List.append_toArray, List.nil_append, List.cons_append]
  go_wp2_with fail
  go_loopw [3, 4, 23] (fun _ _ i wr => ∃ j : Nat, j ≤ m ∧ i = .int .i64 j ∧ w = wr ∧ ∀ (i : Nat) (d : Nat × Nat), i < j → cs[i]? = some d → d.1 ≠ c) (fun _ _ i _ => m - (intOf i).toNat)
  case atStart => exact ⟨0, Nat.zero_le _, rfl, rfl, fun i d h => by omega⟩
  case round =>
    obtain ⟨j, hj, rfl, rfl, hno⟩ := hrel
    have HN := Lib.hid hno
    clear hno
    by_cases hjm : j < m
    · obtain ⟨cu, hcu⟩ : ∃ d, cs[j]? = some d := ⟨_, List.getElem?_eq_getElem (by rw [HM.out]; exact hjm)⟩
      have k1 : w.cell? ⟨gC, j, none⟩ = some (.pointer (some ⟨cu.1, 0, none⟩)) := by
        rw [World.ownsRow.cellAt HT.out.curs j (by rw [HM.out]; omega), List.getElem?_map, hcu]; rfl
      have kf := World.ownsRow.frozenAt HT.out.curs j
      have j1 : (j : Int) < (m : Int) := by omega
      have j0 : (0 : Int) ≤ (j : Int) := by omega
      have t1 : decide ((j : Int) < (m : Int)) = true := by simp; omega
      have HCU := Lib.hid hcu
      clear hcu
      by_cases hcc : cu.1 = c
      · have hfin := close_fin (k := j) (c := c) (a := cu.2) HS.out (by rw [HCU.out, ← hcc]) rfl
        rw [HZ.out, swp_len, HM.out, HP.out, Nat.add_sub_cancel] at hfin
        have HF := Lib.hid hfin
        clear hfin
        rw [hcc] at k1
        have hq := cur_same c w
        go_wp2_with fail
        go_region
        all_goals
          go_wp2
          go_end0
          first | exact HF.out 0 | exact HF.out 1 | exact HF.out _
      · have hne : ∀ (i : Nat) (d : Nat × Nat), i < j + 1 → cs[i]? = some d → d.1 ≠ c := fun i d hi hd => by
          rcases Nat.lt_or_ge i j with h | h
          · exact HN.out i d h hd
          · obtain rfl : i = j := by omega
            rw [HCU.out] at hd
            exact Option.some.inj hd ▸ hcc
        have HNE := Lib.hid hne
        clear hne
        have hq := cur_other hcc (HT.out.cur cu (List.mem_of_getElem? HCU.out)) HCB.out
        go_wp2_with fail
        go_roundw
        case rel => exact ⟨j + 1, by omega, by go_num, trivial, HNE.out⟩
        case measure => simp [intOf]; omega
    · obtain rfl : j = m := by omega
      exfalso
      obtain ⟨i, hi⟩ := List.getElem?_of_mem HY.out.1
      exact HN.out i y (by have := (List.getElem?_eq_some_iff.1 hi).1; rw [HM.out] at this; exact this) hi HY.out.2
theorem close_any (c T : Nat) (A : List Ent) (D : List (Nat × Nat)) (O : Nat → Prop) (w : World) (h : TabA w T A D O) (x : Nat × Nat) (hx : x ∈ D) (hxc : x.1 = c) (hD : D.length ≤ 100000) :
    Calls Tryd.prog 79 #[.pointer (some ⟨c, 0, none⟩)] w (CloP c T A D O w) := by
  obtain ⟨cd, hb, hw⟩ := close_wp c T A D O w h x hx hxc hD
  exact calls_of_wp Tryd.func79 hb hw
/-- Close, deferred. -/
theorem close_d (n : Nat) (u : FrameMode) (c T : Nat) (A : List Ent) (D : List (Nat × Nat)) (O : Nat → Prop) (w : World) (h : TabA w T A D O) (x : Nat × Nat) (hx : x ∈ D) (hxc : x.1 = c) (hD : D.length ≤ 100000) :
    CallsDIn Fence.wide n Tryd.prog 79 #[.pointer (some ⟨c, 0, none⟩)] u w fun e u' w' => u' = u ∧ CloP c T A D O w e w' := by
  obtain ⟨cd, hb, hw⟩ := close_wp c T A D O w h x hx hxc hD
  exact callsDIn_of_wp Tryd.func79 hb trivial (wpIn_wide.2 hw)
end Go.Proofs.YtmimnaaofpkndaaDoor

/- Next: the plain part. -/
set_option linter.unusedVariables false
set_option linter.unusedSimpArgs false
namespace Go.Proofs.YtmimnaaofpkndaaDoor
open Go.RowKit Go.Sort
/-- A cursor one further on. -/
def bump (c m : Nat) (D : List (Nat × Nat)) : List (Nat × Nat) := D.map (fun x => if x.1 = c then (c, m) else x)
theorem set_bump {l : List (Nat × Nat)} {k c m : Nat} {x : Nat × Nat} (hn : (l.map Prod.fst).Nodup) (hk : l[k]? = some x) (hc : x.1 = c) : l.set k (c, m) = bump c m l := by
  apply List.ext_getElem?
  intro i
  rw [bump, List.getElem?_map, List.getElem?_set]
  by_cases h : k = i
  · subst h
    rw [if_pos rfl, if_pos (List.getElem?_eq_some_iff.1 hk).1, hk]
    simp [hc]
  · rw [if_neg h]
    cases hi : l[i]? with
    | none => rfl
    | some y =>
      have hy : y.1 ≠ c := by
        intro e
        have h1 : (l.map Prod.fst)[i]? = some c := by rw [List.getElem?_map, hi]; simp [e]
        have h2 : (l.map Prod.fst)[k]? = some c := by rw [List.getElem?_map, hk]; simp [hc]
        exact h (nodup_at hn h2 h1)
      simp [hy]
theorem cnt_succ {es : List Ent} {a : Nat} {x : Ent} (hx : es[a]? = some x) : cnt es (a + 1) = if x.grave then cnt es a else cnt es a + 1 := by
  unfold cnt
  rw [cp_snoc es a x hx]
  split <;> simp
theorem cp_at {es : List Ent} {a : Nat} {x : Ent} (hx : es[a]? = some x) (hg : x.grave = false) : (cp es)[cnt es a]? = some x := by
  obtain ⟨h1, h2⟩ := List.getElem?_eq_some_iff.1 hx
  have hl : es = es.take a ++ x :: es.drop (a + 1) := by rw [← h2, ← List.drop_eq_getElem_cons h1, List.take_append_drop]
  have e1 : cp es = cp (es.take a) ++ (x :: cp (es.drop (a + 1))) := by
    conv => lhs; rw [hl, cp_append]
    simp [cp, hg]
  rw [e1, cnt, List.getElem?_append_right (Nat.le_refl _), Nat.sub_self]; rfl
theorem cp_end {es : List Ent} : (cp es)[cnt es es.length]? = none := by
  rw [List.getElem?_eq_none]
  rw [cnt, List.take_length]; exact Nat.le_refl _
/-- The cursor's place with the entry passed that is there. -/
theorem bump_cur {es : List Ent} {cs : List (Nat × Nat)} {k c a : Nat} {y : Nat × Nat} {x : Ent} (hn : (cs.map Prod.fst).Nodup) (hk : cs[k]? = some y) (hc : y.1 = c) (hx : es[a]? = some x) (hg : x.grave = false) :
    (cs.set k (c, a + 1)).map (curF es) = bump c (cnt es a + 1) (cs.map (curF es)) := by
  rw [List.map_set, show curF es (c, a + 1) = (c, cnt es a + 1) by unfold curF; rw [cnt_succ hx, hg]; rfl]
  refine set_bump (x := curF es y) ?_ (by rw [List.getElem?_map, hk]; rfl) hc
  rw [List.map_map]; exact hn
/-- A grave passed is nothing passed. -/
theorem same_cur {es : List Ent} {cs : List (Nat × Nat)} {k c a : Nat} {y : Nat × Nat} (hk : cs[k]? = some y) (hc : y.1 = c) (ha : cnt es a = cnt es y.2) : (cs.set k (c, a)).map (curF es) = cs.map (curF es) := by
  have hl := (List.getElem?_eq_some_iff.1 hk)
  apply List.ext_getElem?
  intro i
  rw [List.getElem?_map, List.getElem?_map, List.getElem?_set]
  by_cases h : k = i
  · subst h
    rw [if_pos rfl, if_pos hl.1, hk]
    simp [curF, ha, hc]
  · rw [if_neg h]
/-- What Next comes to: n: how many entries the cursor has passed. -/
def NxtP (c T n : Nat) (A : List Ent) (D : List (Nat × Nat)) (O : Nat → Prop) (w : World) (e : Ending) (w' : World) : Prop :=
  (∃ x, A[n]? = some x ∧ e = .returned (.tuple #[VK x.key, VK x.val, .int .i64 x.flags, .bool true]) ∧ TabA w' T A (bump c (n + 1) D) (Og O w w') ∧ Upd w w' O) ∨
  (A[n]? = none ∧ e = .returned (.tuple #[VS 0 0 ⟨#[]⟩, VS 0 0 ⟨#[]⟩, .int .i64 0, .bool false]) ∧ (∃ D', TabA w' T A D' (fun x => Og O w w' x ∧ x ≠ c) ∧ (∀ x, x ∈ D' ↔ x ∈ D ∧ x.1 ≠ c) ∧ D'.length + 1 = D.length) ∧
    (∃ a : Int, Blk w' c 151 #[.pointer none, .int .i64 a]) ∧ Upd w w' O)
/-- What Next comes to, told sharper (no block more is the table's): n: how many entries the cursor has passed. -/
def NxtQ (c T n : Nat) (A : List Ent) (D : List (Nat × Nat)) (O : Nat → Prop) (w : World) (e : Ending) (w' : World) : Prop :=
  (∃ x, A[n]? = some x ∧ e = .returned (.tuple #[VK x.key, VK x.val, .int .i64 x.flags, .bool true]) ∧ TabA w' T A (bump c (n + 1) D) O ∧ Upd w w' O) ∨
  (A[n]? = none ∧ e = .returned (.tuple #[VS 0 0 ⟨#[]⟩, VS 0 0 ⟨#[]⟩, .int .i64 0, .bool false]) ∧ (∃ D', TabA w' T A D' (fun x => O x ∧ x ≠ c) ∧ (∀ x, x ∈ D' ↔ x ∈ D ∧ x.1 ≠ c) ∧ D'.length + 1 = D.length) ∧
    (∃ a : Int, Blk w' c 151 #[.pointer none, .int .i64 a]) ∧ Upd w w' O)
theorem NxtQ.weak {c T n : Nat} {A : List Ent} {D : List (Nat × Nat)} {O : Nat → Prop} {w w' : World} {e : Ending} (hO : ∀ k, O k → k < w.heap.size) (h : NxtQ c T n A D O w e w') : NxtP c T n A D O w e w' := by
  rcases h with ⟨x, h1, h2, h3, h4⟩ | ⟨h1, h2, ⟨D', h3, h5⟩, h6, h4⟩
  · exact .inl ⟨x, h1, h2, h3.widen (fun k hk => .inl hk) (fun k hk => hk.elim (fun h => Nat.lt_of_lt_of_le (hO k h) h4.size) And.right), h4⟩
  · exact .inr ⟨h1, h2, ⟨D', h3.widen (fun k hk => ⟨.inl hk.1, hk.2⟩) (fun k hk => hk.1.elim (fun h => Nat.lt_of_lt_of_le (hO k h) h4.size) And.right), h5⟩, h6, h4⟩
end Go.Proofs.YtmimnaaofpkndaaDoor

/- Contract of Next. -/
set_option linter.unusedVariables false
set_option linter.unusedSimpArgs false
namespace Go.Proofs.YtmimnaaofpkndaaDoor
open Go.RowKit Go.Sort
def atW (c : Nat) (w : World) : Nat := match w.cell? ⟨c, 1, none⟩ with | some (.int _ a) => a.toNat | _ => 0
/-- Next on its way. -/
structure NX (w : World) (T c k : Nat) (lv sv cv : Value) (es : List Ent) (sl : List Nat) (cs : List (Nat × Nat)) (O : Nat → Prop) (n a : Nat) (wr : World) : Prop where
  le : a ≤ es.length
  cn : cnt es a = n
  tab : TabV wr T lv sv cv es sl (cp es).length (cs.set k (c, a)) O
  upd : Upd w wr O
  kb : Blk wr w.heap.size 34 #[.int .i64 0, .int .i64 0, .string ⟨#[]⟩]
  vb : Blk wr (w.heap.size + 1) 34 #[.int .i64 0, .int .i64 0, .string ⟨#[]⟩]
theorem NX.drewN {w : World} {T c k : Nat} {lv sv cv : Value} {es : List Ent} {sl : List Nat} {cs : List (Nat × Nat)} {O : Nat → Prop} {n a : Nat} {wr : World} (h : NX w T c k lv sv cv es sl cs O n a wr) (q : Nat) : NX w T c k lv sv cv es sl cs O n a (wr.drewN q) :=
  ⟨h.le, h.cn, h.tab.upd (M := fun _ => False) ((Upd.refl _ _).drewN q) (fun _ _ h => h), h.upd.drewN q, h.kb.drewN q, h.vb.drewN q⟩
theorem NX.alloc {w : World} {T c k : Nat} {lv sv cv : Value} {es : List Ent} {sl : List Nat} {cs : List (Nat × Nat)} {O : Nat → Prop} {n a : Nat} {wr : World} (h : NX w T c k lv sv cv es sl cs O n a wr) (o : Obj) : NX w T c k lv sv cv es sl cs O n a (wr.alloc o) :=
  ⟨h.le, h.cn, h.tab.below ((Below.refl _ _).alloc (Nat.le_refl _) o), h.upd.alloc o, h.kb.alloc o, h.vb.alloc o⟩
/-- The cursor one further on. -/
theorem NX.step {w : World} {T c k : Nat} {lv sv cv : Value} {es : List Ent} {sl : List Nat} {cs : List (Nat × Nat)} {O : Nat → Prop} {n a : Nat} {wr : World} (h : NX w T c k lv sv cv es sl cs O n a wr) (hk : k < cs.length) (hO : ∀ k, O k → k < w.heap.size) (hc : O c) :
    TabV (wr.setCell ⟨c, 1, none⟩ (.int .i64 ((a + 1 : Nat) : Int))) T lv sv cv es sl (cp es).length (cs.set k (c, a + 1)) O ∧ Upd w (wr.setCell ⟨c, 1, none⟩ (.int .i64 ((a + 1 : Nat) : Int))) O ∧
    Blk (wr.setCell ⟨c, 1, none⟩ (.int .i64 ((a + 1 : Nat) : Int))) w.heap.size 34 #[.int .i64 0, .int .i64 0, .string ⟨#[]⟩] ∧ Blk (wr.setCell ⟨c, 1, none⟩ (.int .i64 ((a + 1 : Nat) : Int))) (w.heap.size + 1) 34 #[.int .i64 0, .int .i64 0, .string ⟨#[]⟩] := by
  have h1 := h.tab.setCur k (c, a) (by rw [List.getElem?_set, if_pos rfl, if_pos hk]) (a + 1)
  rw [List.set_set] at h1
  have hlt := hO c hc
  exact ⟨h1, h.upd.set c 1 _ hc, h.kb.far (by show w.heap.size ≠ c; omega) _, h.vb.far (by show w.heap.size + 1 ≠ c; omega) _⟩
theorem NX.cur {w : World} {T c k : Nat} {lv sv cv : Value} {es : List Ent} {sl : List Nat} {cs : List (Nat × Nat)} {O : Nat → Prop} {n a : Nat} {wr : World} (h : NX w T c k lv sv cv es sl cs O n a wr) (hk : k < cs.length) : Blk wr c 151 #[.pointer (some ⟨T, 0, none⟩), .int .i64 (a : Int)] :=
  h.tab.cur (c, a) (List.mem_of_getElem? (i := k) (by rw [List.getElem?_set, if_pos rfl, if_pos hk]))
theorem NX.tabA {w w0 : World} {T c k : Nat} {lv sv cv cv0 : Value} {es : List Ent} {sl : List Nat} {cs : List (Nat × Nat)} {O : Nat → Prop} {n a : Nat} {wr : World} {y : Nat × Nat} (h : NX w T c k lv sv cv es sl cs O n a wr) (hs : TabS w0 T lv sv cv0 es sl cs O) (hk : cs[k]? = some y) (hy : y.1 = c ∧ cnt es y.2 = n) :
    TabA wr T (cp es) (cs.map (curF es)) O := by
  refine ⟨lv, sv, cv, es, sl, _, ⟨h.tab, hs.core, hs.slotN, hs.load, hs.room, fun d hd => ?_, hs.keyS⟩, rfl, same_cur hk hy.1 (by rw [h.cn, hy.2])⟩
  rcases List.mem_or_eq_of_mem_set hd with hd | rfl
  · exact hs.at_ d hd
  · exact h.le
theorem next_none {w wd w5 w6 : World} {T c n : Nat} {A : List Ent} {D : List (Nat × Nat)} {O : Nat → Prop} {P : Nat} (hO : ∀ k, O k → k < w.heap.size) (hP : P = w.heap.size) (hu : Upd w wd O) (h5 : CloP c T A D O wd (.returned (.tuple #[])) w5) (hA : A[n]? = none) (h6 : Upd w5 w6 (fun k => k = P ∨ k = P + 1)) (hlt : O c) :
    NxtQ c T n A D O w (.returned (.tuple #[VS 0 0 ⟨#[]⟩, VS 0 0 ⟨#[]⟩, .int .i64 0, .bool false])) w6 := by
  obtain ⟨_, ⟨D', hT, hm, hl⟩, ⟨a, ha⟩, hu5⟩ := h5
  subst hP
  have hfar : ∀ k, O k → ¬ (k = w.heap.size ∨ k = w.heap.size + 1) := fun k hk h => by have := hO k hk; omega
  have hT6 := hT.upd h6 (fun k hk => hfar k hk.1)
  have hu6 : Upd w w6 O := (((hu.trans hu5).mono (M' := fun k => O k ∨ k = w.heap.size ∨ k = w.heap.size + 1) (fun k _ hk => .inl hk)).trans (h6.mono (fun k _ hk => .inr hk))).mono (fun k hk h => by
    rcases h with h | h
    · exact h
    · omega)
  exact .inr ⟨hA, rfl, ⟨D', hT6, hm, hl⟩, ⟨a, h6.blk ha (hfar c hlt)⟩, hu6⟩
theorem next_some {w W2 w6 : World} {T c k n a g capL : Nat} {sv cv : Value} {es : List Ent} {sl : List Nat} {cs : List (Nat × Nat)} {O : Nat → Prop} {x : Ent} {y : Nat × Nat} {lv cv0 : Value} {w0 : World} {P : Nat} (hs : TabS w T lv sv cv0 es sl cs O) (hk : cs[k]? = some y) (hy : y.1 = c ∧ cnt es y.2 = n) (hx : es[a]? = some x) (hg : x.grave = false)
    (hcn : cnt es a = n) (ht : TabV W2 T lv sv cv es sl (cp es).length (cs.set k (c, a + 1)) O) (hu : Upd w W2 O) (hP : P = w.heap.size) (h6 : Upd W2 w6 (fun k => k = P ∨ k = P + 1)) :
    NxtQ c T n (cp es) (cs.map (curF es)) O w (.returned (.tuple #[VK x.key, VK x.val, .int .i64 x.flags, .bool true])) w6 := by
  have hO := hs.tab.oLt
  subst hP
  subst hcn
  have hfar : ∀ k, O k → ¬ (k = w.heap.size ∨ k = w.heap.size + 1) := fun k hk h => by have := hO k hk; omega
  have hl := (List.getElem?_eq_some_iff.1 hx).1
  have hT : TabA W2 T (cp es) (bump c (cnt es a + 1) (cs.map (curF es))) O := by
    refine ⟨lv, sv, cv, es, sl, _, ⟨ht, hs.core, hs.slotN, hs.load, hs.room, fun d hd => ?_, hs.keyS⟩, rfl, bump_cur hs.tab.nodup hk hy.1 hx hg⟩
    rcases List.mem_or_eq_of_mem_set hd with hd | rfl
    · exact hs.at_ d hd
    · exact hl
  have hu6 : Upd w w6 O := ((hu.mono (M' := fun k => O k ∨ k = w.heap.size ∨ k = w.heap.size + 1) (fun k _ hk => .inl hk)).trans (h6.mono (fun k _ hk => .inr hk))).mono (fun k hk h => by
    rcases h with h | h
    · exact h
    · omega)
  exact .inl ⟨x, cp_at hx hg, rfl, hT.upd h6 hfar, hu6⟩
set_option maxHeartbeats 4000000 in
set_option maxRecDepth 100000 in
theorem next_anyQ (c T n : Nat) (A : List Ent) (D : List (Nat × Nat)) (O : Nat → Prop) (w : World) (h : TabA w T A D O) (hx : (c, n) ∈ D) (hA : A.length ≤ 5000) (hD : D.length ≤ 100000) :
    Calls Tryd.prog 80 #[.pointer (some ⟨c, 0, none⟩)] w (NxtQ c T n A D O w) := by
  obtain ⟨lv, sv, cv, es, sl, cs, hs, rfl, rfl⟩ := h
  obtain ⟨y, hy, hyc⟩ := List.mem_map.1 hx
  obtain ⟨k, hk⟩ := List.getElem?_of_mem hy
  have hy1 : y.1 = c := congrArg Prod.fst hyc
  have hy2 : cnt es y.2 = n := congrArg Prod.snd hyc
  have ht := hs.tab
  have hb1 : Below w.heap.size w ((w.alloc (SC 0 0 ⟨#[]⟩)).alloc (SC 0 0 ⟨#[]⟩)) := ((Below.refl _ _).alloc (Nat.le_refl _) _).alloc (by simp) _
  have ht1 := ht.below hb1
  have kb := (Blk.new w 34 #[.int .i64 0, .int .i64 0, .string ⟨#[]⟩]).alloc (SC 0 0 ⟨#[]⟩)
  have vb := Blk.new (w.alloc (SC 0 0 ⟨#[]⟩)) 34 #[.int .i64 0, .int .i64 0, .string ⟨#[]⟩]
  rw [World.size_alloc] at vb
  obtain ⟨AL, capL, rfl, hAL⟩ := own_shape ht.ents
  have hself : cs.set k (c, y.2) = cs := by
    have : (c, y.2) = y := by rw [← hy1]
    rw [this]
    apply List.ext_getElem?
    intro i
    rw [List.getElem?_set]
    by_cases h : k = i
    · subst h; rw [if_pos rfl, if_pos (List.getElem?_eq_some_iff.1 hk).1, hk]
    · rw [if_neg h]
  have hcb := ht1.cur y hy
  rw [hy1] at hcb
  go_enter Tryd.func80, Tryd.ntmps80
  go_upto_region 1 with fail
  have hnx : NX w T c k (.slice AL es.length capL) sv cv es sl cs O n y.2 ((w.alloc (SC 0 0 ⟨#[]⟩)).alloc (SC 0 0 ⟨#[]⟩)) := ⟨hs.at_ y hy, hy2, by rw [hself]; exact ht1, Upd.of_below_all hb1, kb, vb⟩
  generalize ((w.alloc (SC 0 0 ⟨#[]⟩)).alloc (SC 0 0 ⟨#[]⟩)) = w1 at *
  have c0 : w1.cell? ⟨c, 0, none⟩ = some (.pointer (some ⟨T, 0, none⟩)) := by rw [hcb.cell]; rfl
  have HK := Lib.hid hk
  have HS := Lib.hid hs
  have HAL := Lib.hid hAL
  have HY := Lib.hid (And.intro hy1 hy2)
  have hroom := hs.room
  obtain ⟨m, hm⟩ : ∃ m, es.length = m := ⟨_, rfl⟩
  have hmb : m ≤ 30000 := by omega
  have HM := Lib.hid hm
  clear ht ht1 hb1 kb vb hs hy hy1 hy2 hx hyc hk hself hcb hAL hm hroom
  go_wp2_with fail
  go_loopw [6] (fun _ wr => ∃ a : Nat, NX w T c k (.slice AL es.length capL) sv cv es sl cs O n a wr) (fun _ wr => es.length - atW c wr)
  case atStart => exact ⟨_, hnx⟩
  case round =>
    obtain ⟨a, hr⟩ := hrel
    have hkl := (List.getElem?_eq_some_iff.1 HK.out).1
    have hcb := hr.cur hkl
    have c0 : wr.cell? ⟨c, 0, none⟩ = some (.pointer (some ⟨T, 0, none⟩)) := by rw [hcb.cell]; rfl
    have c1 : wr.cell? ⟨c, 1, none⟩ = some (.int .i64 (a : Int)) := by rw [hcb.cell]; rfl
    have x0 : wr.cell? ⟨T, 0, none⟩ = some (.slice AL m capL) := by rw [hr.tab.blk.cell, ← HM.out]; rfl
    have hcl := hcb.lt
    have hTl := hr.tab.blk.lt
    have ham := hr.le
    rw [HM.out] at ham
    have HR := Lib.hid hr
    by_cases hlt : a < m
    · obtain ⟨g, rfl⟩ := HAL.out (by rw [HM.out]; omega)
      obtain ⟨x, hx⟩ : ∃ x, es[a]? = some x := ⟨_, List.getElem?_eq_getElem (by rw [HM.out]; exact hlt)⟩
      have t3 : decide ((a : Int) < (m : Int)) = true := by simp; omega
      have a0 : (0 : Int) ≤ (a : Int) := by omega
      have a1 : (a : Int) < (m : Int) := by omega
      have HX := Lib.hid hx
      have hAt : atW c wr = a := by unfold atW; rw [c1]; rfl
      have HAt := Lib.hid hAt
      clear hr hcb hnx hAt
      go_upto_region 3 with fail
      go_quiet (fail)
      go_upto_region 4 with fail
      have hr3 := HR.out.drewN nq
      clear c0 c1 x0 hcl hTl HR
      generalize wr.drewN nq = wd at *
      have hcb := hr3.cur hkl
      have c0 : wd.cell? ⟨c, 0, none⟩ = some (.pointer (some ⟨T, 0, none⟩)) := by rw [hcb.cell]; rfl
      have c1 : wd.cell? ⟨c, 1, none⟩ = some (.int .i64 (a : Int)) := by rw [hcb.cell]; rfl
      have x0 : wd.cell? ⟨T, 0, none⟩ = some (.slice (some ⟨g, 0, none⟩) m capL) := by rw [hr3.tab.blk.cell, ← HM.out]; rfl
      have hcl := hcb.lt
      have hTl := hr3.tab.blk.lt
      have e0 : wd.cell? ⟨g, a * 8, none⟩ = some (.int .i64 x.key.1) := hr3.tab.ent a x hx 0 (by decide)
      have e1 : wd.cell? ⟨g, a * 8 + 1, none⟩ = some (.int .i64 x.key.2.1) := hr3.tab.ent a x hx 1 (by decide)
      have e2 : wd.cell? ⟨g, a * 8 + 2, none⟩ = some (.string x.key.2.2) := hr3.tab.ent a x hx 2 (by decide)
      have e3 : wd.cell? ⟨g, a * 8 + 3, none⟩ = some (.int .i64 x.val.1) := hr3.tab.ent a x hx 3 (by decide)
      have e4 : wd.cell? ⟨g, a * 8 + 4, none⟩ = some (.int .i64 x.val.2.1) := hr3.tab.ent a x hx 4 (by decide)
      have e5 : wd.cell? ⟨g, a * 8 + 5, none⟩ = some (.string x.val.2.2) := hr3.tab.ent a x hx 5 (by decide)
      have e6 : wd.cell? ⟨g, a * 8 + 6, none⟩ = some (.int .i64 x.flags) := hr3.tab.ent a x hx 6 (by decide)
      have e7 : wd.cell? ⟨g, a * 8 + 7, none⟩ = some (.bool x.grave) := hr3.tab.ent a x hx 7 (by decide)
      have hgl : g < wd.heap.size := (hr3.tab.ents.lt g rfl).2
      have HR := Lib.hid hr3
      clear hr3 hcb hx
      go_cut [6] (fun s6 wx => s6 = .pointer (some ⟨wd.heap.size, 0, none⟩) ∧ ∃ q, wx = (wd.alloc (EO x)).drewN q)
      case first =>
        go_region
        all_goals
          go_wp2_with fail
          go_meet
          first | exact ⟨rfl, _, rfl⟩ | exact ⟨rfl, 0, rfl⟩ | exact ⟨rfl, 1, rfl⟩
      case rest =>
      obtain ⟨rfl, q, rfl⟩ := hcut
      have hr5 := (HR.out.alloc (EO x)).drewN q
      have hbx : Blk ((wd.alloc (EO x)).drewN q) wd.heap.size 121 (entC x).toArray := (Blk.new wd 121 (entC x).toArray).drewN q
      obtain ⟨b, hb⟩ : ∃ b, wd.heap.size = b := ⟨_, rfl⟩
      rw [hb] at hbx
      rw [hb]
      have hcne : c ≠ b := by omega
      clear c0 c1 x0 e0 e1 e2 e3 e4 e5 e6 e7 HR hcl hTl hgl
      generalize ((wd.alloc (EO x)).drewN q) = W at *
      have hcb := hr5.cur hkl
      have c1 : W.cell? ⟨c, 1, none⟩ = some (.int .i64 (a : Int)) := by rw [hcb.cell]; rfl
      have cf := hcb.frozen 1
      have aw : IntKind.i64.wrap ((a : Int) + 1) = (a : Int) + 1 := IntWalk.i64_in _ (by omega)
      have hOc : O c := by rw [← HY.out.1]; exact HS.out.tab.oc y (List.mem_of_getElem? HK.out)
      have hstep := hr5.step hkl HS.out.tab.oLt hOc
      have hbx2 : Blk (W.setCell ⟨c, 1, none⟩ (.int .i64 ((a + 1 : Nat) : Int))) b 121 (entC x).toArray := hbx.far hcne.symm _
      rw [show ((a + 1 : Nat) : Int) = (a : Int) + 1 from by omega] at hstep hbx2
      have HP := Lib.hid (And.intro hr5.cn hstep)
      have HB := Lib.hid hbx2
      clear hr5 hstep hbx hbx2 hcb
      go_upto_region 6 with fail
      have hw2 := HP.out.2.2.1.size
      generalize (W.setCell ⟨c, 1, none⟩ (.int .i64 ((a : Int) + 1))) = W2 at *
      have b7 : W2.cell? ⟨b, 7, none⟩ = some (.bool x.grave) := by rw [HB.out.cell]; rfl
      clear c1 cf
      rcases hgr : x.grave with _ | _
      · rw [hgr] at b7
        obtain ⟨P, hP⟩ : ∃ P, w.heap.size = P := ⟨_, rfl⟩
        obtain ⟨hcn, ht2, hu2, kb2, vb2⟩ := HP.out
        have hfin := fun w6 h6 => next_some (w6 := w6) (w0 := w) (g := g) (capL := capL) HS.out HK.out HY.out HX.out hgr hcn ht2 hu2 hP.symm h6
        rw [hP] at kb2 vb2
        have hbP : P ≠ b := kb2.ne_ HB.out (by decide)
        have hbQ : P + 1 ≠ b := vb2.ne_ HB.out (by decide)
        have hbP2 := hbP.symm
        have hbQ2 := hbQ.symm
        have b0 : W2.cell? ⟨b, 0, none⟩ = some (.int .i64 x.key.1) := by rw [HB.out.cell]; rfl
        have b1 : W2.cell? ⟨b, 1, none⟩ = some (.int .i64 x.key.2.1) := by rw [HB.out.cell]; rfl
        have b2 : W2.cell? ⟨b, 2, none⟩ = some (.string x.key.2.2) := by rw [HB.out.cell]; rfl
        have b3 : W2.cell? ⟨b, 3, none⟩ = some (.int .i64 x.val.1) := by rw [HB.out.cell]; rfl
        have b4 : W2.cell? ⟨b, 4, none⟩ = some (.int .i64 x.val.2.1) := by rw [HB.out.cell]; rfl
        have b5 : W2.cell? ⟨b, 5, none⟩ = some (.string x.val.2.2) := by rw [HB.out.cell]; rfl
        have b6 : W2.cell? ⟨b, 6, none⟩ = some (.int .i64 x.flags) := by rw [HB.out.cell]; rfl
        have r0 : W2.cell? ⟨P, 0, none⟩ = some (.int .i64 0) := by rw [kb2.cell]; rfl
        have r1 : W2.cell? ⟨P, 1, none⟩ = some (.int .i64 0) := by rw [kb2.cell]; rfl
        have r2 : W2.cell? ⟨P, 2, none⟩ = some (.string ⟨#[]⟩) := by rw [kb2.cell]; rfl
        have f0 := kb2.frozen 0
        have f1 := kb2.frozen 1
        have f2 := kb2.frozen 2
        have s0 : W2.cell? ⟨P + 1, 0, none⟩ = some (.int .i64 0) := by rw [vb2.cell]; rfl
        have s1 : W2.cell? ⟨P + 1, 1, none⟩ = some (.int .i64 0) := by rw [vb2.cell]; rfl
        have s2 : W2.cell? ⟨P + 1, 2, none⟩ = some (.string ⟨#[]⟩) := by rw [vb2.cell]; rfl
        have g0 := vb2.frozen 0
        have g1 := vb2.frozen 1
        have g2 := vb2.frozen 2
        have lc := kb2.lt
        have ld := vb2.lt
        have HF := Lib.hid hfin
        clear hfin hcn ht2 hu2 kb2 vb2 HP HB c0
        rw [hP]
        go_upto_region 7 with fail
        go_region
        all_goals
          go_wp2
          refine bodyPost_ret (v := .tuple #[VK x.key, VK x.val, .int .i64 x.flags, .bool true]) ?_ rfl (HF.out _ ?_)
          · first | (simp [results, Tryd.results80, go_sem, r0, r1, r2, f0, f1, f2, s0, s1, s2, g0, g1, g2, lc, ld]; done)
          · repeat (first | with_reducible exact Upd.refl _ _ | with_reducible refine Upd.drew ?_ | with_reducible refine Upd.set ?_ P _ _ (Or.inl rfl) | with_reducible refine Upd.set ?_ (P + 1) _ _ (Or.inr rfl))
      · rw [hgr] at b7
        have hnew : NX w T c k (.slice (some ⟨g, 0, none⟩) es.length capL) sv cv es sl cs O n (a + 1) W2 := by
          obtain ⟨h1, h2, h3, h4, h5⟩ := HP.out
          refine ⟨by rw [HM.out]; omega, ?_, h2, h3, h4, h5⟩
          rw [cnt_succ HX.out, hgr]; exact h1
        have hat2 : atW c W2 = a + 1 := by
          have hcb := hnew.cur hkl
          unfold atW; rw [hcb.cell]; show ((a + 1 : Nat) : Int).toNat = a + 1; omega
        have HNX := Lib.hid hnew
        have HA2 := Lib.hid hat2
        clear hnew hat2
        go_wp2_with fail
        go_roundw
        case rel => exact ⟨a + 1, HNX.out⟩
        case measure => rw [HA2.out, HAt.out, HM.out]; omega
    · obtain rfl : m = a := by omega
      have t3 : decide ((m : Int) < (m : Int)) = false := by simp
      clear hr hcb hnx
      go_upto_region 3 with fail
      go_quiet (fail)
      go_upto_region 8 with fail
      have hr3 := HR.out.drewN nq
      clear c0 c1 x0 hcl hTl HR
      generalize wr.drewN nq = wd at *
      have hTA := hr3.tabA HS.out HK.out HY.out
      have hxm : (c, n) ∈ cs.map (curF es) := List.mem_map.2 ⟨y, List.mem_of_getElem? HK.out, by unfold curF; rw [HY.out.1, HY.out.2]⟩
      have hOc : O c := by rw [← HY.out.1]; exact HS.out.tab.oc y (List.mem_of_getElem? HK.out)
      have hend : (cp es)[n]? = none := by
        have h1 := @cp_end es
        rw [HM.out, hr3.cn] at h1; exact h1
      go_wp2_with fail
      refine (close_any c T _ _ O wd hTA (c, n) hxm rfl hD).mono ?_
      intro e5 w5 h5
      obtain rfl := h5.1
      have kb5 := h5.2.2.2.blk hr3.kb (fun h => by have := HS.out.tab.oLt _ h; omega)
      have vb5 := h5.2.2.2.blk hr3.vb (fun h => by have := HS.out.tab.oLt _ h; omega)
      obtain ⟨P, hP⟩ : ∃ P, w.heap.size = P := ⟨_, rfl⟩
      have hfin := fun w6 h6 => next_none (w6 := w6) HS.out.tab.oLt hP.symm hr3.upd h5 hend h6 hOc
      rw [hP] at kb5 vb5
      have r0 : w5.cell? ⟨P, 0, none⟩ = some (.int .i64 0) := by rw [kb5.cell]; rfl
      have r1 : w5.cell? ⟨P, 1, none⟩ = some (.int .i64 0) := by rw [kb5.cell]; rfl
      have r2 : w5.cell? ⟨P, 2, none⟩ = some (.string ⟨#[]⟩) := by rw [kb5.cell]; rfl
      have f0 := kb5.frozen 0
      have f1 := kb5.frozen 1
      have f2 := kb5.frozen 2
      have s0 : w5.cell? ⟨P + 1, 0, none⟩ = some (.int .i64 0) := by rw [vb5.cell]; rfl
      have s1 : w5.cell? ⟨P + 1, 1, none⟩ = some (.int .i64 0) := by rw [vb5.cell]; rfl
      have s2 : w5.cell? ⟨P + 1, 2, none⟩ = some (.string ⟨#[]⟩) := by rw [vb5.cell]; rfl
      have g0 := vb5.frozen 0
      have g1 := vb5.frozen 1
      have g2 := vb5.frozen 2
      have lc := kb5.lt
      have ld := vb5.lt
      have HF := Lib.hid hfin
      clear hfin h5 hr3 hTA
      rw [hP]
      go_wp2
      refine bodyPost_ret (v := .tuple #[VS 0 0 ⟨#[]⟩, VS 0 0 ⟨#[]⟩, .int .i64 0, .bool false]) ?_ rfl (HF.out _ ?_)
      · first | (simp [results, Tryd.results80, go_sem, r0, r1, r2, f0, f1, f2, s0, s1, s2, g0, g1, g2, lc, ld]; done)
      · exact ((((((Upd.refl w5 _).set P 0 _ (.inl rfl)).set P 1 _ (.inl rfl)).set P 2 _ (.inl rfl)).set (P + 1) 0 _ (.inr rfl)).set (P + 1) 1 _ (.inr rfl)).set (P + 1) 2 _ (.inr rfl)
end Go.Proofs.YtmimnaaofpkndaaDoor
