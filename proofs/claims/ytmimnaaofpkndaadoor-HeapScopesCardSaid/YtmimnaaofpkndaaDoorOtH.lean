/- Contract of Close. -/
import Derived.Test.YtmimnaaofpkndaaDoorOtG
import Derived.WalkSmall
import Derived.LaidEqlPtr
import Derived.TacticsInMore
set_option linter.unusedVariables false
set_option linter.unusedSimpArgs false
namespace Go.Proofs.YtmimnaaofpkndaaDoor
open Go.RowKit Go.Sort

/-- A list whose place k is taken by its last. -/
def swp (l : List (Nat × Nat)) (k : Nat) : List (Nat × Nat) := (l.set k (l.getLastD (0, 0))).dropLast
theorem swp_len (l : List (Nat × Nat)) (k : Nat) : (swp l k).length = l.length - 1 := by simp [swp]
theorem swp_eq {P S : List (Nat × Nat)} {c : Nat × Nat} : swp (P ++ c :: S) P.length = if S = [] then P else P ++ S.getLastD (0, 0) :: S.dropLast := by
  unfold swp
  rw [List.set_append_right _ _ (Nat.le_refl _), Nat.sub_self, List.set_cons_zero]
  rcases List.eq_nil_or_concat S with rfl | ⟨S', z, rfl⟩
  · simp
  · simp [List.getLastD_eq_getLast?, List.dropLast_append_of_ne_nil, List.dropLast_cons_of_ne_nil]
    rw [show c :: (S' ++ [z]) = (c :: S') ++ [z] from rfl, List.getLast?_concat]; rfl
theorem swp_spec {l : List (Nat × Nat)} {k : Nat} {c : Nat × Nat} (hk : l[k]? = some c) (hn : (l.map Prod.fst).Nodup) :
    (∀ x, x ∈ swp l k ↔ x ∈ l ∧ x.1 ≠ c.1) ∧ ((swp l k).map Prod.fst).Nodup := by
  obtain ⟨h1, h2⟩ := List.getElem?_eq_some_iff.1 hk
  have hl : l = l.take k ++ c :: l.drop (k + 1) := by rw [← h2, ← List.drop_eq_getElem_cons h1, List.take_append_drop]
  have hP : (l.take k).length = k := by rw [List.length_take]; omega
  generalize l.take k = P at *
  generalize l.drop (k + 1) = S at *
  subst hl
  subst hP
  rw [swp_eq]
  rw [List.map_append, List.map_cons, List.nodup_append] at hn
  obtain ⟨n1, n2, n3⟩ := hn
  rw [List.nodup_cons] at n2
  have hPc : ∀ x ∈ P, x.1 ≠ c.1 := fun x hx => n3 x.1 (List.mem_map_of_mem hx) c.1 (List.mem_cons_self ..)
  have hSc : ∀ x ∈ S, x.1 ≠ c.1 := fun x hx e => n2.1 (e ▸ List.mem_map_of_mem hx)
  by_cases hS : S = []
  · subst hS
    rw [if_pos rfl]
    refine ⟨fun x => ⟨fun hx => ⟨List.mem_append_left _ hx, hPc x hx⟩, fun ⟨hx, hne⟩ => ?_⟩, n1⟩
    rcases List.mem_append.1 hx with hx | hx
    · exact hx
    · rw [List.mem_singleton] at hx; subst hx; exact absurd rfl hne
  · rw [if_neg hS]
    obtain ⟨S', z, rfl⟩ : ∃ S' z, S = S' ++ [z] := by
      rcases List.eq_nil_or_concat S with h | ⟨S', z, h⟩
      · exact absurd h hS
      · exact ⟨S', z, by simpa using h⟩
    have e1 : (S' ++ [z]).getLastD (0, 0) = z := by simp [List.getLastD_eq_getLast?]
    have e2 : (S' ++ [z]).dropLast = S' := by simp
    rw [e1, e2]
    refine ⟨fun x => ⟨fun hx => ?_, fun ⟨hx, hne⟩ => ?_⟩, ?_⟩
    · rcases List.mem_append.1 hx with hx | hx
      · exact ⟨List.mem_append_left _ hx, hPc x hx⟩
      · have hx2 : x ∈ S' ++ [z] := by
          rcases List.mem_cons.1 hx with hx | hx
          · subst hx; simp
          · exact List.mem_append_left _ hx
        exact ⟨List.mem_append_right _ (List.mem_cons_of_mem _ hx2), hSc x hx2⟩
    · rcases List.mem_append.1 hx with hx | hx
      · exact List.mem_append_left _ hx
      · rcases List.mem_cons.1 hx with hx | hx
        · subst hx; exact absurd rfl hne
        · apply List.mem_append_right
          rcases List.mem_append.1 hx with hx | hx
          · exact List.mem_cons_of_mem _ hx
          · rw [List.mem_singleton] at hx; subst hx; exact List.mem_cons_self ..
    · rw [List.map_append, List.map_cons, List.nodup_append]
      have n4 := n2.2
      rw [List.map_append, List.nodup_append] at n4
      refine ⟨n1, List.nodup_cons.2 ⟨fun h => n4.2.2 z.1 h z.1 (by simp) rfl, n4.1⟩, fun a ha b hb => n3 a ha b ?_⟩
      rcases List.mem_cons.1 hb with hb | hb
      · subst hb; simp
      · simp only [List.mem_cons, List.map_append, List.mem_append]; exact .inr (.inl hb)

theorem swp_row {l : List (Nat × Nat)} {k : Nat} (hk : k < l.length) : (l.set k (l.getLastD (0, 0))).map curC = (swp l k).map curC ++ [curC (l.getLastD (0, 0))] := by
  have hne : l.set k (l.getLastD (0, 0)) ≠ [] := by
    intro h
    have := congrArg List.length h
    simp at this
    subst this
    simp at hk
  have h1 := List.dropLast_concat_getLast hne
  have h2 : (l.set k (l.getLastD (0, 0))).getLast hne = l.getLastD (0, 0) := by
    rcases List.eq_nil_or_concat l with rfl | ⟨l', z, rfl⟩
    · simp at hk
    · rw [List.getLast_eq_getElem, List.getElem_set]
      simp [List.getLastD_eq_getLast?]
  rw [← h1, h2]
  simp [swp]

theorem close_tab {w : World} {T gC cap c k a : Nat} {lv sv : Value} {es : List Ent} {sl : List Nat} {live : Nat} {cs : List (Nat × Nat)} {O : Nat → Prop} (h : TabV w T lv sv (.slice (some ⟨gC, 0, none⟩) cs.length cap) es sl live cs O) (hk : cs[k]? = some (c, a)) :
    TabV (((w.setCell ⟨gC, k, none⟩ (curC (cs.getLastD (0, 0)))).setCell ⟨T, 3, none⟩ (.slice (some ⟨gC, 0, none⟩) (swp cs k).length cap)).setCell ⟨c, 0, none⟩ (.pointer none)) T lv sv (.slice (some ⟨gC, 0, none⟩) (swp cs k).length cap) es sl live (swp cs k) (fun x => O x ∧ x ≠ c) ∧
    Blk (((w.setCell ⟨gC, k, none⟩ (curC (cs.getLastD (0, 0)))).setCell ⟨T, 3, none⟩ (.slice (some ⟨gC, 0, none⟩) (swp cs k).length cap)).setCell ⟨c, 0, none⟩ (.pointer none)) c 151 #[.pointer none, .int .i64 (a : Int)] ∧
    Upd w (((w.setCell ⟨gC, k, none⟩ (curC (cs.getLastD (0, 0)))).setCell ⟨T, 3, none⟩ (.slice (some ⟨gC, 0, none⟩) (swp cs k).length cap)).setCell ⟨c, 0, none⟩ (.pointer none)) O := by
  have hm : (c, a) ∈ cs := List.mem_of_getElem? hk
  have hkl := (List.getElem?_eq_some_iff.1 hk).1
  obtain ⟨hsp, hnd⟩ := swp_spec hk h.nodup
  have hst := World.ownsRow.stored h.curs k (curC (cs.getLastD (0, 0)))
  have hcb := h.cur _ hm
  have nT : T ≠ gC := fun e => own_blk_ne h.curs h.blk (by decide) (by rw [e]; rfl)
  have nc : ∀ d ∈ cs, d.1 ≠ gC := fun d hd e => own_blk_ne h.curs (h.cur d hd) (by decide) (by rw [e]; rfl)
  have nTc : T ≠ c := h.blk.ne_ hcb (by decide)
  have hb1 : Blk (w.setCell ⟨gC, k, none⟩ (curC (cs.getLastD (0, 0)))) T 117 #[lv, sv, .int .i64 (live : Int), .slice (some ⟨gC, 0, none⟩) cs.length cap] := h.blk.far nT _
  have he1 := h.ents.kept hst.2 (.inr (own_own_ne h.ents h.curs (by decide) rfl))
  have hs1 := h.slots.kept hst.2 (.inr (own_own_ne h.slots h.curs (by decide) rfl))
  have hc1 := hst.1
  rw [← List.map_set, swp_row hkl] at hc1
  have hlen : (swp cs k).length + 1 = cs.length := by rw [swp_len]; omega
  rw [← hlen] at hc1
  have hc2 := ownsRow_pop (size := 1) (by simp) hc1
  have hT2 := tab_setCv (cs' := swp cs k) (O' := fun x => O x ∧ x ≠ c) hb1 he1 hs1 hc2 (fun d hd => (h.cur d ((hsp d).1 hd).1).far (nc d ((hsp d).1 hd).1) _) hnd ⟨h.oT, nTc⟩
    (fun g hg => ⟨h.oL g hg, fun e => own_blk_ne h.ents hcb (by decide) (by rw [hg, e])⟩) (fun g hg => ⟨h.oS g hg, fun e => own_blk_ne h.slots hcb (by decide) (by rw [hg, e])⟩)
    (fun g hg => ⟨h.oC g hg, fun e => own_blk_ne h.curs hcb (by decide) (by rw [← e]; exact hg)⟩) (fun d hd => ⟨h.oc d ((hsp d).1 hd).1, ((hsp d).1 hd).2⟩) (fun x hx => by have := h.oLt x hx.1; simpa using this)
  refine ⟨hT2.upd ((Upd.refl _ (fun x => x = c)).set c 0 _ rfl) (fun x hx e => hx.2 e), ?_, (((Upd.refl w O).set gC k _ (h.oC gC rfl)).set T 3 _ h.oT).set c 0 _ (h.oc _ hm)⟩
  exact ((hcb.far (nc _ hm) _).far nTc.symm _).set_ 0 _

theorem infoCu : (Tryd.prog.info? 151).map (fun i => i.size) = some 2 := by kernel_rfl
theorem cur_same (c : Nat) (w : World) : (binOp .eql 46 (.pointer (some ⟨c, 0, none⟩)) (.pointer (some ⟨c, 0, none⟩))).run Tryd.prog w = .ok (.bool true) w := by
  obtain ⟨i, hi, _⟩ := Option.map_eq_some_iff.1 infoCu
  exact run_eql_ptr_same w ⟨c, 0, none⟩ Tryd.underlying46 hi
theorem cur_other {a b : Nat} {w : World} {x y : Array Value} (h : a ≠ b) (ha : Blk w a 151 x) (hb : Blk w b 151 y) : (binOp .eql 46 (.pointer (some ⟨a, 0, none⟩)) (.pointer (some ⟨b, 0, none⟩))).run Tryd.prog w = .ok (.bool false) w := by
  obtain ⟨i, hi, hz⟩ := Option.map_eq_some_iff.1 infoCu
  exact run_eql_ptr_other w Tryd.underlying46 hi (by rw [hz]; decide) (fun e => h (congrArg Addr.block e)) ha hb

/-- What Close comes to. -/
def CloP (c T : Nat) (A : List Ent) (D : List (Nat × Nat)) (O : Nat → Prop) (w : World) (e : Ending) (w' : World) : Prop :=
  e = .returned (.tuple #[]) ∧ (∃ D', TabA w' T A D' (fun x => O x ∧ x ≠ c) ∧ (∀ x, x ∈ D' ↔ x ∈ D ∧ x.1 ≠ c) ∧ D'.length + 1 = D.length) ∧ (∃ a : Int, Blk w' c 151 #[.pointer none, .int .i64 a]) ∧ Upd w w' O

theorem close_fin {w W : World} {T gC cap c k a : Nat} {lv sv : Value} {es : List Ent} {sl : List Nat} {cs : List (Nat × Nat)} {O : Nat → Prop} (h : TabS w T lv sv (.slice (some ⟨gC, 0, none⟩) cs.length cap) es sl cs O) (hk : cs[k]? = some (c, a))
    (hW : W = (((w.setCell ⟨gC, k, none⟩ (curC (cs.getLastD (0, 0)))).setCell ⟨T, 3, none⟩ (.slice (some ⟨gC, 0, none⟩) (swp cs k).length cap)).setCell ⟨c, 0, none⟩ (.pointer none))) (q : Nat) :
    CloP c T (cp es) (cs.map (curF es)) O w (.returned (.tuple #[])) (W.drewN q) := by
  obtain ⟨h1, h2, h3⟩ := close_tab h.tab hk
  rw [← hW] at h1 h2 h3
  obtain ⟨hsp, hnd⟩ := swp_spec hk h.tab.nodup
  have hkl := (List.getElem?_eq_some_iff.1 hk).1
  refine ⟨rfl, ⟨(swp cs k).map (curF es), ⟨lv, sv, _, es, sl, swp cs k, ⟨h1.upd (M := fun _ => False) ((Upd.refl _ _).drewN q) (fun _ _ h => h), h.core, h.slotN, h.load, h.room, fun d hd => h.at_ d ((hsp d).1 hd).1, h.keyS⟩, rfl, rfl⟩, fun x => ⟨fun hx => ?_, fun ⟨hx, hne⟩ => ?_⟩, by rw [List.length_map, List.length_map, swp_len]; omega⟩, ⟨a, h2.drewN q⟩, h3.drewN q⟩
  · obtain ⟨d, hd, rfl⟩ := List.mem_map.1 hx
    exact ⟨List.mem_map_of_mem ((hsp d).1 hd).1, ((hsp d).1 hd).2⟩
  · obtain ⟨d, hd, rfl⟩ := List.mem_map.1 hx
    exact List.mem_map_of_mem ((hsp d).2 ⟨hd, hne⟩)

set_option maxHeartbeats 4000000 in
set_option maxRecDepth 100000 in
theorem close_wp (c T : Nat) (A : List Ent) (D : List (Nat × Nat)) (O : Nat → Prop) (w : World) (h : TabA w T A D O) (x : Nat × Nat) (hx : x ∈ D) (hxc : x.1 = c) (hD : D.length ≤ 100000) :
    ∃ cd, Tryd.f79.body = some cd ∧ cd.wp Tryd.prog (bodyPost Tryd.prog Tryd.f79 (CloP c T A D O w)) { tmps := #[.pointer (some ⟨c, 0, none⟩)] ++ Array.replicate (Tryd.f79.ntmps - #[Value.pointer (some ⟨c, 0, none⟩)].size) undef, defers := [] } w := by
  obtain ⟨lv, sv, cv, es, sl, cs, hs, rfl, rfl⟩ := h
  obtain ⟨y, hy, rfl⟩ := List.mem_map.1 hx
  have hyc : y.1 = c := hxc
  have ht := hs.tab
  have hcb := ht.cur y hy
  rw [hyc] at hcb
  obtain ⟨AC, capC, rfl, hAC⟩ := own_shape ht.curs
  obtain ⟨gC, rfl⟩ := hAC (List.length_pos_of_mem hy)
  rw [List.length_map] at hD
  obtain ⟨m, hm⟩ : ∃ m, cs.length = m := ⟨_, rfl⟩
  obtain ⟨p, hp⟩ : ∃ p, m = p + 1 := ⟨m - 1, by have := List.length_pos_of_mem hy; omega⟩
  have c0 : w.cell? ⟨c, 0, none⟩ = some (.pointer (some ⟨T, 0, none⟩)) := by rw [hcb.cell]; rfl
  have cf := hcb.frozen 0
  have x3 : w.cell? ⟨T, 3, none⟩ = some (.slice (some ⟨gC, 0, none⟩) m capC) := by rw [ht.blk.cell, ← hm]; rfl
  have xf := ht.blk.frozen 3
  have n1 : T ≠ gC := fun e => own_blk_ne ht.curs ht.blk (by decide) (by rw [e]; rfl)
  have n2 : c ≠ gC := fun e => own_blk_ne ht.curs hcb (by decide) (by rw [e]; rfl)
  have n3 : T ≠ c := ht.blk.ne_ hcb (by decide)
  have n4 := n1.symm
  have n5 := n2.symm
  have n6 := n3.symm
  have a1 : IntKind.i64.wrap ((m : Int) - 1) = (p : Int) := by rw [IntWalk.i64_in _ (by omega)]; omega
  have hcap : m ≤ capC := by
    obtain ⟨_, h2⟩ := ht.curs
    rcases h2 with ⟨h0, _⟩ | ⟨g', cap', cur, hv, _, _, hn, _⟩
    · cases h0
    · cases hv; rw [hm] at hn; exact hn
  have hpc : p ≤ capC := by omega
  have p0 : (0 : Int) ≤ (p : Int) := by omega
  have p1 : (p : Int) < (m : Int) := by omega
  have hlast : cs[p]? = some (cs.getLastD (0, 0)) := by
    rw [List.getLastD_eq_getLast?, List.getLast?_eq_getElem?, hm, hp, Nat.add_sub_cancel]
    rw [List.getElem?_eq_getElem (by omega)]; rfl
  obtain ⟨z, hz⟩ : ∃ z, cs.getLastD (0, 0) = z := ⟨_, rfl⟩
  rw [hz] at hlast
  have hmb : m ≤ 100000 := by omega
  have HZ := Lib.hid hz
  clear hz
  have kl : w.cell? ⟨gC, p, none⟩ = some (.pointer (some ⟨z.1, 0, none⟩)) := by
    rw [World.ownsRow.cellAt ht.curs p (by omega), List.getElem?_map, hlast]; rfl
  have HS := Lib.hid hs
  have HM := Lib.hid hm
  have HT := Lib.hid ht
  have HY := Lib.hid (And.intro hy hyc)
  have HP := Lib.hid hp
  have HCB := Lib.hid hcb
  clear hs ht hm hy hyc hcb hlast hAC hcap hx hxc hp hD
  refine ⟨_, rfl, ?_⟩
  simp only [Tryd.ntmps79, List.size_toArray, List.length_cons, List.length_nil, Nat.reduceAdd, Nat.reduceSub, Array.replicate_succ, Array.replicate_zero, List.push_toArray, List.append_toArray, List.nil_append, List.cons_append]
  go_wp2_with fail
  go_loopw [3, 4, 23] (fun _ _ i wr => ∃ j : Nat, j ≤ m ∧ i = .int .i64 j ∧ w = wr ∧ ∀ (i : Nat) (d : Nat × Nat), i < j → cs[i]? = some d → d.1 ≠ c) (fun _ _ i _ => m - (intOf i).toNat)
  case atStart => exact ⟨0, Nat.zero_le _, rfl, rfl, fun i d h => by omega⟩
  case round =>
    obtain ⟨j, hj, rfl, rfl, hno⟩ := hrel
    have HN := Lib.hid hno
    clear hno
    by_cases hjm : j < m
    · obtain ⟨cu, hcu⟩ : ∃ d, cs[j]? = some d := ⟨_, List.getElem?_eq_getElem (by rw [HM.out]; exact hjm)⟩
      have k1 : w.cell? ⟨gC, j, none⟩ = some (.pointer (some ⟨cu.1, 0, none⟩)) := by
        rw [World.ownsRow.cellAt HT.out.curs j (by rw [HM.out]; omega), List.getElem?_map, hcu]; rfl
      have kf := World.ownsRow.frozenAt HT.out.curs j
      have j1 : (j : Int) < (m : Int) := by omega
      have j0 : (0 : Int) ≤ (j : Int) := by omega
      have t1 : decide ((j : Int) < (m : Int)) = true := by simp; omega
      have HCU := Lib.hid hcu
      clear hcu
      by_cases hcc : cu.1 = c
      · have hfin := close_fin (k := j) (c := c) (a := cu.2) HS.out (by rw [HCU.out, ← hcc]) rfl
        rw [HZ.out, swp_len, HM.out, HP.out, Nat.add_sub_cancel] at hfin
        have HF := Lib.hid hfin
        clear hfin
        rw [hcc] at k1
        have hq := cur_same c w
        go_wp2_with fail
        go_region
        all_goals
          go_wp2
          go_end0
          first | exact HF.out 0 | exact HF.out 1 | exact HF.out _
      · have hne : ∀ (i : Nat) (d : Nat × Nat), i < j + 1 → cs[i]? = some d → d.1 ≠ c := fun i d hi hd => by
          rcases Nat.lt_or_ge i j with h | h
          · exact HN.out i d h hd
          · obtain rfl : i = j := by omega
            rw [HCU.out] at hd
            exact Option.some.inj hd ▸ hcc
        have HNE := Lib.hid hne
        clear hne
        have hq := cur_other hcc (HT.out.cur cu (List.mem_of_getElem? HCU.out)) HCB.out
        go_wp2_with fail
        go_roundw
        case rel => exact ⟨j + 1, by omega, by go_num, trivial, HNE.out⟩
        case measure => simp [intOf]; omega
    · obtain rfl : j = m := by omega
      exfalso
      obtain ⟨i, hi⟩ := List.getElem?_of_mem HY.out.1
      exact HN.out i y (by have := (List.getElem?_eq_some_iff.1 hi).1; rw [HM.out] at this; exact this) hi HY.out.2
theorem close_any (c T : Nat) (A : List Ent) (D : List (Nat × Nat)) (O : Nat → Prop) (w : World) (h : TabA w T A D O) (x : Nat × Nat) (hx : x ∈ D) (hxc : x.1 = c) (hD : D.length ≤ 100000) :
    Calls Tryd.prog 79 #[.pointer (some ⟨c, 0, none⟩)] w (CloP c T A D O w) := by
  obtain ⟨cd, hb, hw⟩ := close_wp c T A D O w h x hx hxc hD
  exact calls_of_wp Tryd.func79 hb hw
/-- Close, deferred. -/
theorem close_d (n : Nat) (u : FrameMode) (c T : Nat) (A : List Ent) (D : List (Nat × Nat)) (O : Nat → Prop) (w : World) (h : TabA w T A D O) (x : Nat × Nat) (hx : x ∈ D) (hxc : x.1 = c) (hD : D.length ≤ 100000) :
    CallsDIn Fence.wide n Tryd.prog 79 #[.pointer (some ⟨c, 0, none⟩)] u w fun e u' w' => u' = u ∧ CloP c T A D O w e w' := by
  obtain ⟨cd, hb, hw⟩ := close_wp c T A D O w h x hx hxc hD
  exact callsDIn_of_wp Tryd.func79 hb trivial (wpIn_wide.2 hw)
end Go.Proofs.YtmimnaaofpkndaaDoor
