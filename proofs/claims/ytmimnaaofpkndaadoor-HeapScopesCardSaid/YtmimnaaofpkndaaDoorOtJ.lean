/- Contract of Next. -/
import Derived.Test.YtmimnaaofpkndaaDoorOtI
import Derived.Deep.DeepCutAuto
set_option linter.unusedVariables false
set_option linter.unusedSimpArgs false
namespace Go.Proofs.YtmimnaaofpkndaaDoor
open Go.RowKit Go.Sort

def atW (c : Nat) (w : World) : Nat := match w.cell? ⟨c, 1, none⟩ with | some (.int _ a) => a.toNat | _ => 0
/-- Next on its way. -/
structure NX (w : World) (T c k : Nat) (lv sv cv : Value) (es : List Ent) (sl : List Nat) (cs : List (Nat × Nat)) (O : Nat → Prop) (n a : Nat) (wr : World) : Prop where
  le : a ≤ es.length
  cn : cnt es a = n
  tab : TabV wr T lv sv cv es sl (cp es).length (cs.set k (c, a)) O
  upd : Upd w wr O
  kb : Blk wr w.heap.size 34 #[.int .i64 0, .int .i64 0, .string ⟨#[]⟩]
  vb : Blk wr (w.heap.size + 1) 34 #[.int .i64 0, .int .i64 0, .string ⟨#[]⟩]

theorem NX.drewN {w : World} {T c k : Nat} {lv sv cv : Value} {es : List Ent} {sl : List Nat} {cs : List (Nat × Nat)} {O : Nat → Prop} {n a : Nat} {wr : World} (h : NX w T c k lv sv cv es sl cs O n a wr) (q : Nat) : NX w T c k lv sv cv es sl cs O n a (wr.drewN q) :=
  ⟨h.le, h.cn, h.tab.upd (M := fun _ => False) ((Upd.refl _ _).drewN q) (fun _ _ h => h), h.upd.drewN q, h.kb.drewN q, h.vb.drewN q⟩
theorem NX.alloc {w : World} {T c k : Nat} {lv sv cv : Value} {es : List Ent} {sl : List Nat} {cs : List (Nat × Nat)} {O : Nat → Prop} {n a : Nat} {wr : World} (h : NX w T c k lv sv cv es sl cs O n a wr) (o : Obj) : NX w T c k lv sv cv es sl cs O n a (wr.alloc o) :=
  ⟨h.le, h.cn, h.tab.below ((Below.refl _ _).alloc (Nat.le_refl _) o), h.upd.alloc o, h.kb.alloc o, h.vb.alloc o⟩
/-- The cursor one further on. -/
theorem NX.step {w : World} {T c k : Nat} {lv sv cv : Value} {es : List Ent} {sl : List Nat} {cs : List (Nat × Nat)} {O : Nat → Prop} {n a : Nat} {wr : World} (h : NX w T c k lv sv cv es sl cs O n a wr) (hk : k < cs.length) (hO : ∀ k, O k → k < w.heap.size) (hc : O c) :
    TabV (wr.setCell ⟨c, 1, none⟩ (.int .i64 ((a + 1 : Nat) : Int))) T lv sv cv es sl (cp es).length (cs.set k (c, a + 1)) O ∧ Upd w (wr.setCell ⟨c, 1, none⟩ (.int .i64 ((a + 1 : Nat) : Int))) O ∧
    Blk (wr.setCell ⟨c, 1, none⟩ (.int .i64 ((a + 1 : Nat) : Int))) w.heap.size 34 #[.int .i64 0, .int .i64 0, .string ⟨#[]⟩] ∧ Blk (wr.setCell ⟨c, 1, none⟩ (.int .i64 ((a + 1 : Nat) : Int))) (w.heap.size + 1) 34 #[.int .i64 0, .int .i64 0, .string ⟨#[]⟩] := by
  have h1 := h.tab.setCur k (c, a) (by rw [List.getElem?_set, if_pos rfl, if_pos hk]) (a + 1)
  rw [List.set_set] at h1
  have hlt := hO c hc
  exact ⟨h1, h.upd.set c 1 _ hc, h.kb.far (by show w.heap.size ≠ c; omega) _, h.vb.far (by show w.heap.size + 1 ≠ c; omega) _⟩
theorem NX.cur {w : World} {T c k : Nat} {lv sv cv : Value} {es : List Ent} {sl : List Nat} {cs : List (Nat × Nat)} {O : Nat → Prop} {n a : Nat} {wr : World} (h : NX w T c k lv sv cv es sl cs O n a wr) (hk : k < cs.length) : Blk wr c 151 #[.pointer (some ⟨T, 0, none⟩), .int .i64 (a : Int)] :=
  h.tab.cur (c, a) (List.mem_of_getElem? (i := k) (by rw [List.getElem?_set, if_pos rfl, if_pos hk]))

theorem NX.tabA {w w0 : World} {T c k : Nat} {lv sv cv cv0 : Value} {es : List Ent} {sl : List Nat} {cs : List (Nat × Nat)} {O : Nat → Prop} {n a : Nat} {wr : World} {y : Nat × Nat} (h : NX w T c k lv sv cv es sl cs O n a wr) (hs : TabS w0 T lv sv cv0 es sl cs O) (hk : cs[k]? = some y) (hy : y.1 = c ∧ cnt es y.2 = n) :
    TabA wr T (cp es) (cs.map (curF es)) O := by
  refine ⟨lv, sv, cv, es, sl, _, ⟨h.tab, hs.core, hs.slotN, hs.load, hs.room, fun d hd => ?_, hs.keyS⟩, rfl, same_cur hk hy.1 (by rw [h.cn, hy.2])⟩
  rcases List.mem_or_eq_of_mem_set hd with hd | rfl
  · exact hs.at_ d hd
  · exact h.le
theorem next_none {w wd w5 w6 : World} {T c n : Nat} {A : List Ent} {D : List (Nat × Nat)} {O : Nat → Prop} {P : Nat} (hO : ∀ k, O k → k < w.heap.size) (hP : P = w.heap.size) (hu : Upd w wd O) (h5 : CloP c T A D O wd (.returned (.tuple #[])) w5) (hA : A[n]? = none) (h6 : Upd w5 w6 (fun k => k = P ∨ k = P + 1)) (hlt : O c) :
    NxtQ c T n A D O w (.returned (.tuple #[VS 0 0 ⟨#[]⟩, VS 0 0 ⟨#[]⟩, .int .i64 0, .bool false])) w6 := by
  obtain ⟨_, ⟨D', hT, hm, hl⟩, ⟨a, ha⟩, hu5⟩ := h5
  subst hP
  have hfar : ∀ k, O k → ¬ (k = w.heap.size ∨ k = w.heap.size + 1) := fun k hk h => by have := hO k hk; omega
  have hT6 := hT.upd h6 (fun k hk => hfar k hk.1)
  have hu6 : Upd w w6 O := (((hu.trans hu5).mono (M' := fun k => O k ∨ k = w.heap.size ∨ k = w.heap.size + 1) (fun k _ hk => .inl hk)).trans (h6.mono (fun k _ hk => .inr hk))).mono (fun k hk h => by
    rcases h with h | h
    · exact h
    · omega)
  exact .inr ⟨hA, rfl, ⟨D', hT6, hm, hl⟩, ⟨a, h6.blk ha (hfar c hlt)⟩, hu6⟩

theorem next_some {w W2 w6 : World} {T c k n a g capL : Nat} {sv cv : Value} {es : List Ent} {sl : List Nat} {cs : List (Nat × Nat)} {O : Nat → Prop} {x : Ent} {y : Nat × Nat} {lv cv0 : Value} {w0 : World} {P : Nat} (hs : TabS w T lv sv cv0 es sl cs O) (hk : cs[k]? = some y) (hy : y.1 = c ∧ cnt es y.2 = n) (hx : es[a]? = some x) (hg : x.grave = false)
    (hcn : cnt es a = n) (ht : TabV W2 T lv sv cv es sl (cp es).length (cs.set k (c, a + 1)) O) (hu : Upd w W2 O) (hP : P = w.heap.size) (h6 : Upd W2 w6 (fun k => k = P ∨ k = P + 1)) :
    NxtQ c T n (cp es) (cs.map (curF es)) O w (.returned (.tuple #[VK x.key, VK x.val, .int .i64 x.flags, .bool true])) w6 := by
  have hO := hs.tab.oLt
  subst hP
  subst hcn
  have hfar : ∀ k, O k → ¬ (k = w.heap.size ∨ k = w.heap.size + 1) := fun k hk h => by have := hO k hk; omega
  have hl := (List.getElem?_eq_some_iff.1 hx).1
  have hT : TabA W2 T (cp es) (bump c (cnt es a + 1) (cs.map (curF es))) O := by
    refine ⟨lv, sv, cv, es, sl, _, ⟨ht, hs.core, hs.slotN, hs.load, hs.room, fun d hd => ?_, hs.keyS⟩, rfl, bump_cur hs.tab.nodup hk hy.1 hx hg⟩
    rcases List.mem_or_eq_of_mem_set hd with hd | rfl
    · exact hs.at_ d hd
    · exact hl
  have hu6 : Upd w w6 O := ((hu.mono (M' := fun k => O k ∨ k = w.heap.size ∨ k = w.heap.size + 1) (fun k _ hk => .inl hk)).trans (h6.mono (fun k _ hk => .inr hk))).mono (fun k hk h => by
    rcases h with h | h
    · exact h
    · omega)
  exact .inl ⟨x, cp_at hx hg, rfl, hT.upd h6 hfar, hu6⟩

set_option maxHeartbeats 4000000 in
set_option maxRecDepth 100000 in
theorem next_anyQ (c T n : Nat) (A : List Ent) (D : List (Nat × Nat)) (O : Nat → Prop) (w : World) (h : TabA w T A D O) (hx : (c, n) ∈ D) (hA : A.length ≤ 5000) (hD : D.length ≤ 100000) :
    Calls Tryd.prog 80 #[.pointer (some ⟨c, 0, none⟩)] w (NxtQ c T n A D O w) := by
  obtain ⟨lv, sv, cv, es, sl, cs, hs, rfl, rfl⟩ := h
  obtain ⟨y, hy, hyc⟩ := List.mem_map.1 hx
  obtain ⟨k, hk⟩ := List.getElem?_of_mem hy
  have hy1 : y.1 = c := congrArg Prod.fst hyc
  have hy2 : cnt es y.2 = n := congrArg Prod.snd hyc
  have ht := hs.tab
  have hb1 : Below w.heap.size w ((w.alloc (SC 0 0 ⟨#[]⟩)).alloc (SC 0 0 ⟨#[]⟩)) := ((Below.refl _ _).alloc (Nat.le_refl _) _).alloc (by simp) _
  have ht1 := ht.below hb1
  have kb := (Blk.new w 34 #[.int .i64 0, .int .i64 0, .string ⟨#[]⟩]).alloc (SC 0 0 ⟨#[]⟩)
  have vb := Blk.new (w.alloc (SC 0 0 ⟨#[]⟩)) 34 #[.int .i64 0, .int .i64 0, .string ⟨#[]⟩]
  rw [World.size_alloc] at vb
  obtain ⟨AL, capL, rfl, hAL⟩ := own_shape ht.ents
  have hself : cs.set k (c, y.2) = cs := by
    have : (c, y.2) = y := by rw [← hy1]
    rw [this]
    apply List.ext_getElem?
    intro i
    rw [List.getElem?_set]
    by_cases h : k = i
    · subst h; rw [if_pos rfl, if_pos (List.getElem?_eq_some_iff.1 hk).1, hk]
    · rw [if_neg h]
  have hcb := ht1.cur y hy
  rw [hy1] at hcb
  go_enter Tryd.func80, Tryd.ntmps80
  go_upto_region 1 with fail
  have hnx : NX w T c k (.slice AL es.length capL) sv cv es sl cs O n y.2 ((w.alloc (SC 0 0 ⟨#[]⟩)).alloc (SC 0 0 ⟨#[]⟩)) := ⟨hs.at_ y hy, hy2, by rw [hself]; exact ht1, Upd.of_below_all hb1, kb, vb⟩
  generalize ((w.alloc (SC 0 0 ⟨#[]⟩)).alloc (SC 0 0 ⟨#[]⟩)) = w1 at *
  have c0 : w1.cell? ⟨c, 0, none⟩ = some (.pointer (some ⟨T, 0, none⟩)) := by rw [hcb.cell]; rfl
  have HK := Lib.hid hk
  have HS := Lib.hid hs
  have HAL := Lib.hid hAL
  have HY := Lib.hid (And.intro hy1 hy2)
  have hroom := hs.room
  obtain ⟨m, hm⟩ : ∃ m, es.length = m := ⟨_, rfl⟩
  have hmb : m ≤ 30000 := by omega
  have HM := Lib.hid hm
  clear ht ht1 hb1 kb vb hs hy hy1 hy2 hx hyc hk hself hcb hAL hm hroom
  go_wp2_with fail
  go_loopw [6] (fun _ wr => ∃ a : Nat, NX w T c k (.slice AL es.length capL) sv cv es sl cs O n a wr) (fun _ wr => es.length - atW c wr)
  case atStart => exact ⟨_, hnx⟩
  case round =>
    obtain ⟨a, hr⟩ := hrel
    have hkl := (List.getElem?_eq_some_iff.1 HK.out).1
    have hcb := hr.cur hkl
    have c0 : wr.cell? ⟨c, 0, none⟩ = some (.pointer (some ⟨T, 0, none⟩)) := by rw [hcb.cell]; rfl
    have c1 : wr.cell? ⟨c, 1, none⟩ = some (.int .i64 (a : Int)) := by rw [hcb.cell]; rfl
    have x0 : wr.cell? ⟨T, 0, none⟩ = some (.slice AL m capL) := by rw [hr.tab.blk.cell, ← HM.out]; rfl
    have hcl := hcb.lt
    have hTl := hr.tab.blk.lt
    have ham := hr.le
    rw [HM.out] at ham
    have HR := Lib.hid hr
    by_cases hlt : a < m
    · obtain ⟨g, rfl⟩ := HAL.out (by rw [HM.out]; omega)
      obtain ⟨x, hx⟩ : ∃ x, es[a]? = some x := ⟨_, List.getElem?_eq_getElem (by rw [HM.out]; exact hlt)⟩
      have t3 : decide ((a : Int) < (m : Int)) = true := by simp; omega
      have a0 : (0 : Int) ≤ (a : Int) := by omega
      have a1 : (a : Int) < (m : Int) := by omega
      have HX := Lib.hid hx
      have hAt : atW c wr = a := by unfold atW; rw [c1]; rfl
      have HAt := Lib.hid hAt
      clear hr hcb hnx hAt
      go_upto_region 3 with fail
      go_quiet (fail)
      go_upto_region 4 with fail
      have hr3 := HR.out.drewN nq
      clear c0 c1 x0 hcl hTl HR
      generalize wr.drewN nq = wd at *
      have hcb := hr3.cur hkl
      have c0 : wd.cell? ⟨c, 0, none⟩ = some (.pointer (some ⟨T, 0, none⟩)) := by rw [hcb.cell]; rfl
      have c1 : wd.cell? ⟨c, 1, none⟩ = some (.int .i64 (a : Int)) := by rw [hcb.cell]; rfl
      have x0 : wd.cell? ⟨T, 0, none⟩ = some (.slice (some ⟨g, 0, none⟩) m capL) := by rw [hr3.tab.blk.cell, ← HM.out]; rfl
      have hcl := hcb.lt
      have hTl := hr3.tab.blk.lt
      have e0 : wd.cell? ⟨g, a * 8, none⟩ = some (.int .i64 x.key.1) := hr3.tab.ent a x hx 0 (by decide)
      have e1 : wd.cell? ⟨g, a * 8 + 1, none⟩ = some (.int .i64 x.key.2.1) := hr3.tab.ent a x hx 1 (by decide)
      have e2 : wd.cell? ⟨g, a * 8 + 2, none⟩ = some (.string x.key.2.2) := hr3.tab.ent a x hx 2 (by decide)
      have e3 : wd.cell? ⟨g, a * 8 + 3, none⟩ = some (.int .i64 x.val.1) := hr3.tab.ent a x hx 3 (by decide)
      have e4 : wd.cell? ⟨g, a * 8 + 4, none⟩ = some (.int .i64 x.val.2.1) := hr3.tab.ent a x hx 4 (by decide)
      have e5 : wd.cell? ⟨g, a * 8 + 5, none⟩ = some (.string x.val.2.2) := hr3.tab.ent a x hx 5 (by decide)
      have e6 : wd.cell? ⟨g, a * 8 + 6, none⟩ = some (.int .i64 x.flags) := hr3.tab.ent a x hx 6 (by decide)
      have e7 : wd.cell? ⟨g, a * 8 + 7, none⟩ = some (.bool x.grave) := hr3.tab.ent a x hx 7 (by decide)
      have hgl : g < wd.heap.size := (hr3.tab.ents.lt g rfl).2
      have HR := Lib.hid hr3
      clear hr3 hcb hx
      go_cut [6] (fun s6 wx => s6 = .pointer (some ⟨wd.heap.size, 0, none⟩) ∧ ∃ q, wx = (wd.alloc (EO x)).drewN q)
      case first =>
        go_region
        all_goals
          go_wp2_with fail
          go_meet
          first | exact ⟨rfl, _, rfl⟩ | exact ⟨rfl, 0, rfl⟩ | exact ⟨rfl, 1, rfl⟩
      case rest =>
      obtain ⟨rfl, q, rfl⟩ := hcut
      have hr5 := (HR.out.alloc (EO x)).drewN q
      have hbx : Blk ((wd.alloc (EO x)).drewN q) wd.heap.size 121 (entC x).toArray := (Blk.new wd 121 (entC x).toArray).drewN q
      obtain ⟨b, hb⟩ : ∃ b, wd.heap.size = b := ⟨_, rfl⟩
      rw [hb] at hbx
      rw [hb]
      have hcne : c ≠ b := by omega
      clear c0 c1 x0 e0 e1 e2 e3 e4 e5 e6 e7 HR hcl hTl hgl
      generalize ((wd.alloc (EO x)).drewN q) = W at *
      have hcb := hr5.cur hkl
      have c1 : W.cell? ⟨c, 1, none⟩ = some (.int .i64 (a : Int)) := by rw [hcb.cell]; rfl
      have cf := hcb.frozen 1
      have aw : IntKind.i64.wrap ((a : Int) + 1) = (a : Int) + 1 := IntWalk.i64_in _ (by omega)
      have hOc : O c := by rw [← HY.out.1]; exact HS.out.tab.oc y (List.mem_of_getElem? HK.out)
      have hstep := hr5.step hkl HS.out.tab.oLt hOc
      have hbx2 : Blk (W.setCell ⟨c, 1, none⟩ (.int .i64 ((a + 1 : Nat) : Int))) b 121 (entC x).toArray := hbx.far hcne.symm _
      rw [show ((a + 1 : Nat) : Int) = (a : Int) + 1 from by omega] at hstep hbx2
      have HP := Lib.hid (And.intro hr5.cn hstep)
      have HB := Lib.hid hbx2
      clear hr5 hstep hbx hbx2 hcb
      go_upto_region 6 with fail
      have hw2 := HP.out.2.2.1.size
      generalize (W.setCell ⟨c, 1, none⟩ (.int .i64 ((a : Int) + 1))) = W2 at *
      have b7 : W2.cell? ⟨b, 7, none⟩ = some (.bool x.grave) := by rw [HB.out.cell]; rfl
      clear c1 cf
      rcases hgr : x.grave with _ | _
      · rw [hgr] at b7
        obtain ⟨P, hP⟩ : ∃ P, w.heap.size = P := ⟨_, rfl⟩
        obtain ⟨hcn, ht2, hu2, kb2, vb2⟩ := HP.out
        have hfin := fun w6 h6 => next_some (w6 := w6) (w0 := w) (g := g) (capL := capL) HS.out HK.out HY.out HX.out hgr hcn ht2 hu2 hP.symm h6
        rw [hP] at kb2 vb2
        have hbP : P ≠ b := kb2.ne_ HB.out (by decide)
        have hbQ : P + 1 ≠ b := vb2.ne_ HB.out (by decide)
        have hbP2 := hbP.symm
        have hbQ2 := hbQ.symm
        have b0 : W2.cell? ⟨b, 0, none⟩ = some (.int .i64 x.key.1) := by rw [HB.out.cell]; rfl
        have b1 : W2.cell? ⟨b, 1, none⟩ = some (.int .i64 x.key.2.1) := by rw [HB.out.cell]; rfl
        have b2 : W2.cell? ⟨b, 2, none⟩ = some (.string x.key.2.2) := by rw [HB.out.cell]; rfl
        have b3 : W2.cell? ⟨b, 3, none⟩ = some (.int .i64 x.val.1) := by rw [HB.out.cell]; rfl
        have b4 : W2.cell? ⟨b, 4, none⟩ = some (.int .i64 x.val.2.1) := by rw [HB.out.cell]; rfl
        have b5 : W2.cell? ⟨b, 5, none⟩ = some (.string x.val.2.2) := by rw [HB.out.cell]; rfl
        have b6 : W2.cell? ⟨b, 6, none⟩ = some (.int .i64 x.flags) := by rw [HB.out.cell]; rfl
        have r0 : W2.cell? ⟨P, 0, none⟩ = some (.int .i64 0) := by rw [kb2.cell]; rfl
        have r1 : W2.cell? ⟨P, 1, none⟩ = some (.int .i64 0) := by rw [kb2.cell]; rfl
        have r2 : W2.cell? ⟨P, 2, none⟩ = some (.string ⟨#[]⟩) := by rw [kb2.cell]; rfl
        have f0 := kb2.frozen 0
        have f1 := kb2.frozen 1
        have f2 := kb2.frozen 2
        have s0 : W2.cell? ⟨P + 1, 0, none⟩ = some (.int .i64 0) := by rw [vb2.cell]; rfl
        have s1 : W2.cell? ⟨P + 1, 1, none⟩ = some (.int .i64 0) := by rw [vb2.cell]; rfl
        have s2 : W2.cell? ⟨P + 1, 2, none⟩ = some (.string ⟨#[]⟩) := by rw [vb2.cell]; rfl
        have g0 := vb2.frozen 0
        have g1 := vb2.frozen 1
        have g2 := vb2.frozen 2
        have lc := kb2.lt
        have ld := vb2.lt
        have HF := Lib.hid hfin
        clear hfin hcn ht2 hu2 kb2 vb2 HP HB c0
        rw [hP]
        go_upto_region 7 with fail
        go_region
        all_goals
          go_wp2
          refine bodyPost_ret (v := .tuple #[VK x.key, VK x.val, .int .i64 x.flags, .bool true]) ?_ rfl (HF.out _ ?_)
          · first | (simp [results, Tryd.results80, go_sem, r0, r1, r2, f0, f1, f2, s0, s1, s2, g0, g1, g2, lc, ld]; done)
          · repeat (first | with_reducible exact Upd.refl _ _ | with_reducible refine Upd.drew ?_ | with_reducible refine Upd.set ?_ P _ _ (Or.inl rfl) | with_reducible refine Upd.set ?_ (P + 1) _ _ (Or.inr rfl))
      · rw [hgr] at b7
        have hnew : NX w T c k (.slice (some ⟨g, 0, none⟩) es.length capL) sv cv es sl cs O n (a + 1) W2 := by
          obtain ⟨h1, h2, h3, h4, h5⟩ := HP.out
          refine ⟨by rw [HM.out]; omega, ?_, h2, h3, h4, h5⟩
          rw [cnt_succ HX.out, hgr]; exact h1
        have hat2 : atW c W2 = a + 1 := by
          have hcb := hnew.cur hkl
          unfold atW; rw [hcb.cell]; show ((a + 1 : Nat) : Int).toNat = a + 1; omega
        have HNX := Lib.hid hnew
        have HA2 := Lib.hid hat2
        clear hnew hat2
        go_wp2_with fail
        go_roundw
        case rel => exact ⟨a + 1, HNX.out⟩
        case measure => rw [HA2.out, HAt.out, HM.out]; omega
    · obtain rfl : m = a := by omega
      have t3 : decide ((m : Int) < (m : Int)) = false := by simp
      clear hr hcb hnx
      go_upto_region 3 with fail
      go_quiet (fail)
      go_upto_region 8 with fail
      have hr3 := HR.out.drewN nq
      clear c0 c1 x0 hcl hTl HR
      generalize wr.drewN nq = wd at *
      have hTA := hr3.tabA HS.out HK.out HY.out
      have hxm : (c, n) ∈ cs.map (curF es) := List.mem_map.2 ⟨y, List.mem_of_getElem? HK.out, by unfold curF; rw [HY.out.1, HY.out.2]⟩
      have hOc : O c := by rw [← HY.out.1]; exact HS.out.tab.oc y (List.mem_of_getElem? HK.out)
      have hend : (cp es)[n]? = none := by
        have h1 := @cp_end es
        rw [HM.out, hr3.cn] at h1; exact h1
      go_wp2_with fail
      refine (close_any c T _ _ O wd hTA (c, n) hxm rfl hD).mono ?_
      intro e5 w5 h5
      obtain rfl := h5.1
      have kb5 := h5.2.2.2.blk hr3.kb (fun h => by have := HS.out.tab.oLt _ h; omega)
      have vb5 := h5.2.2.2.blk hr3.vb (fun h => by have := HS.out.tab.oLt _ h; omega)
      obtain ⟨P, hP⟩ : ∃ P, w.heap.size = P := ⟨_, rfl⟩
      have hfin := fun w6 h6 => next_none (w6 := w6) HS.out.tab.oLt hP.symm hr3.upd h5 hend h6 hOc
      rw [hP] at kb5 vb5
      have r0 : w5.cell? ⟨P, 0, none⟩ = some (.int .i64 0) := by rw [kb5.cell]; rfl
      have r1 : w5.cell? ⟨P, 1, none⟩ = some (.int .i64 0) := by rw [kb5.cell]; rfl
      have r2 : w5.cell? ⟨P, 2, none⟩ = some (.string ⟨#[]⟩) := by rw [kb5.cell]; rfl
      have f0 := kb5.frozen 0
      have f1 := kb5.frozen 1
      have f2 := kb5.frozen 2
      have s0 : w5.cell? ⟨P + 1, 0, none⟩ = some (.int .i64 0) := by rw [vb5.cell]; rfl
      have s1 : w5.cell? ⟨P + 1, 1, none⟩ = some (.int .i64 0) := by rw [vb5.cell]; rfl
      have s2 : w5.cell? ⟨P + 1, 2, none⟩ = some (.string ⟨#[]⟩) := by rw [vb5.cell]; rfl
      have g0 := vb5.frozen 0
      have g1 := vb5.frozen 1
      have g2 := vb5.frozen 2
      have lc := kb5.lt
      have ld := vb5.lt
      have HF := Lib.hid hfin
      clear hfin h5 hr3 hTA
      rw [hP]
      go_wp2
      refine bodyPost_ret (v := .tuple #[VS 0 0 ⟨#[]⟩, VS 0 0 ⟨#[]⟩, .int .i64 0, .bool false]) ?_ rfl (HF.out _ ?_)
      · first | (simp [results, Tryd.results80, go_sem, r0, r1, r2, f0, f1, f2, s0, s1, s2, g0, g1, g2, lc, ld]; done)
      · exact ((((((Upd.refl w5 _).set P 0 _ (.inl rfl)).set P 1 _ (.inl rfl)).set P 2 _ (.inl rfl)).set (P + 1) 0 _ (.inr rfl)).set (P + 1) 1 _ (.inr rfl)).set (P + 1) 2 _ (.inr rfl)
theorem next_any (c T n : Nat) (A : List Ent) (D : List (Nat × Nat)) (O : Nat → Prop) (w : World) (h : TabA w T A D O) (hx : (c, n) ∈ D) (hA : A.length ≤ 5000) (hD : D.length ≤ 100000) :
    Calls Tryd.prog 80 #[.pointer (some ⟨c, 0, none⟩)] w (NxtP c T n A D O w) :=
  (next_anyQ c T n A D O w h hx hA hD).mono fun e w' h' => h'.weak h.lt
end Go.Proofs.YtmimnaaofpkndaaDoor
