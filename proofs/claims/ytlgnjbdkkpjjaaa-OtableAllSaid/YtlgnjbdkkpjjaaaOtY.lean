/- Contracts of the reference's Delete and Clear, and of Clear. -/
import Derived.Test.YtlgnjbdkkpjjaaaOtX
set_option linter.unusedVariables false
set_option linter.unusedSimpArgs false
namespace Go.Proofs.Ytlgnjbdkkpjjaaa
open Go.RowKit Go.Sort

def RDelP (M : Nat) (k : K3) (lv : Value) (L : List Ent) (cl : Int) (O : Nat → Prop) (w : World) (e : Ending) (w' : World) : Prop :=
  e = .returned (.bool ((cp L).any (isKey k))) ∧ (∃ L', RTab w' M lv L' cl O ∧ cp L' = delA k (cp L) ∧ (∀ a, cnt L' a = (delA k ((cp L).take (cnt L a))).length) ∧ L'.length = L.length) ∧ Upd w w' O
theorem rdel_none {L : List Ent} {k : K3} (h : ∀ x ∈ L, isKey k x = false) : cp L = delA k (cp L) ∧ ∀ a, cnt L a = (delA k ((cp L).take (cnt L a))).length := by
  have h1 : ∀ l : List Ent, (∀ x ∈ l, x ∈ cp L) → delA k l = l := fun l hl => delA_no (fun x hx => h x (mem_cp (hl x hx)).1)
  refine ⟨(h1 _ (fun x hx => hx)).symm, fun a => ?_⟩
  rw [h1 _ (fun x hx => List.mem_of_mem_take hx), ← cp_take]; rfl
theorem rdel_some {L : List Ent} {k : K3} {j : Nat} {e : Ent} (hd : Dist L) (hj : L[j]? = some e) (hk : isKey k e = true) : cp (L.set j { e with grave := true }) = delA k (cp L) ∧ ∀ a, cnt (L.set j { e with grave := true }) a = (delA k ((cp L).take (cnt L a))).length := by
  have h := cp_del hd k j e { e with grave := true } hj hk rfl
  refine ⟨?_, fun a => ?_⟩
  · have h2 := h L.length
    rw [List.take_length, List.take_of_length_le (by rw [List.length_set]; exact Nat.le_refl _)] at h2
    exact h2
  · rw [← cp_take, cnt, h]; rfl
set_option maxHeartbeats 4000000 in
set_option maxRecDepth 100000 in
theorem rdelete_any (M : Nat) (lv : Value) (L : List Ent) (cl : Int) (O : Nat → Prop) (k : K3) (w : World) (h : RTab w M lv L cl O) (hL : L.length ≤ 5000) (hn : ∀ e ∈ L, e.grave = false → norm e.key = e.key) (hd : Dist L) :
    Calls Try.prog 32 #[.pointer (some ⟨M, 0, none⟩), VK k] w (RDelP M k lv L cl O w) := by
  have hb1 : Below w.heap.size w (w.alloc (SC k.1 k.2.1 k.2.2)) := (Below.refl _ _).alloc (Nat.le_refl _) _
  have h1 := h.below hb1
  go_enter Try.func32, Try.ntmps32
  go_wp2_with fail
  generalize (w.alloc (SC k.1 k.2.1 k.2.2)) = w1 at *
  refine (rfind_any M lv L cl O k w1 h1 hL hn).mono ?_
  rintro e w2 ⟨i, rfl, hf, b2⟩
  have h2 := h1.below b2
  have hb2 := hb1.trans (b2.mono hb1.size)
  rcases hf with ⟨rfl, hno⟩ | ⟨j, e, rfl, hj, hk⟩
  · obtain ⟨g1, g2⟩ := rdel_none hno
    have hfin : RDelP M k lv L cl O w (.returned (.bool false)) w2 := ⟨by rw [isKey_cp hno], ⟨L, h2, g1, g2, rfl⟩, Upd.of_below_all hb2⟩
    have HR := Lib.hid hfin
    clear hfin g1 g2 hno h h1 h2 hb1 hb2 b2
    go_wp2
    go_ret
    exact HR.out
  · obtain ⟨A0, c0, rfl, hA0⟩ := own_shape h2.ents
    have hjl := (List.getElem?_eq_some_iff.1 hj).1
    obtain ⟨g, rfl⟩ := hA0 (by omega)
    obtain ⟨hset, hup⟩ := h2.setEnt (r := 7) (e' := { e with grave := true }) (l := [.bool true]) hj (by simp) rfl
    rw [List.length_set] at hset
    simp only [setsAt] at hset hup
    have hmem : e ∈ cp L := List.mem_filter.2 ⟨List.mem_of_getElem? hj, by simp [(isKey_true.1 hk).1]⟩
    have hfin : RDelP M k (.slice (some ⟨g, 0, none⟩) L.length c0) L cl O w (.returned (.bool true)) (w2.setCell ⟨g, j * 8 + 7, none⟩ (.bool true)) :=
      ⟨by rw [List.any_eq_true.2 ⟨e, hmem, hk⟩], ⟨_, hset, (rdel_some hd hj hk).1, (rdel_some hd hj hk).2, by simp⟩, (Upd.of_below_all hb2).trans hup⟩
    have HR := Lib.hid hfin
    have e7 : w2.cell? ⟨g, j * 8 + 7, none⟩ = some (.bool e.grave) := h2.ent j e hj 7 (by decide)
    have f7 := World.ownsRow.frozenAt h2.ents (j * 8 + 7)
    obtain ⟨n, hnn⟩ : ∃ n, L.length = n := ⟨_, rfl⟩
    have x0 : w2.cell? ⟨M, 0, none⟩ = some (.slice (some ⟨g, 0, none⟩) n c0) := by rw [h2.blk.cell, ← hnn]; rfl
    rw [hnn] at hjl
    have j0 : (0 : Int) ≤ (j : Int) := by omega
    have j1 : (j : Int) < (n : Int) := by omega
    have t1 : decide ((j : Int) < 0) = false := decide_eq_false (by omega)
    clear hfin hset hup hmem h h1 h2 hb1 hb2 b2 hA0
    go_wp2
    go_ret
    exact HR.out

def RClrP (M : Nat) (cl : Int) (O : Nat → Prop) (w : World) (e : Ending) (w' : World) : Prop := e = .returned (.tuple #[]) ∧ RTab w' M (.slice none 0 0) [] (cl + 1) O ∧ Upd w w' O
set_option maxHeartbeats 1000000 in
theorem rclear_any (M : Nat) (lv : Value) (L : List Ent) (cl : Int) (O : Nat → Prop) (w : World) (h : RTab w M lv L cl O) (hc : 0 ≤ cl ∧ cl ≤ 100000) :
    Calls Try.prog 34 #[.pointer (some ⟨M, 0, none⟩)] w (RClrP M cl O w) := by
  have x0 : w.cell? ⟨M, 0, none⟩ = some lv := by rw [h.blk.cell]; rfl
  have x1 : w.cell? ⟨M, 1, none⟩ = some (.int .i64 cl) := by rw [h.blk.cell]; rfl
  have f0 := h.blk.frozen 0
  have f1 := h.blk.frozen 1
  have aw : IntKind.i64.wrap (cl + 1) = cl + 1 := IntWalk.i64_in _ (by omega)
  obtain ⟨A0, c0, rfl, hA0⟩ := own_shape h.ents
  have hb := (h.blk.set_ 0 (.slice none 0 0)).set_ 1 (.int .i64 (cl + 1))
  have hu : Upd w ((w.setCell ⟨M, 0, none⟩ (.slice none 0 0)).setCell ⟨M, 1, none⟩ (.int .i64 (cl + 1))) O := ((Upd.refl w O).set M 0 _ h.oM).set M 1 _ h.oM
  have hfin : RClrP M cl O w (.returned (.tuple #[])) ((w.setCell ⟨M, 0, none⟩ (.slice none 0 0)).setCell ⟨M, 1, none⟩ (.int .i64 (cl + 1))) :=
    ⟨rfl, ⟨hb, World.ownsRow_nil _ _ _ _, h.oM, fun g hg => (by simp [Value.ownBlock] at hg), fun k hk => Nat.lt_of_lt_of_le (h.oLt k hk) hu.size⟩, hu⟩
  have HR := Lib.hid hfin
  have hl := h.blk.lt
  clear hfin hu hb h hA0
  go_enter Try.func34, Try.ntmps34
  go_wp2
  go_end0
  exact HR.out

/-! ### Clear -/
def ClrP (T : Nat) (D : List (Nat × Nat)) (O : Nat → Prop) (w : World) (e : Ending) (w' : World) : Prop := e = .returned (.tuple #[]) ∧ TabA w' T [] (D.map (fun d => (d.1, 0))) O ∧ Upd w w' O
structure CX (w wr : World) (T : Nat) (cv : Value) (cs cs' : List (Nat × Nat)) (O : Nat → Prop) (j : Nat) : Prop where
  tab : TabV wr T (.slice none 0 0) (.slice none 0 0) cv [] [] 0 cs' O
  upd : Upd w wr O
  fst : cs'.map Prod.fst = cs.map Prod.fst
  z : ∀ (i : Nat) (d : Nat × Nat), i < j → cs'[i]? = some d → d.2 = 0
theorem clr_fin {w wr : World} {T : Nat} {lv sv cv cv0 : Value} {es : List Ent} {sl : List Nat} {cs cs' : List (Nat × Nat)} {O : Nat → Prop} {j : Nat} (h : CX w wr T cv cs cs' O j) (hj : cs.length ≤ j) (hs : TabS w T lv sv cv0 es sl cs O) : ClrP T (cs.map (curF es)) O w (.returned (.tuple #[])) wr := by
  have hlen : cs'.length = cs.length := by have := congrArg List.length h.fst; simpa using this
  have hz : cs' = cs.map (fun c => (c.1, 0)) := by
    apply List.ext_getElem?
    intro i
    have h1 := congrArg (fun l => l[i]?) h.fst
    simp only [List.getElem?_map] at h1
    rw [List.getElem?_map]
    cases hc : cs'[i]? with
    | none =>
      rw [hc] at h1
      cases hc2 : cs[i]? with
      | none => rfl
      | some d => rw [hc2] at h1; cases h1
    | some d =>
      rw [hc] at h1
      have hi := (List.getElem?_eq_some_iff.1 hc).1
      have h0 := h.z i d (by omega) hc
      cases hc2 : cs[i]? with
      | none => rw [hc2] at h1; cases h1
      | some d2 =>
        rw [hc2] at h1
        injection h1 with h1
        show some d = some (d2.1, 0)
        rw [← h1, ← h0]
  refine ⟨rfl, ⟨_, _, cv, [], [], cs', ⟨h.tab, by simpa using Core.nil 0, .inl rfl, Nat.le_refl _, Nat.zero_le _, fun c hc => ?_, fun e he => by cases he⟩, rfl, ?_⟩, h.upd⟩
  · rw [hz] at hc
    obtain ⟨d, _, rfl⟩ := List.mem_map.1 hc
    exact Nat.zero_le _
  · rw [hz, List.map_map, List.map_map]
    rfl
theorem CX.step {w wr : World} {T : Nat} {cv : Value} {cs cs' : List (Nat × Nat)} {O : Nat → Prop} {j : Nat} {d : Nat × Nat} (h : CX w wr T cv cs cs' O j) (hd : cs'[j]? = some d) : CX w (wr.setCell ⟨d.1, 1, none⟩ (.int .i64 0)) T cv cs (cs'.set j (d.1, 0)) O (j + 1) := by
  have hj := (List.getElem?_eq_some_iff.1 hd).1
  have h1 := h.tab.setCur j d hd 0
  refine ⟨h1, h.upd.set d.1 1 _ (h.tab.oc d (List.mem_of_getElem? hd)), ?_, fun i x hi hx => ?_⟩
  · rw [← h.fst]
    apply List.ext_getElem?
    intro i
    rw [List.getElem?_map, List.getElem?_map, List.getElem?_set]
    by_cases e : j = i
    · subst e; rw [if_pos rfl, hd]; simp [hj]
    · rw [if_neg e]
  · rw [List.getElem?_set] at hx
    by_cases e : j = i
    · subst e
      rw [if_pos rfl, if_pos hj] at hx
      injection hx with hx
      rw [← hx]
    · rw [if_neg e] at hx
      exact h.z i x (by omega) hx
set_option maxHeartbeats 4000000 in
set_option maxRecDepth 100000 in
theorem clear_any (T : Nat) (A : List Ent) (D : List (Nat × Nat)) (O : Nat → Prop) (w : World) (h : TabA w T A D O) (hD : D.length ≤ 100000) :
    Calls Try.prog 23 #[.pointer (some ⟨T, 0, none⟩)] w (ClrP T D O w) := by
  obtain ⟨lv, sv, cv, es, sl, cs, hs, rfl, rfl⟩ := h
  rw [List.length_map] at hD
  have ht := hs.tab
  have b0 : w.cell? ⟨T, 0, none⟩ = some lv := by rw [ht.blk.cell]; rfl
  have b1 : w.cell? ⟨T, 1, none⟩ = some sv := by rw [ht.blk.cell]; rfl
  have b2 : w.cell? ⟨T, 2, none⟩ = some (.int .i64 ((cp es).length : Int)) := by rw [ht.blk.cell]; rfl
  have b3 : w.cell? ⟨T, 3, none⟩ = some cv := by rw [ht.blk.cell]; rfl
  have f0 := ht.blk.frozen 0
  have f1 := ht.blk.frozen 1
  have f2 := ht.blk.frozen 2
  have hl := ht.blk.lt
  obtain ⟨AL, cL, hlv, _⟩ := own_shape ht.ents
  obtain ⟨AS, cS, hsv, _⟩ := own_shape ht.slots
  obtain ⟨AC, cC, hcv, hAC⟩ := own_shape ht.curs
  have hset : CX w (((w.setCell ⟨T, 0, none⟩ (.slice none 0 0)).setCell ⟨T, 1, none⟩ (.slice none 0 0)).setCell ⟨T, 2, none⟩ (.int .i64 0)) T cv cs cs O 0 := by
    refine ⟨⟨((ht.blk.set_ 0 _).set_ 1 _).set_ 2 _, World.ownsRow_nil _ _ _ _, World.ownsRow_nil _ _ _ _, ?_, fun c hc => ?_, ht.nodup, ht.oT, fun g hg => (by simp [Value.ownBlock] at hg), fun g hg => (by simp [Value.ownBlock] at hg), ht.oC, ht.oc, fun k hk => ?_⟩, (((Upd.refl w O).set T 0 _ ht.oT).set T 1 _ ht.oT).set T 2 _ ht.oT, rfl, fun i d hi => by omega⟩
    · exact own_set (own_set (own_set ht.curs ht.blk (by decide) _ _) (ht.blk.set_ 0 _) (by decide) _ _) ((ht.blk.set_ 0 _).set_ 1 _) (by decide) _ _
    · have hne : c.1 ≠ T := (ht.cur c hc).ne_ ht.blk (by decide)
      exact (((ht.cur c hc).far (p := ⟨T, 0, none⟩) hne _).far (p := ⟨T, 1, none⟩) hne _).far (p := ⟨T, 2, none⟩) hne _
    · have := ht.oLt k hk; simpa using this
  have HS := Lib.hid hs
  have HX := Lib.hid hset
  have b3' : (((w.setCell ⟨T, 0, none⟩ (.slice none 0 0)).setCell ⟨T, 1, none⟩ (.slice none 0 0)).setCell ⟨T, 2, none⟩ (.int .i64 0)).cell? ⟨T, 3, none⟩ = some cv := by rw [hset.tab.blk.cell]; rfl
  obtain ⟨n, hn⟩ : ∃ n, cs.length = n := ⟨_, rfl⟩
  have HN := Lib.hid hn
  rw [hn] at hcv hAC hD
  subst hlv hsv hcv
  have HAC := Lib.hid hAC
  clear hset hs ht hAC b3 hn
  go_enter Try.func23, Try.ntmps23
  go_wp2_with fail
  generalize (((w.setCell ⟨T, 0, none⟩ (.slice none 0 0)).setCell ⟨T, 1, none⟩ (.slice none 0 0)).setCell ⟨T, 2, none⟩ (.int .i64 0)) = w1 at *
  clear b0 b1 b2 f0 f1 f2
  go_wp2_with fail
  go_loopw [20] (fun i wr => ∃ (j : Nat) (cs' : List (Nat × Nat)), j ≤ n ∧ i = .int .i64 (j : Int) ∧ Hid (CX w wr T (.slice AC n cC) cs cs' O j)) (fun i _ => n - (intOf i).toNat)
  case atStart => exact ⟨0, cs, Nat.zero_le _, rfl, HX⟩
  case round =>
    clear HX
    obtain ⟨j, cs', hj, rfl, HX⟩ := hrel
    have hlen : cs'.length = n := by have := congrArg List.length HX.out.fst; simpa [HN.out] using this
    by_cases hlt : j < n
    · obtain ⟨g, rfl⟩ := HAC.out (by omega)
      obtain ⟨d, hd⟩ : ∃ d, cs'[j]? = some d := ⟨_, List.getElem?_eq_getElem (by omega)⟩
      have hcr := HX.out.tab.curs
      rw [hlen] at hcr
      have xc : wr.cell? ⟨g, j, none⟩ = some (.pointer (some ⟨d.1, 0, none⟩)) := by
        rw [hcr.cellAt j (by omega), List.getElem?_map, hd]; rfl
      have hcb := HX.out.tab.cur d (List.mem_of_getElem? hd)
      have xa : wr.cell? ⟨d.1, 1, none⟩ = some (.int .i64 (d.2 : Int)) := by rw [hcb.cell]; rfl
      have xf := hcb.frozen 1
      have xl := hcb.lt
      have t1 : decide ((j : Int) < (n : Int)) = true := by simp; omega
      have j0 : (0 : Int) ≤ (j : Int) := by omega
      have j1 : (j : Int) < (n : Int) := by omega
      have aw : IntKind.i64.wrap ((j : Int) + 1) = (j : Int) + 1 := IntWalk.i64_in _ (by omega)
      have H2 := Lib.hid (HX.out.step hd)
      clear hcr hcb hd HX
      go_wp2_with fail
      go_roundw
      case rel => exact ⟨j + 1, _, by omega, by go_num, H2⟩
      case measure => simp [intOf]; omega
    · have hjn : n = j := by omega
      subst hjn
      have t1 : decide ((n : Int) < (n : Int)) = false := by simp
      have hfin := Lib.hid (clr_fin HX.out (by rw [HN.out]; exact Nat.le_refl _) HS.out)
      go_wp2
      go_end0
      exact hfin.out
end Go.Proofs.Ytlgnjbdkkpjjaaa
