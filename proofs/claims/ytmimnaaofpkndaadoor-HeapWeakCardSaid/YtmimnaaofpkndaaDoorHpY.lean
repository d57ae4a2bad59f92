/- The arena: marking: reach and dead. -/
import Derived.Test.YtmimnaaofpkndaaDoorHpX
import Derived.RangeFuncFrom
set_option linter.unusedVariables false
set_option linter.unusedSimpArgs false
namespace Go.Proofs.YtmimnaaofpkndaaDoor.Hp
open Go.RowKit Go.Proofs.YtmimnaaofpkndaaDoor

theorem setc_upd (w : World) (g i : Nat) (v : Value) : Upd w (w.setCell ⟨g, i, none⟩ v) (fun k => k = g) := (Upd.refl w _).set g i v rfl

/-- Is it a cell that was not come to? -/
def deadP (cs : List Cell) (r : Int) : Bool := decide (1 ≤ r) && decide (r ≤ cs.length) && (cs.getD (r - 1).toNat (none, false)).1.isSome && !(cs.getD (r - 1).toNat (none, false)).2
/-- A cell is come to: cells, and those still to be looked into. -/
def reachP (s : List Cell × List Int) (r : Int) : List Cell × List Int :=
  if deadP s.1 r then (s.1.set (r - 1).toNat ((s.1.getD (r - 1).toNat (none, false)).1, true), s.2 ++ [r]) else s
def pvCells (l : List (Nat × Nat)) : List Value := l.map fun n => bodyV (some n)
structure MkS (w : World) (A B M B1 : Nat) (cv fv rv wv pv : Value) (cs : List Cell) (fr ro : List Int) (live : Int) (work : List Int) (prs : List (Nat × Nat)) : Prop where
  ar : Ar w A B cv fv rv cs fr ro live
  mkb : Blk w M 104 #[.pointer (some ⟨A, 0, none⟩), wv, pv]
  work : w.ownsRow B1 3 1 wv work.length (numCells work)
  prs : w.ownsRow B1 108 1 pv prs.length (pvCells prs)
  fvB : ∀ g, fv.ownBlock = some g → g < B1
  rvB : ∀ g, rv.ownBlock = some g → g < B1

theorem deadP_far (cs : List Cell) (r : Int) (h : r < 1 ∨ (cs.length : Int) < r) : deadP cs r = false := by
  unfold deadP
  rcases h with h | h
  · rw [show decide (1 ≤ r) = false by rw [decide_eq_false_iff_not]; omega]; rfl
  · rw [show decide (r ≤ (cs.length : Int)) = false by rw [decide_eq_false_iff_not]; omega]; simp
theorem deadP_at (cs : List Cell) (i : Nat) (hi : i < cs.length) : deadP cs ((i : Int) + 1) = ((cs.getD i (none, false)).1.isSome && !(cs.getD i (none, false)).2) := by
  unfold deadP
  rw [show ((i : Int) + 1 - 1).toNat = i by omega, show decide ((1 : Int) ≤ (i : Int) + 1) = true by rw [decide_eq_true_eq]; omega, show decide ((i : Int) + 1 ≤ (cs.length : Int)) = true by rw [decide_eq_true_eq]; omega]
  simp
set_option maxHeartbeats 1000000 in
theorem dead_any {w : World} {A B : Nat} {cv fv rv : Value} {cs : List Cell} {fr ro : List Int} {live : Int} (h : Ar w A B cv fv rv cs fr ro live) (r : Int) (hl : cs.length ≤ 100000000) :
    Calls Tryd.prog 50 #[.pointer (some ⟨A, 0, none⟩), .int .i64 r] w fun e w' => e = .returned (.bool (deadP cs r)) ∧ w = w' := by
  obtain ⟨a, cap, rfl, ha⟩ := own_shape h.cells
  have x0 : w.cell? ⟨A, 0, none⟩ = some (.slice a cs.length cap) := by rw [h.blk.cell]; rfl
  have hAl := h.blk.lt
  have hcl := h.cells
  obtain ⟨n, hn⟩ : ∃ n, cs.length = n := ⟨_, rfl⟩
  rw [hn] at x0 ha hcl hl
  have HN := Lib.hid hn
  clear h
  by_cases h1 : 1 ≤ r
  · have L1 : decide ((1 : Int) ≤ r) = true := by simpa using h1
    by_cases h2 : r ≤ n
    · have L2 : decide (r ≤ (n : Int)) = true := by simpa using h2
      obtain ⟨i, rfl⟩ : ∃ i : Nat, r = (i : Int) + 1 := ⟨(r - 1).toNat, by omega⟩
      have hin : i < n := by omega
      obtain ⟨gc, rfl⟩ := ha (by omega)
      have w1 : IntKind.i64.wrap ((i : Int) + 1 - 1) = (i : Int) := by rw [IntWalk.i64_in _ (by omega)]; omega
      have e1 : (i : Int) + 1 - 1 = (i : Int) := by omega
      have z0 : (0 : Int) ≤ i := by omega
      have z1 : (i : Int) < n := by omega
      have z2 : (i : Int).toNat = i := by omega
      have hg := clCells_get cs i (by rw [hn]; exact hin)
      have c0 := (hcl.cellAt (i * 2) (by omega)).trans hg.1
      have c1 := (hcl.cellAt (i * 2 + 1) (by omega)).trans hg.2
      have hdp := deadP_at cs i (by rw [hn]; exact hin)
      generalize cs.getD i (none, false) = c at *
      obtain ⟨ob, mk⟩ := c
      simp only at c0 c1 hdp
      have HD := Lib.hid hdp
      clear hg hcl hdp hn
      cases ob with
      | none =>
        simp only [bodyV] at c0
        go_enter Tryd.func50, Tryd.ntmps50
        go_wp2
        go_ret
        exact ⟨by rw [HD.out]; rfl, rfl⟩
      | some N =>
        simp only [bodyV] at c0
        cases mk
        · go_enter Tryd.func50, Tryd.ntmps50
          go_wp2
          go_ret
          exact ⟨by rw [HD.out]; rfl, rfl⟩
        · go_enter Tryd.func50, Tryd.ntmps50
          go_wp2
          go_ret
          exact ⟨by rw [HD.out]; rfl, rfl⟩
    · have L2 : decide (r ≤ (n : Int)) = false := by simpa using h2
      have HD := Lib.hid (deadP_far cs r (.inr (by rw [hn]; omega)))
      clear hcl hn
      go_enter Tryd.func50, Tryd.ntmps50
      go_wp2
      go_ret
      exact ⟨by rw [HD.out]; rfl, rfl⟩
  · have L1 : decide ((1 : Int) ≤ r) = false := by simpa using h1
    have HD := Lib.hid (deadP_far cs r (.inl (by omega)))
    clear hcl hn
    go_enter Tryd.func50, Tryd.ntmps50
    go_wp2
    go_ret
    exact ⟨by rw [HD.out]; rfl, rfl⟩
theorem infoPairs : ((Tryd.prog.info? 108).map (fun i => (i.zero, i.size, i.bytes))) = some (some .nilIface, 1, 16) := by kernel_rfl
theorem set_mark_len (cs : List Cell) (i : Nat) (c : Cell) : (cs.set i c).length = cs.length := List.length_set
set_option maxHeartbeats 2000000 in
set_option maxRecDepth 100000 in
theorem reach_any {w : World} {A B M B1 : Nat} {cv fv rv wv pv : Value} {cs : List Cell} {fr ro : List Int} {live : Int} {work : List Int} {prs : List (Nat × Nat)} (h : MkS w A B M B1 cv fv rv wv pv cs fr ro live work prs) (r : Int) (hl : cs.length ≤ 100000000) (hw : work.length ≤ 100000000) (hM : B1 ≤ M) (hB1 : B1 ≤ w.heap.size) :
    Calls Tryd.prog 47 #[.pointer (some ⟨M, 0, none⟩), .int .i64 r] w fun e w' => e = .returned (.bool true) ∧
      ∃ wv', MkS w' A B M B1 cv fv rv wv' pv (reachP (cs, work) r).1 fr ro live (reachP (cs, work) r).2 prs ∧ Upd w w' (fun k => cv.ownBlock = some k ∨ k = M ∨ wv.ownBlock = some k) ∧ KeepsOthers w w' ∧ (∀ g, wv'.ownBlock = some g → wv.ownBlock = some g ∨ w.heap.size ≤ g) := by
  obtain ⟨i0, hi, hz0, hz1, hz2⟩ := info_parts infoInt
  have H := Lib.hid h
  have m0 : w.cell? ⟨M, 0, none⟩ = some (.pointer (some ⟨A, 0, none⟩)) := by rw [h.mkb.cell]; rfl
  have hMl := h.mkb.lt
  have hAl := h.ar.blk.lt
  obtain ⟨a, cap, rfl, ha⟩ := own_shape h.ar.cells
  have x0 : w.cell? ⟨A, 0, none⟩ = some (.slice a cs.length cap) := by rw [h.ar.blk.cell]; rfl
  have hcl := h.ar.cells
  obtain ⟨n, hn⟩ : ∃ n, cs.length = n := ⟨_, rfl⟩
  rw [hn] at x0 ha hcl hl
  have HN := Lib.hid hn
  have same : deadP cs r = false → ∃ wv', MkS w A B M B1 (.slice a cs.length cap) fv rv wv' pv (reachP (cs, work) r).1 fr ro live (reachP (cs, work) r).2 prs ∧ Upd w w (fun k => (Value.slice a cs.length cap).ownBlock = some k ∨ k = M ∨ wv.ownBlock = some k) ∧ KeepsOthers w w ∧ (∀ g, wv'.ownBlock = some g → wv.ownBlock = some g ∨ w.heap.size ≤ g) := fun hd => by
    unfold reachP
    rw [if_neg (by rw [hd]; decide)]
    exact ⟨wv, H.out, Upd.refl _ _, KeepsOthers.refl _, fun g hg => .inl hg⟩
  have HS := Lib.hid same
  clear same h
  by_cases h1 : 1 ≤ r
  · have L1 : decide ((1 : Int) ≤ r) = true := by simpa using h1
    by_cases h2 : r ≤ n
    · have L2 : decide (r ≤ (n : Int)) = true := by simpa using h2
      obtain ⟨i, rfl⟩ : ∃ i : Nat, r = (i : Int) + 1 := ⟨(r - 1).toNat, by omega⟩
      have hin : i < n := by omega
      obtain ⟨gc, rfl⟩ := ha (by omega)
      have w1 : IntKind.i64.wrap ((i : Int) + 1 - 1) = (i : Int) := by rw [IntWalk.i64_in _ (by omega)]; omega
      have e1 : (i : Int) + 1 - 1 = (i : Int) := by omega
      have z0 : (0 : Int) ≤ i := by omega
      have z1 : (i : Int) < n := by omega
      have z2 : (i : Int).toNat = i := by omega
      have hg := clCells_get cs i (by rw [hn]; exact hin)
      have c0 := (hcl.cellAt (i * 2) (by omega)).trans hg.1
      have c1 := (hcl.cellAt (i * 2 + 1) (by omega)).trans hg.2
      have fz1 := hcl.frozenAt (i * 2 + 1)
      have hgl := (hcl.lt gc rfl).2
      have hdp := deadP_at cs i (by rw [hn]; exact hin)
      obtain ⟨c, hc⟩ : ∃ c, cs.getD i (none, false) = c := ⟨_, rfl⟩
      rw [hc] at c0 c1 hdp
      have HCc := Lib.hid hc
      have HCL := Lib.hid hcl
      obtain ⟨ob, mk⟩ := c
      simp only at c0 c1 hdp
      have HD := Lib.hid hdp
      clear hg hcl hdp hn hc
      cases ob with
      | none =>
        have hs := Lib.hid (HS.out (by rw [HD.out]; rfl))
        simp only [bodyV] at c0
        go_enter Tryd.func47, Tryd.ntmps47
        go_wp2
        go_ret
        first | exact ⟨rfl, hs.out⟩ | (obtain ⟨x, p, q⟩ := hs.out; exact ⟨rfl, ⟨x, p⟩, q⟩)
      | some N =>
        simp only [bodyV] at c0
        cases mk
        · -- the mark is laid, the number joins the work
          have hgA : gc ≠ A := fun e => own_blk_ne HCL.out H.out.ar.blk (by decide) (by rw [← e]; rfl)
          have hgM : gc ≠ M := fun e => own_blk_ne HCL.out H.out.mkb (by decide) (by rw [← e]; rfl)
          have u1 := setc_upd w gc (i * 2 + 1) (.bool true)
          have hst := HCL.out.stored (i * 2 + 1) (.bool true)
          have hwk := u1.own H.out.work (fun k hk e => by
            rcases own_ne H.out.work HCL.out (by decide) with q | q
            · rw [q] at hk; cases hk
            · exact q (by rw [hk, e]; rfl))
          have hpr := u1.own H.out.prs (fun k hk e => by
            rcases own_ne H.out.prs HCL.out (by decide) with q | q
            · rw [q] at hk; cases hk
            · exact q (by rw [hk, e]; rfl))
          have hmk := u1.blk H.out.mkb (fun e => hgM e.symm)
          obtain ⟨wa, wcap, rfl, _⟩ := own_shape H.out.work
          obtain ⟨nw, hnw⟩ : ∃ nw, work.length = nw := ⟨_, rfl⟩
          have m1 : (w.setCell ⟨gc, i * 2 + 1, none⟩ (.bool true)).cell? ⟨M, 1, none⟩ = some (.slice wa work.length wcap) := by rw [hmk.cell]; rfl
          rw [hnw] at m1 hwk hmk hw
          have hsz1 : (w.setCell ⟨gc, i * 2 + 1, none⟩ (.bool true)).heap.size = w.heap.size := by simp
          have m0' := u1.cell m0 (fun e => hgM e.symm)
          have hnews := World.news_of_block (cs := #[.int .i64 ((i : Int) + 1)]) (t := 3) (fr := (0, 0)) (heap_alloc_new (w.setCell ⟨gc, i * 2 + 1, none⟩ (.bool true)) (.cells #[.int .i64 ((i : Int) + 1)] 3))
          rw [hsz1] at hnews
          have m1w : w.cell? ⟨M, 1, none⟩ = some (.slice wa nw wcap) := by rw [H.out.mkb.cell, ← hnw]; rfl
          have HNW := Lib.hid hnw
          have HST := Lib.hid hst
          have HMK := Lib.hid (And.intro hmk (And.intro hpr hwk))
          clear hst hpr hnw hmk
          go_enter Tryd.func47, Tryd.ntmps47
          go_wp2_with (at_builtin; refine wpList_append_lies _ rfl _ _ 22 rfl B1 3 i0 (.int .i64 0) 1 8 Tryd.underlying22 hi hz0 hz1 hz2 rfl (by decide) _ _ _ rfl (hwk.alloc _) ⟨w.heap.size, 0, none⟩ 1 1 [.int .i64 ((i : Int) + 1)] rfl rfl hnews (by simp [Value.oneCell']) (by decide) (by unfold maxLen; omega) (by omega) (by simp; omega) _ rfl ?_)
          intro gq capq w2 hown2 hgrow2 hat2 hlt2
          have hmk2 := Blk.grown (HMK.out.1.alloc (.cells #[.int .i64 ((i : Int) + 1)] 3)) hgrow2 (fun e => own_blk_ne HMK.out.2.2 HMK.out.1 (by decide) e.symm)
          have m1' : w2.cell? ⟨M, 1, none⟩ = some (.slice wa nw wcap) := by rw [hmk2.cell]; rfl
          have fm1 := hmk2.frozen 1
          have hMl2 := hmk2.lt
          have hwB : ∀ k, (Value.slice wa nw wcap).ownBlock = some k → B1 ≤ k := fun k hk => (hwk.lt k hk).1
          have u2 : Upd (w.setCell ⟨gc, i * 2 + 1, none⟩ (.bool true)) w2 (fun k => (Value.slice wa nw wcap).ownBlock = some k) := ((Upd.refl _ _).alloc _).grown hgrow2 (fun k e => e)
          have u3 := setc_upd w2 M 1 (.slice (some ⟨gq, 0, none⟩) (nw + 1) capq)
          have U : Upd w (w2.setCell ⟨M, 1, none⟩ (.slice (some ⟨gq, 0, none⟩) (nw + 1) capq)) (fun k => k = gc ∨ (Value.slice wa nw wcap).ownBlock = some k ∨ k = M) :=
            ((u1.mono fun k _ e => .inl e).trans (u2.mono fun k _ e => .inr (.inl e))).trans (u3.mono fun k _ e => .inr (.inr e))
          have hfar : ∀ {v : Value} {m : Nat} {xs : List Value}, w.ownsRow B 3 1 v m xs → (∀ g, v.ownBlock = some g → g < B1) → (w2.setCell ⟨M, 1, none⟩ (.slice (some ⟨gq, 0, none⟩) (nw + 1) capq)).ownsRow B 3 1 v m xs := by
            intro v m xs hv hlt
            refine U.own hv (fun k hk e => ?_)
            rcases e with rfl | e | rfl
            · rcases own_ne hv HCL.out (by decide) with q | q
              · rw [q] at hk; cases hk
              · exact q (by rw [hk]; rfl)
            · have := hwB k e; have := hlt k hk; omega
            · exact own_blk_ne hv H.out.mkb (by decide) hk
          have hcs2 := u3.own (u2.own HST.out.1 (fun k hk e => by
            have hk' : some gc = some k := hk
            cases hk'
            rcases own_ne HMK.out.2.2 HST.out.1 (by decide) with q | q
            · rw [q] at e; cases e
            · exact q (by rw [e]; rfl))) (fun k hk e => by
            have hk' : some gc = some k := hk
            cases hk'
            exact hgM e)
          have hrp : reachP (cs, work) ((i : Int) + 1) = (cs.set i (some N, true), work ++ [(i : Int) + 1]) := by
            unfold reachP
            rw [HD.out]
            simp only [Option.isSome_some, Bool.not_false, Bool.and_self, if_true]
            rw [show ((i : Int) + 1 - 1).toNat = i by omega, HCc.out]
          have hblkA := U.blk H.out.ar.blk (fun e => by
            rcases e with e | e | e
            · exact hgA e.symm
            · exact own_blk_ne H.out.work H.out.ar.blk (by decide) (by rw [HNW.out]; exact e)
            · exact (H.out.ar.blk.ne_ H.out.mkb (by decide)) e)
          have hprs := U.own H.out.prs (fun k hk e => by
            rcases e with rfl | e | rfl
            · rcases own_ne H.out.prs HCL.out (by decide) with q | q
              · rw [q] at hk; cases hk
              · exact q (by rw [hk]; rfl)
            · rcases own_ne H.out.prs H.out.work (by decide) with q | q
              · rw [q] at hk; cases hk
              · exact q (by rw [hk, HNW.out, e])
            · exact own_blk_ne H.out.prs H.out.mkb (by decide) hk)
          have hMS : MkS (w2.setCell ⟨M, 1, none⟩ (.slice (some ⟨gq, 0, none⟩) (nw + 1) capq)) A B M B1 (.slice (some ⟨gc, 0, none⟩) cs.length cap) fv rv (.slice (some ⟨gq, 0, none⟩) (nw + 1) capq) pv (reachP (cs, work) ((i : Int) + 1)).1 fr ro live (reachP (cs, work) ((i : Int) + 1)).2 prs := by
            rw [hrp]
            refine ⟨⟨hblkA, ?_, hfar H.out.ar.free H.out.fvB, hfar H.out.ar.roots H.out.rvB, H.out.ar.apart⟩, hmk2.set_ 1 _, ?_, hprs, H.out.fvB, H.out.rvB⟩
            · rw [List.length_set, HN.out]
              have e := clCells_set_mark cs i true
              rw [HCc.out] at e
              rw [← e]
              exact hcs2
            · rw [List.length_append, HNW.out, numCells_append]
              exact own_set hown2 hmk2 (by decide) 1 _
          have hUp : Upd w (w2.setCell ⟨M, 1, none⟩ (.slice (some ⟨gq, 0, none⟩) (nw + 1) capq)) (fun k => (Value.slice (some ⟨gc, 0, none⟩) cs.length cap).ownBlock = some k ∨ k = M ∨ (Value.slice wa work.length wcap).ownBlock = some k) := U.mono fun k _ e => by
            rcases e with rfl | e | rfl
            · exact .inl rfl
            · exact .inr (.inr (by rw [HNW.out]; exact e))
            · exact .inr (.inl rfl)
          have hKO : KeepsOthers w (w2.setCell ⟨M, 1, none⟩ (.slice (some ⟨gq, 0, none⟩) (nw + 1) capq)) :=
            (((KeepsOthers.setCell w _ _).trans (KeepsOthers.alloc _ _)).trans (KeepsOthers.of_grownBy hgrow2 (fun j o hj ho => by
              obtain ⟨c1, f1, h1⟩ := own_kind (hwk.alloc (.cells #[.int .i64 ((i : Int) + 1)] 3)) j hj.symm.symm
              rw [h1] at ho; cases ho; rfl))).trans (KeepsOthers.setCell _ _ _)
          have hNV : ∀ g, (Value.slice (some ⟨gq, 0, none⟩) (nw + 1) capq).ownBlock = some g → (Value.slice wa work.length wcap).ownBlock = some g ∨ w.heap.size ≤ g := fun g hg => by
            obtain rfl : gq = g := by simpa [Value.ownBlock] using hg
            rcases hat2 with q | q
            · exact .inl (by rw [HNW.out]; exact q)
            · exact .inr (by omega)
          have HF := Lib.hid (And.intro hMS (And.intro hUp (And.intro hKO hNV)))
          clear hMS hUp hKO hNV hprs hblkA hrp hcs2 U u1 u2 u3 hown2 hgrow2 hat2 hlt2 hwk hwB hmk2 hnews m0' m1 m1w
          go_wp2
          go_ret
          first | exact ⟨rfl, _, HF.out.1, HF.out.2.1, HF.out.2.2⟩ | exact ⟨rfl, ⟨_, HF.out.1⟩, HF.out.2.1, HF.out.2.2⟩
        · have hs := Lib.hid (HS.out (by rw [HD.out]; rfl))
          go_enter Tryd.func47, Tryd.ntmps47
          go_wp2
          go_ret
          first | exact ⟨rfl, hs.out⟩ | (obtain ⟨x, p, q⟩ := hs.out; exact ⟨rfl, ⟨x, p⟩, q⟩)
    · have L2 : decide (r ≤ (n : Int)) = false := by simpa using h2
      have hs := Lib.hid (HS.out (deadP_far cs r (.inr (by rw [hn]; omega))))
      clear hcl hn
      go_enter Tryd.func47, Tryd.ntmps47
      go_wp2
      go_ret
      first | exact ⟨rfl, hs.out⟩ | (obtain ⟨x, p, q⟩ := hs.out; exact ⟨rfl, ⟨x, p⟩, q⟩)
  · have L1 : decide ((1 : Int) ≤ r) = false := by simpa using h1
    have hs := Lib.hid (HS.out (deadP_far cs r (.inl (by omega))))
    clear hcl hn
    go_enter Tryd.func47, Tryd.ntmps47
    go_wp2
    go_ret
    first | exact ⟨rfl, hs.out⟩ | (obtain ⟨x, p, q⟩ := hs.out; exact ⟨rfl, ⟨x, p⟩, q⟩)

set_option maxHeartbeats 1000000 in
/-- Push: numbers that lie somewhere. -/
theorem push_any {w : World} {A B : Nat} {cv fv rv : Value} {cs : List Cell} {fr ro : List Int} {live : Int} (xs : List Int) (ad : Addr) (c : Nat) (h : Ar w A B cv fv rv cs fr ro live) (hm : 0 < xs.length) (hn : ∀ j u, (numCells xs)[j]? = some u → w.cell? (ad.add j) = some u) (hro : ro.length ≤ 1000000) (hxs : xs.length ≤ 1000000) (hB : B ≤ w.heap.size) :
    Calls Tryd.prog 26 #[.pointer (some ⟨A, 0, none⟩), .slice (some ad) xs.length c] w fun e w' => (∃ v, e = .returned v) ∧
      ∃ rv', Ar w' A B cv fv rv' cs fr (ro ++ xs) live ∧ Upd w w' (fun k => k = A ∨ rv.ownBlock = some k) ∧ (∀ g, rv'.ownBlock = some g → rv.ownBlock = some g ∨ w.heap.size ≤ g) := by
  obtain ⟨i0, hi, hz0, hz1, hz2⟩ := info_parts infoInt
  have hown := h.roots
  have hblk := h.blk
  obtain ⟨ra, rcap, rfl, _⟩ := own_shape h.roots
  have x2 : w.cell? ⟨A, 2, none⟩ = some (.slice ra ro.length rcap) := by rw [hblk.cell]; rfl
  have z2 := hblk.frozen 2
  have hAl := hblk.lt
  obtain ⟨n, hnn⟩ : ∃ n, ro.length = n := ⟨_, rfl⟩
  obtain ⟨m, hmm⟩ : ∃ m, xs.length = m := ⟨_, rfl⟩
  rw [hnn] at x2 hown hro
  rw [hmm] at hm hxs ⊢
  have HN := Lib.hid (And.intro hnn hmm)
  have HH := Lib.hid h
  have HW := Lib.hid hn
  clear hblk h hnn hmm hn
  go_enter Tryd.func26, Tryd.ntmps26
  go_wp2_with (at_builtin; refine wpList_append_lies _ rfl _ _ 22 rfl B 3 i0 (.int .i64 0) 1 8 Tryd.underlying22 hi hz0 hz1 hz2 rfl (by decide) _ _ _ rfl hown ad m c (numCells xs) rfl (by rw [Nat.mul_one, ← HN.out.2]; simp [numCells]) HW.out (by intro u hu; obtain ⟨x, _, rfl⟩ := List.mem_map.1 hu; rfl) hm (by unfold maxLen; omega) (by omega) hB _ rfl ?_)
  intro gq capq w2 hown2 hgrow2 hat2 hlt2
  have hbk := Blk.grown HH.out.blk hgrow2 (fun e => own_blk_ne hown HH.out.blk (by decide) e.symm)
  have x2' : w2.cell? ⟨A, 2, none⟩ = some (.slice ra n rcap) := by rw [hbk.cell, ← HN.out.1]; rfl
  have f2 := hbk.frozen 2
  have l2 := hbk.lt
  have hFin : Ar (w2.setCell ⟨A, 2, none⟩ (.slice (some ⟨gq, 0, none⟩) (n + m) capq)) A B cv fv (.slice (some ⟨gq, 0, none⟩) (n + m) capq) cs fr (ro ++ xs) live ∧ Upd w (w2.setCell ⟨A, 2, none⟩ (.slice (some ⟨gq, 0, none⟩) (n + m) capq)) (fun k => k = A ∨ (Value.slice ra ro.length rcap).ownBlock = some k) ∧
      (∀ g, (Value.slice (some ⟨gq, 0, none⟩) (n + m) capq).ownBlock = some g → (Value.slice ra ro.length rcap).ownBlock = some g ∨ w.heap.size ≤ g) := by
    rw [HN.out.1]
    have hgq : ∀ g, (Value.slice (some ⟨gq, 0, none⟩) (n + m) capq).ownBlock = some g → (Value.slice ra n rcap).ownBlock = some g ∨ w.heap.size ≤ g := fun g hg => by
      obtain rfl : gq = g := by simpa [Value.ownBlock] using hg
      rcases hat2 with q | q
      · exact .inl q
      · exact .inr (by omega)
    have far : ∀ {t : TypeId} {s k : Nat} {v : Value} {ys : List Value}, w.ownsRow B t s v k ys → t ≠ 100 → (v.ownBlock = none ∨ v.ownBlock ≠ (Value.slice ra n rcap).ownBlock) → (w2.setCell ⟨A, 2, none⟩ (.slice (some ⟨gq, 0, none⟩) (n + m) capq)).ownsRow B t s v k ys := fun hv ht hne => own_set (hv.kept hgrow2 hne) hbk ht 2 _
    have hap := HH.out.apart
    rw [HN.out.1] at hap
    refine ⟨⟨hbk.set_ 2 _, far HH.out.cells (by decide) (own_ne HH.out.cells hown (by decide)), far HH.out.free (by decide) ?_, ?_, fun g hg hg2 => ?_⟩, (((Upd.refl w _).grown hgrow2 (fun k e => .inr e)).set A 2 _ (.inl rfl)), hgq⟩
    · cases hfo : fv.ownBlock with
      | none => exact .inl rfl
      | some g => exact .inr (fun e => hap g hfo e.symm)
    · rw [List.length_append, HN.out.1, HN.out.2, numCells_append]
      exact own_set hown2 hbk (by decide) 2 _
    · rcases hgq g hg2 with q | q
      · exact hap g hg q
      · exact absurd (HH.out.free.lt g hg).2 (Nat.not_lt_of_le q)
  have HF := Lib.hid hFin
  clear hFin hgrow2 hat2 hlt2 hown2 hown hbk
  go_wp2
  go_end0
  exact ⟨⟨_, rfl⟩, _, HF.out⟩

end Go.Proofs.YtmimnaaofpkndaaDoor.Hp
