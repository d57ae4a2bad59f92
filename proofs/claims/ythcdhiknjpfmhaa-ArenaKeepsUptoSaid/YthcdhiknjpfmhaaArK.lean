/- The arena: drain. -/
import Derived.Test.YthcdhiknjpfmhaaArJ
import Derived.StillTailTactics
set_option linter.unusedVariables false
set_option linter.unusedSimpArgs false
namespace Go.Proofs.Ythcdhiknjpfmhaa
open Go.RowKit Go.Shelf
attribute [local go_sem] Oper.semAt_some

theorem snoc_cases {α : Type} (l : List α) : l = [] ∨ ∃ m x, l = m ++ [x] := by
  rcases List.eq_nil_or_concat l with h | ⟨m, x, h⟩
  · exact .inl h
  · exact .inr ⟨m, x, by rw [h, List.concat_eq_append]⟩
theorem own_cap {w : World} {B size n cap g : Nat} {t : TypeId} {xs : List Value} (h : w.ownsRow B t size (.slice (some ⟨g, 0, none⟩) n cap) n xs) : n ≤ cap ∧ cap ≤ maxLen := by
  rcases h.2 with ⟨h', _⟩ | ⟨g', cap', cur, h', hb, hg, hnc, hcm, hcs, htake⟩
  · simp at h'
  · simp only [Value.slice.injEq, Option.some.injEq, Addr.mk.injEq, and_true, true_and] at h'
    obtain ⟨rfl, rfl⟩ := h'
    exact ⟨hnc, hcm⟩
theorem still_tail {P : Program} {id : Nat} {Q : Exit → Act → World → Prop} {a : Act} {w : World} {l : List Oper} (n : Nat) (hm : P.follows .mixedOrders = true) (hB : Region.lexTailB .any l.toArray n = true)
    (h : ∀ W, W = w.drewN 1 → wpStill P l.toArray W (fun a' => wpList P l.toArray Q (l.drop n) a' W) (l.take n) a) : (Code.region id l.toArray true).wp P Q a w := wp_region_still_tail n hm hB (h _ rfl)
/-- What follows as a variable. -/
theorem wp_var {P : Program} {c : Code} {Q : Exit → Act → World → Prop} {a : Act} {w : World} (h : ∀ K : Act → World → Prop, RowKit.Hid (∀ a w, Q .normal a w → K a w) → c.wp P (Exit.then K (fun _ _ _ => False)) a w) : c.wp P Q a w :=
  wp_mono (h (Q .normal) (Lib.hid fun _ _ h => h)) fun e a w hq => by
    cases e <;> first | exact hq | exact hq.elim
section
variable {w0 w1 W W' : World} {A B M B1 bx : Nat} {cv fv rv : Value} {fr ro : List Int} {live : Int} {Ds : List Nat} {cs : List Cell} {wk : List Int} {pr : List Nat}
theorem DrI.start {w0 w : World} {wv pv : Value} (h : MkS w A B M B1 cv fv rv wv pv cs fr ro live wk pr) (hu : Upd w0 w (fun k => cv.ownBlock = some k ∨ B1 ≤ k)) (hB1 : B1 ≤ w.heap.size) (x : Value) (hx : x = .pointer (some ⟨M, 0, none⟩)) :
    DrI w0 w A B M B1 w.heap.size cv fv rv fr ro live [] cs wk pr (w.alloc (.cells #[x] 67)) := by
  subst hx
  exact ⟨⟨wv, pv, ⟨⟨h.ar.blk.alloc _, h.ar.cells.alloc _, h.ar.free.alloc _, h.ar.roots.alloc _, h.ar.apart⟩, h.mkb.alloc _, h.work.alloc _, h.prs.alloc _, h.fvB, h.rvB⟩⟩, hu.alloc _, KeepsOthers.alloc _ _, Blk.new _ _ _, fun D hD => (List.not_mem_nil hD).elim, List.nodup_nil, fun g xs hb => hb.alloc _⟩
theorem DrI.turn (h : DrI w0 w1 A B M B1 bx cv fv rv fr ro live Ds cs wk pr W) {cs' : List Cell} {wk' : List Int} {pr' : List Nat} {P : Nat → Prop} (hM : ∃ wv pv, MkS W' A B M B1 cv fv rv wv pv cs' fr ro live wk' pr') (hU : Upd W W' P) (hP : ∀ k, P k → cv.ownBlock = some k ∨ B1 ≤ k) (hb : ∀ g xs, Blk W g 67 xs → ¬ P g) (hK : KeepsOthers W W') :
    DrI w0 w1 A B M B1 bx cv fv rv fr ro live Ds cs' wk' pr' W' :=
  ⟨hM, h.upd.trans (hU.mono fun k _ e => hP k e), h.ko.trans hK, hU.blk h.box (hb _ _ h.box), fun D hD => ⟨(h.ds D hD).1, hK.same _ _ (h.ds D hD).2 rfl⟩, h.nd, fun g xs h0 => hU.blk (h.kb g xs h0) (hb g xs (h.kb g xs h0))⟩
theorem DrI.mark (h : DrI w0 w1 A B M B1 bx cv fv rv fr ro live Ds cs wk pr W) {D b : Nat} (hb : w1.heap.size ≤ b) (hD : b ≤ D) (hDs : ∀ E ∈ Ds, E < b) (hk : W.heap[D]? = some (.deferred (some []))) : DrI w0 w1 A B M B1 bx cv fv rv fr ro live (D :: Ds) cs wk pr W :=
  ⟨h.mks, h.upd, h.ko, h.box, fun E hE => by
    rcases List.mem_cons.1 hE with rfl | hE
    · exact ⟨by omega, hk⟩
    · exact h.ds E hE, List.nodup_cons.2 ⟨fun hm => by have := hDs D hm; omega, h.nd⟩, h.kb⟩
theorem MkS.pop {wv pv : Value} {r : Int} (h : MkS W A B M B1 cv fv rv wv pv cs fr ro live (wk ++ [r]) pr) {g cap : Nat} (hv : wv = .slice (some ⟨g, 0, none⟩) (wk ++ [r]).length cap) :
    MkS (W.setCell ⟨M, 1, none⟩ (.slice (some ⟨g, 0, none⟩) wk.length cap)) A B M B1 cv fv rv (.slice (some ⟨g, 0, none⟩) wk.length cap) pv cs fr ro live wk pr := by
  subst hv
  have hA : A ≠ M := h.ar.blk.ne_ h.mkb (by decide)
  refine ⟨⟨h.ar.blk.far hA _, own_set h.ar.cells h.mkb (by decide) 1 _, own_set h.ar.free h.mkb (by decide) 1 _, own_set h.ar.roots h.mkb (by decide) 1 _, h.ar.apart⟩, h.mkb.set_ 1 _, ?_, own_set h.prs h.mkb (by decide) 1 _, h.fvB, h.rvB⟩
  have h2 := own_set (own_take h.work wk.length (by simp)) h.mkb (by decide) 1 (.slice (some ⟨g, 0, none⟩) wk.length cap)
  have e : (numCells (wk ++ [r])).take (wk.length * 1) = numCells wk := by rw [numCells_append, Nat.mul_one, List.take_append_of_le_length (by simp [numCells]), List.take_of_length_le (by simp [numCells])]
  rw [e] at h2
  exact h2
theorem MkS.push {wv : Value} {pa : Option Addr} {pcap gq capq N : Nat} {w2 : World} {o : Obj} (h : MkS W A B M B1 cv fv rv wv (.slice pa pr.length pcap) cs fr ro live wk pr) (hg : (W.alloc o).grownBy w2 (Value.slice pa pr.length pcap).ownBlock)
    (ho : w2.ownsRow B1 72 1 (.slice (some ⟨gq, 0, none⟩) (pr.length + 1) capq) (pr.length + 1) (pvCells pr ++ [.iface 27 (.pointer (some ⟨N, 0, none⟩))])) :
    MkS (w2.setCell ⟨M, 2, none⟩ (.slice (some ⟨gq, 0, none⟩) (pr.length + 1) capq)) A B M B1 cv fv rv wv (.slice (some ⟨gq, 0, none⟩) (pr.length + 1) capq) cs fr ro live wk (pr ++ [N]) ∧
    Upd W (w2.setCell ⟨M, 2, none⟩ (.slice (some ⟨gq, 0, none⟩) (pr.length + 1) capq)) (fun k => (Value.slice pa pr.length pcap).ownBlock = some k ∨ k = M) ∧ KeepsOthers W (w2.setCell ⟨M, 2, none⟩ (.slice (some ⟨gq, 0, none⟩) (pr.length + 1) capq)) := by
  have hA : A ≠ M := h.ar.blk.ne_ h.mkb (by decide)
  have hmk2 := Blk.grown (h.mkb.alloc o) hg (fun e => own_blk h.prs h.mkb (by decide) e.symm)
  have U : Upd W (w2.setCell ⟨M, 2, none⟩ (.slice (some ⟨gq, 0, none⟩) (pr.length + 1) capq)) (fun k => (Value.slice pa pr.length pcap).ownBlock = some k ∨ k = M) :=
    (((Upd.refl W _).alloc o).grown hg (fun k e => .inl e)).set M 2 _ (.inr rfl)
  have far : ∀ {B' n : Nat} {t : TypeId} {s : Nat} {v : Value} {xs : List Value}, W.ownsRow B' t s v n xs → t ≠ 72 → t ≠ 70 → (w2.setCell ⟨M, 2, none⟩ (.slice (some ⟨gq, 0, none⟩) (pr.length + 1) capq)).ownsRow B' t s v n xs := by
    intro B' n t s v xs hv ht1 ht2
    refine U.own hv (fun k hk e => ?_)
    rcases e with e | rfl
    · rcases own_ne hv h.prs ht1 with q | q
      · rw [q] at hk; cases hk
      · exact q (by rw [hk, e])
    · exact own_blk hv h.mkb ht2 hk
  refine ⟨⟨⟨U.blk h.ar.blk (fun e => ?_), far h.ar.cells (by decide) (by decide), far h.ar.free (by decide) (by decide), far h.ar.roots (by decide) (by decide), h.ar.apart⟩, hmk2.set_ 2 _, far h.work (by decide) (by decide), ?_, h.fvB, h.rvB⟩, U, ?_⟩
  · rcases e with e | e
    · exact own_blk h.prs h.ar.blk (by decide) e
    · exact hA e
  · rw [List.length_append, show pvCells (pr ++ [N]) = pvCells pr ++ [.iface 27 (.pointer (some ⟨N, 0, none⟩))] by simp [pvCells, bodyV]]
    exact own_set ho hmk2 (by decide) 2 _
  · refine ((KeepsOthers.alloc W o).trans (KeepsOthers.of_grownBy hg (fun j o' hj ho' => ?_))).trans (KeepsOthers.setCell _ _ _)
    obtain ⟨c1, f1, h1⟩ := own_kind (h.prs.alloc o) j hj.symm.symm
    rw [h1] at ho'; cases ho'; rfl
theorem MkS.mid {wv pv : Value} {w2 : World} {o : Obj} {row : Option Nat} (h : MkS W A B M B1 cv fv rv wv pv cs fr ro live wk pr) (hg : (W.alloc o).grownBy w2 row) (hr : row = pv.ownBlock) : w2.cell? ⟨M, 2, none⟩ = some pv ∧ w2.frozen? ⟨M, 2, none⟩ = false ∧ M < w2.heap.size := by
  subst hr
  have hmk2 := Blk.grown (h.mkb.alloc o) hg (fun e => own_blk h.prs h.mkb (by decide) e.symm)
  exact ⟨by rw [hmk2.cell]; rfl, hmk2.frozen 2, hmk2.lt⟩
theorem box_mid {wv pv : Value} {w2 : World} {o : Obj} {row : Option Nat} {bx : Nat} {x : Value} (h : MkS W A B M B1 cv fv rv wv pv cs fr ro live wk pr) (hb : Blk W bx 67 #[x]) (hg : (W.alloc o).grownBy w2 row) (hr : row = pv.ownBlock) : w2.cell? ⟨bx, 0, none⟩ = some x := by
  subst hr
  rw [(Blk.grown (hb.alloc o) hg (fun e => own_blk h.prs hb (by decide) e.symm)).cell]; rfl
theorem DrI.noDs (h : DrI w0 w1 A B M B1 bx cv fv rv fr ro live Ds cs wk pr W) : DrI w0 w1 A B M B1 bx cv fv rv fr ro live [] cs wk pr W :=
  ⟨h.mks, h.upd, h.ko, h.box, fun D hD => (List.not_mem_nil hD).elim, List.nodup_nil, h.kb⟩
theorem MkS.drewN {wv pv : Value} (h : MkS W A B M B1 cv fv rv wv pv cs fr ro live wk pr) (n : Nat) : MkS (W.drewN n) A B M B1 cv fv rv wv pv cs fr ro live wk pr :=
  ⟨⟨h.ar.blk, h.ar.cells, h.ar.free, h.ar.roots, h.ar.apart⟩, h.mkb, h.work, h.prs, h.fvB, h.rvB⟩
theorem DrI.drewN (h : DrI w0 w1 A B M B1 bx cv fv rv fr ro live Ds cs wk pr W) (n : Nat) : DrI w0 w1 A B M B1 bx cv fv rv fr ro live Ds cs wk pr (W.drewN n) := by
  obtain ⟨wv, pv, hm⟩ := h.mks
  exact h.turn ⟨wv, pv, hm.drewN n⟩ ((Upd.refl W (fun _ => False)).drewN n) (fun k e => e.elim) (fun _ _ _ e => e) ⟨Nat.le_refl _, fun _ _ h _ => h⟩
theorem MkS.f0 {wv pv : Value} (h : MkS W A B M B1 cv fv rv wv pv cs fr ro live wk pr) : W.cell? ⟨M, 0, none⟩ = some (.pointer (some ⟨A, 0, none⟩)) := by rw [h.mkb.cell]; rfl
theorem MkS.f1 {wv pv : Value} (h : MkS W A B M B1 cv fv rv wv pv cs fr ro live wk pr) : W.cell? ⟨M, 1, none⟩ = some wv := by rw [h.mkb.cell]; rfl
theorem MkS.f2 {wv pv : Value} (h : MkS W A B M B1 cv fv rv wv pv cs fr ro live wk pr) : W.cell? ⟨M, 2, none⟩ = some pv := by rw [h.mkb.cell]; rfl
theorem MkS.fc {wv pv : Value} (h : MkS W A B M B1 cv fv rv wv pv cs fr ro live wk pr) : W.cell? ⟨A, 0, none⟩ = some cv := by rw [h.ar.blk.cell]; rfl
theorem DrI.fb (h : DrI w0 w1 A B M B1 bx cv fv rv fr ro live Ds cs wk pr W) : W.cell? ⟨bx, 0, none⟩ = some (.pointer (some ⟨M, 0, none⟩)) := by rw [h.box.cell]; rfl
theorem MkS.body {wv pv : Value} {gc cap i N : Nat} (h : MkS W A B M B1 cv fv rv wv pv cs fr ro live wk pr) (hv : cv = .slice (some ⟨gc, 0, none⟩) cs.length cap) (hi : i < cs.length) (hb : (cs.getD i (none, false)).1 = some N) : W.cell? ⟨gc, i * 2, none⟩ = some (.iface 27 (.pointer (some ⟨N, 0, none⟩))) := by
  subst hv
  have := (h.ar.cells.cellAt (i * 2) (show i * 2 < cs.length * 2 by omega)).trans (clCells_get cs i hi).1
  rw [hb] at this
  exact this
theorem DrI.ne (h : DrI w0 w1 A B M B1 bx cv fv rv fr ro live Ds cs wk pr W) : M ≠ bx := by
  obtain ⟨wv, pv, hm⟩ := h.mks
  exact hm.mkb.ne_ h.box (by decide)
end
/-- Whatever lies in the temporaries. -/
theorem tmps72 {a b : Value} {d : List Deferred} {G : Prop} {u2 u3 u4 u5 u6 u7 u8 u9 u10 u11 u12 u13 u14 u15 u16 u17 u18 u19 u20 u21 u22 u23 u24 u25 u26 u27 u28 u29 u30 u31 u32 u33 u34 u35 u36 u37 u38 u39 u40 u41 u42 u43 u44 u45 u46 u47 u48 u49 u50 u51 u52 u53 u54 u55 u56 u57 u58 u59 u60 u61 u62 u63 u64 u65 u66 u67 u68 u69 u70 u71 u72 u73 : Value} (h : ∀ t : Nat → Value, (⟨#[a, b, u2, u3, u4, u5, u6, u7, u8, u9, u10, u11, u12, u13, u14, u15, u16, u17, u18, u19, u20, u21, u22, u23, u24, u25, u26, u27, u28, u29, u30, u31, u32, u33, u34, u35, u36, u37, u38, u39, u40, u41, u42, u43, u44, u45, u46, u47, u48, u49, u50, u51, u52, u53, u54, u55, u56, u57, u58, u59, u60, u61, u62, u63, u64, u65, u66, u67, u68, u69, u70, u71, u72, u73], d⟩ : Act) = ⟨#[a, b, t 2, t 3, t 4, t 5, t 6, t 7, t 8, t 9, t 10, t 11, t 12, t 13, t 14, t 15, t 16, t 17, t 18, t 19, t 20, t 21, t 22, t 23, t 24, t 25, t 26, t 27, t 28, t 29, t 30, t 31, t 32, t 33, t 34, t 35, t 36, t 37, t 38, t 39, t 40, t 41, t 42, t 43, t 44, t 45, t 46, t 47, t 48, t 49, t 50, t 51, t 52, t 53, t 54, t 55, t 56, t 57, t 58, t 59, t 60, t 61, t 62, t 63, t 64, t 65, t 66, t 67, t 68, t 69, t 70, t 71, t 72, t 73], d⟩ → G) : G := h (fun i => [u2, u3, u4, u5, u6, u7, u8, u9, u10, u11, u12, u13, u14, u15, u16, u17, u18, u19, u20, u21, u22, u23, u24, u25, u26, u27, u28, u29, u30, u31, u32, u33, u34, u35, u36, u37, u38, u39, u40, u41, u42, u43, u44, u45, u46, u47, u48, u49, u50, u51, u52, u53, u54, u55, u56, u57, u58, u59, u60, u61, u62, u63, u64, u65, u66, u67, u68, u69, u70, u71, u72, u73].getD (i - 2) undef) rfl
set_option maxHeartbeats 2000000 in
set_option maxRecDepth 100000 in
theorem drain_any {w0 w : World} {A B M B1 : Nat} {cv fv rv wv pv : Value} {cs : List Cell} {fr ro : List Int} {live : Int} {wk : List Int} {pr : List Nat} (D : Nds) (h : MkS w A B M B1 cv fv rv wv pv cs fr ro live wk pr) (hu : Upd w0 w (fun k => cv.ownBlock = some k ∨ B1 ≤ k))
    (hN : ∀ i N, (cs.getD i (none, false)).1 = some N → NdR w0 B1 cv D N) (hok : WorkOk cs wk) (hM : B1 ≤ M) (hB1 : B1 ≤ w.heap.size) (hl : cs.length ≤ 1000000) (hwk : wk.length ≤ 1000000) (hpr : pr.length ≤ 1000000) (f : Nat) (hf : wk.length + (cs.length - mc cs) ≤ f) :
    Calls Try.prog 27 #[.pointer (some ⟨M, 0, none⟩)] w fun e w' => (∃ v, e = .returned v) ∧
      ∃ wv' pv', MkS w' A B M B1 cv fv rv wv' pv' (drainP D.to_ f cs wk pr).1 fr ro live [] (drainP D.to_ f cs wk pr).2 ∧ Upd w0 w' (fun k => cv.ownBlock = some k ∨ B1 ≤ k) ∧ KeepsOthers w w' ∧ (∀ g xs, Blk w g 67 xs → Blk w' g 67 xs) := by
  obtain ⟨X, hX⟩ : ∃ X, drainP D.to_ f cs wk pr = X := ⟨_, rfl⟩
  obtain ⟨nl, hnl⟩ : ∃ nl, cs.length = nl := ⟨_, rfl⟩
  obtain ⟨K, hK⟩ : ∃ K, pr.length + wk.length + nl - mc cs = K := ⟨_, rfl⟩
  have hmc := mc_le cs
  rw [hX]
  have hst := DrI.start h hu hB1 _ rfl
  obtain ⟨i0, hi, hz0, hz1, hz2⟩ := info_parts infoPairs
  have q1 := methodEach
  have q2 := isPairs
  refine calls_of_wp_marks Try.func27 rfl ?_
  simp only [Try.ntmps27, List.size_toArray, List.length_cons, List.length_nil, Nat.reduceAdd, Nat.reduceSub, Array.replicate_succ, Array.replicate_zero, List.push_toArray, List.append_toArray, List.nil_append, List.cons_append]
  go_wp2_with (fail)
  refine wp_loop (fun a W => ∃ t : Nat → Value, ∃ Ds cs1 wk1 pr1 f1, DrI w0 w A B M B1 w.heap.size cv fv rv fr ro live Ds cs1 wk1 pr1 W ∧ drainP D.to_ f1 cs1 wk1 pr1 = X ∧ WorkOk cs1 wk1 ∧ (wk1.length + (nl - mc cs1) ≤ f1 ∧ cs1.length = nl ∧ pr1.length + wk1.length + nl = K + mc cs1 ∧ (∀ i, (cs1.getD i (none, false)).1 = (cs.getD i (none, false)).1)) ∧
    a = ⟨#[.pointer (some ⟨M, 0, none⟩), .pointer (some ⟨w.heap.size, 0, none⟩), t 2, t 3, t 4, t 5, t 6, t 7, t 8, t 9, t 10, t 11, t 12, t 13, t 14, t 15, t 16, t 17, t 18, t 19, t 20, t 21, t 22, t 23, t 24, t 25, t 26, t 27, t 28, t 29, t 30, t 31, t 32, t 33, t 34, t 35, t 36, t 37, t 38, t 39, t 40, t 41, t 42, t 43, t 44, t 45, t 46, t 47, t 48, t 49, t 50, t 51, t 52, t 53, t 54, t 55, t 56, t 57, t 58, t 59, t 60, t 61, t 62, t 63, t 64, t 65, t 66, t 67, t 68, t 69, t 70, t 71, t 72, t 73], Ds.map markD⟩) (fun _ W => K - prN W M) ?_ ?_
  · apply tmps72
    intro t ht
    exact ⟨t, [], cs, wk, pr, f, hst, hX, hok, ⟨by omega, hnl, by omega, fun _ => rfl⟩, ht⟩
  rintro a W ⟨t, Ds, cs1, wk1, pr1, f1, hI, hX1, hok1, ⟨hf1, hl1, hk1, hb1⟩, rfl⟩
  have hmc1 := mc_le cs1
  have y0 : W.cell? ⟨w.heap.size, 0, none⟩ = some (.pointer (some ⟨M, 0, none⟩)) := by rw [hI.box.cell]; rfl
  obtain ⟨wv1, pv1, hm1⟩ := hI.mks
  obtain ⟨wa, wcap, rfl, hwa⟩ := own_shape hm1.work
  have m1 : W.cell? ⟨M, 1, none⟩ = some (.slice wa wk1.length wcap) := by rw [hm1.mkb.cell]; rfl
  have hMl := hm1.mkb.lt
  rcases snoc_cases wk1 with rfl | ⟨wk2, r, rfl⟩
  · -- nothing is left
    have m1' : W.cell? ⟨M, 1, none⟩ = some (.slice wa 0 wcap) := m1
    clear m1 hwa
    have hX2 : X = (cs1, pr1) := by rw [← hX1]; cases f1 <;> rfl
    have HF := Lib.hid (And.intro hI hX2)
    clear hI hm1 hX1 hX hX2 hst h hok1 hok
    go_wp2_with (fail)
    refine leaves_marks (b := w.heap.size) (I := fun (_ : Unit) W2 => DrI w0 w A B M B1 w.heap.size cv fv rv fr ro live [] cs1 [] pr1 W2) ?_ ?_ Ds W HF.out.1.nd HF.out.1.ds HF.out.1.noDs
    · intro u W1 W2 row hI1 hg hr
      exact hI1.abide (Nat.le_refl _) hB1 (fun D hD => (List.not_mem_nil hD).elim) hg hr
    · intro W2 h2
      obtain ⟨wv2, pv2, hm2⟩ := h2.mks
      rw [HF.out.2]
      exact ⟨_, by first | exact results_none rfl _ _ _ | kernel_rfl | rfl, ⟨_, rfl⟩, wv2, pv2, hm2, h2.upd, h2.ko, h2.kb⟩
  have hlen : (wk2 ++ [r]).length = wk2.length + 1 := by simp
  clear hst
  rw [hlen] at m1 hwa
  obtain ⟨g, rfl⟩ := hwa (by omega)
  have hmp := hm1.pop rfl
  obtain ⟨i, N, rfl, hil, hbN⟩ := hok1 r (by simp)
  obtain ⟨ca, ccap, hcv, hca⟩ := own_shape hm1.ar.cells
  obtain ⟨gc, rfl⟩ := hca (by omega)
  subst hcv
  have c0 := (hm1.ar.cells.cellAt (i * 2) (show i * 2 < cs1.length * 2 by omega)).trans (clCells_get cs1 i hil).1
  rw [hbN] at c0
  have hNR := (hN i N (by rw [← hb1]; exact hbN))
  have hcap := own_cap hm1.work
  rw [hlen] at hcap
  have hwc := (hm1.work.cellAt wk2.length (show wk2.length < (wk2 ++ [(i : Int) + 1]).length * 1 by rw [hlen]; omega)).trans (numCells_get _ wk2.length (by rw [hlen]; omega))
  have hlast : (wk2 ++ [(i : Int) + 1]).getD wk2.length 0 = (i : Int) + 1 := by rw [List.getD_eq_getElem?_getD, List.getElem?_append_right (Nat.le_refl _), Nat.sub_self]; rfl
  rw [hlast] at hwc
  obtain ⟨nw, hnw⟩ : ∃ nw, wk2.length = nw := ⟨_, rfl⟩
  rw [hl1] at hil
  rw [hnw] at m1 hwc
  have hnwb : nw ≤ 100000000 := by rw [hlen, hnw] at hk1; omega
  have z8 : nw ≤ wcap := by rw [hnw] at hcap; omega
  have a1' : IntKind.i64.wrap ((nw : Int) + 1 - 1) = (nw : Int) := by rw [IntWalk.i64_in _ (by omega)]; omega
  have a1'' : IntKind.i64.wrap (nw : Int) = (nw : Int) := IntWalk.i64_in _ (by omega)
  have a2' : IntKind.i64.wrap (i : Int) = (i : Int) := IntWalk.i64_in _ (by omega)
  have z6' : (nw : Int) < (nw : Int) + 1 := by omega
  have e1 : (nw : Int) + 1 - 1 = (nw : Int) := by omega
  have e2 : (i : Int) + 1 - 1 = (i : Int) := by omega
  have L1 : decide ((0 : Int) < ((nw + 1 : Nat) : Int)) = true := by rw [decide_eq_true_eq]; omega
  have z2 : (0 : Int) ≤ (i : Int) := by omega
  have z3 : (i : Int) < (nl : Int) := by omega
  have z4 : (i : Int).toNat = i := by omega
  have z5 : (0 : Int) ≤ (nw : Int) := by omega
  have z7 : (nw : Int).toNat = nw := by omega
  have HI := Lib.hid hI
  have HM := Lib.hid hm1
  have HR := Lib.hid (And.intro hX1 (And.intro hok1 (And.intro hf1 (And.intro hk1 (And.intro hb1 (And.intro hbN hcap))))))
  have HN := Lib.hid hNR
  have HL := Lib.hid hnw
  have HO := Lib.hid (And.intro hN (And.intro hu (And.intro hf hK)))
  clear hcap hN hu hf hK
  clear hI hm1 hX1 hok1 hf1 hk1 hb1 hbN hNR hnw hlast hlen hX h hok
  go_wp2_with (fail)
  go_quiet (fail)
  go_wp2_with (fail)
  refine still_tail 12 (by kernel_rfl) (by kernel_rfl) (fun W2 hW2 => ?_)
  have hI2 := Lib.hid ((HI.out.drewN nq).drewN 1)
  have hm2 := Lib.hid ((HM.out.drewN nq).drewN 1)
  clear m1 y0 hwc
  rw [← hW2] at hI2 hm2
  clear hW2
  have y0 := hI2.out.fb
  have m1 := hm2.out.f1
  rw [show (wk2 ++ [(i : Int) + 1]).length = nw + 1 by simp [HL.out]] at m1
  simp only [List.take_succ_cons, List.take_zero, List.drop_succ_cons, List.drop_zero]
  repeat still_step
  refine wpStill_nil ?_
  have z1 := hm2.out.mkb.frozen 1
  have l1 := hm2.out.mkb.lt
  have hm4 := hm2.out.pop rfl
  have hI4 := hI2.out.turn ⟨_, _, hm4⟩ (set_upd W2 M 1 _) (fun k e => .inr (by rw [e]; exact hM)) (fun g' xs' hb' e => hm2.out.mkb.ne_ hb' (by decide) e.symm) (KeepsOthers.setCell W2 _ _)
  rw [HL.out] at hm4 hI4
  have y4 := hI4.fb
  have m4 := hm4.f0
  have x4 := hm4.fc
  have c4 := hm4.body rfl (by rw [hl1]; exact hil) HR.out.2.2.2.2.2.1
  rw [hl1] at x4
  have HI4 := Lib.hid hI4
  have HM4 := Lib.hid hm4
  clear hI4 hm4 hI2 hm2
  go_wp2_with (fail)
  obtain ⟨W4, hW4⟩ : ∃ W4, W2.setCell ⟨M, 1, none⟩ (.slice (some ⟨g, 0, none⟩) nw wcap) = W4 := ⟨_, rfl⟩
  rw [hW4] at HI4 HM4 ⊢
  clear hW4 y4 m4 x4 c4 y0 m1 hmp z1 l1
  have hB4 : B1 ≤ W4.heap.size := Nat.le_trans hB1 HI4.out.ko.size
  refine wpIn_wide.1 (wpIn_range_all (F := Fence.wide) (n := 9) rfl (by decide) (gf := 52) (argsOf := fun l => #[.pointer (some ⟨N, 0, none⟩), .func (.yield l) #[] #[]]) ?res (encs := fun x => #[.int .i64 x]) (fun _ => rfl) (D.to_ N)
    (fun pre W' => DrI w0 w A B M B1 w.heap.size (.slice (some ⟨gc, 0, none⟩) cs1.length ccap) fv rv fr ro live Ds (pre.foldl reachP (cs1, wk2)).1 (pre.foldl reachP (cs1, wk2)).2 pr1 W') ?own HI4.out ?act ?seq ?assign ?body ?done)
  case res => exact fun l W => ⟨({ target := .fn (.method "Each") #[], args := #[.iface 27 (.pointer (some ⟨N, 0, none⟩)), .func (.yield l) #[] #[]] } : Deferred), by kernel_rfl, fun _ _ => trivial, by kernel_rfl⟩
  case assign =>
    intro l x W K hK
    gi_wp2
    exact hK
  case own =>
    intro pre W1 W1' row hI1 hg hr
    exact hI1.abide HI4.out.ko.size hB4 (fun D hD => (Array.getElem?_eq_some_iff.1 (HI4.out.ds D hD).2).1) hg hr
  case seq =>
    intro l J W1 hJI hJd hJa hY h0
    have hto : ∀ pre V, J pre V → ToR V N (D.ta N) (D.tc N) (D.to_ N) := fun pre V hJ => (HN.out.upd (hJI pre V hJ).upd).toR
    exact each_in 8 (by decide) l N (D.ta N) (D.tc N) (D.to_ N) HN.out.toL J W1 hto hJd hY h0
  case body =>
    intro l pre x W1 hI1 hpre
    obtain ⟨wv5, pv5, hm5⟩ := hI1.mks
    have y5 := hI1.fb
    have hfl := foldl_len pre (cs1, wk2)
    have hfm := foldl_mc pre (cs1, wk2)
    have hfc := mc_le (pre.foldl reachP (cs1, wk2)).1
    have hcs5 : (pre.foldl reachP (cs1, wk2)).1.length ≤ 100000000 := by rw [hfl, hl1, ← hnl]; omega
    have hwk5 : (pre.foldl reachP (cs1, wk2)).2.length ≤ 100000000 := by
      rw [hfl] at hfc
      have := HR.out.2.2.2.1
      have h3 := HO.out.2.2.2
      simp only [List.length_append, List.length_cons, List.length_nil] at this hfm
      simp only at hfc
      omega
    have hrc := reach_any hm5 x hcs5 hwk5 hM (Nat.le_trans hB1 hI1.ko.size)
    have HI5 := Lib.hid hI1
    have HM5 := Lib.hid hm5
    clear hI1 hm5 hfl hfm hfc
    gi_wp2_with (fail)
    refine ⟨trivial, ?_⟩
    refine (CallsIn.inRound l (callsIn_wide.2 hrc)).mono ?_
    rintro e W6 ⟨rfl, wv6, hm6, hU6, hK6⟩
    gi_wp2
    refine ⟨hK6, ?_⟩
    have hsn : (pre ++ [x]).foldl reachP (cs1, wk2) = reachP (pre.foldl reachP (cs1, wk2)) x := by rw [List.foldl_append]; rfl
    dsimp only
    rw [hsn]
    refine HI5.out.turn ⟨_, _, hm6⟩ hU6 (fun k e => ?_) (fun g' xs' hb' e => ?_) hK6
    · rcases e with e | rfl | e
      · exact .inl e
      · exact .inr hM
      · exact .inr (HM5.out.work.lt k e).1
    · rcases e with e | e | e
      · exact own_blk HM5.out.ar.cells hb' (by decide) e
      · exact HM5.out.mkb.ne_ hb' (by decide) e.symm
      · exact own_blk HM5.out.work hb' (by decide) e
  case done =>
    intro D1 W5 hD1 hI1 hk1
    have hI5 := hI1.mark HI4.out.ko.size hD1 (fun D hD => (Array.getElem?_eq_some_iff.1 (HI4.out.ds D hD).2).1) hk1
    obtain ⟨wv5, pv5, hm5⟩ := hI5.mks
    have hfl := foldl_len (D.to_ N) (cs1, wk2)
    have hfm := foldl_mc (D.to_ N) (cs1, wk2)
    have hfc := mc_le ((D.to_ N).foldl reachP (cs1, wk2)).1
    have hfb := foldl_body (D.to_ N) (cs1, wk2)
    have hfo := foldl_ok (D.to_ N) (cs1, wk2)
    obtain ⟨s, hs⟩ : ∃ s, (D.to_ N).foldl reachP (cs1, wk2) = s := ⟨_, rfl⟩
    rw [hs] at hI5 hm5 hfl hfm hfc hfb hfo
    obtain ⟨cs5, wk5⟩ := s
    dsimp only at hI5 hm5 hfl hfm hfc hfb hfo
    clear hI1
    obtain ⟨pa, pcap, rfl, _⟩ := own_shape hm5.prs
    obtain ⟨np, hnp⟩ : ∃ np, pr1.length = np := ⟨_, rfl⟩
    have hB5 : B1 ≤ W5.heap.size := Nat.le_trans hB1 hI5.ko.size
    have y5 := hI5.fb
    have m5 := hm5.f2
    rw [hnp] at m5
    have z5' := hm5.mkb.frozen 2
    have l5 := hm5.mkb.lt
    have l6 := hI5.box.lt
    have hnpb : np ≤ 100000000 := by
      have := HR.out.2.2.2.1
      have h3 := HO.out.2.2.2
      simp only [List.length_append, List.length_cons, List.length_nil] at this
      omega
    have hpr5 := hm5.prs
    rw [hnp] at hpr5
    have hnews := World.news_of_block (cs := #[bodyV (some N)]) (t := 72) (fr := (0, 0)) (heap_alloc_new W5 (.cells #[bodyV (some N)] 72))
    simp only [bodyV] at hnews
    have HS := Lib.hid (And.intro hs (And.intro hfl (And.intro hfm (And.intro hfb hfo))))
    have HI5 := Lib.hid hI5
    have HM5 := Lib.hid hm5
    have HP := Lib.hid hnp
    clear hI5 hm5 hs hfl hfm hfb hfo hfc hnp
    go_wp2_with (fail)
    refine wp_var (fun K hKn => ?_)
    go_cut [] from 64 to 73 (fun wx => ∃ gq capq w1, (W5.alloc (.cells #[.iface 27 (.pointer (some ⟨N, 0, none⟩))] 72)).grownBy w1 (Value.slice pa np pcap).ownBlock ∧ w1.ownsRow B1 72 1 (.slice (some ⟨gq, 0, none⟩) (np + 1) capq) (np + 1) (pvCells pr1 ++ [.iface 27 (.pointer (some ⟨N, 0, none⟩))]) ∧ wx = w1.setCell ⟨M, 2, none⟩ (.slice (some ⟨gq, 0, none⟩) (np + 1) capq))
    case first =>
      go_region_law ((refine step_append_lies _ (by rfl) _ _ _ (by rfl) B1 72 i0 .nilIface 1 16 Try.underlying68 hi hz0 hz1 hz2 rfl (by omega) (.slice pa np pcap) np (pvCells pr1) (by rfl) ((hpr5.alloc _).drew) ⟨W5.heap.size, 0, none⟩ 1 1 [.iface 27 (.pointer (some ⟨N, 0, none⟩))] (by rfl) (by rfl) hnews (by simp [Value.oneCell']) (by omega) (by unfold maxLen; omega) (by omega) (by simp; omega) (W5.heap.size + 1) (by simp) ?_; intro gq capq w1 hown1 hgrow hat hlt; obtain ⟨d9, e9, l9⟩ := HM5.out.mid ⟨hgrow.os, hgrow.tape, hgrow.output, hgrow.size, hgrow.block⟩ (by rw [HP.out]); rw [HP.out] at d9; have d10 := box_mid HM5.out HI5.out.box ⟨hgrow.os, hgrow.tape, hgrow.output, hgrow.size, hgrow.block⟩ (by rw [HP.out])))
      all_goals
        go_wp2_with fail
        go_meet
        exact ⟨gq, capq, w1, ⟨hgrow.os, hgrow.tape, hgrow.output, hgrow.size, hgrow.block⟩, hown1, rfl⟩
    case rest =>
    obtain ⟨gq, capq, w1, hgrow, hown1, rfl⟩ := hcut
    obtain ⟨r1, r2, r3, r4, r5, r6, r7⟩ := HR.out
    obtain ⟨s1, s2, s3, s4, s5⟩ := HS.out
    obtain ⟨o1, o2, o3, o4⟩ := HO.out
    rw [← HP.out] at hgrow hown1 ⊢
    obtain ⟨p1, p2, p3⟩ := HM5.out.push hgrow hown1
    have hI6 := HI5.out.turn ⟨_, _, p1⟩ p2 (fun k e => ?e1) (fun g' xs' hb' e => ?e2) p3
    case e1 =>
      rcases e with e | rfl
      · exact .inr (HM5.out.prs.lt k e).1
      · exact .inr hM
    case e2 =>
      rcases e with e | e
      · exact own_blk HM5.out.prs hb' (by decide) e
      · exact HM5.out.mkb.ne_ hb' (by decide) e.symm
    have hlen : (wk2 ++ [(i : Int) + 1]).length = wk2.length + 1 := by simp
    rw [hlen] at r3 r4
    have hf2 : f1 = (f1 - 1) + 1 := by omega
    have hmc5 := mc_le cs5
    have hprN : prN W M = pr1.length := HI.out.prN
    have hprN2 := hI6.prN
    refine hKn.out _ _ ⟨?_, ?_⟩
    · apply tmps72
      intro t' ht'
      refine ⟨t', D1 :: Ds, cs5, wk5, pr1 ++ [N], f1 - 1, hI6, ?_, s5 (fun r hr => r2 r (List.mem_append_left _ hr)), ⟨?_, ?_, ?_, fun j => ?_⟩, ht'⟩
      · rw [← r1, hf2, drainP]
        simp only [List.getLast?_append, List.getLast?_singleton, Option.some_or, List.dropLast_concat, Nat.add_sub_cancel]
        rw [show ((i : Int) + 1 - 1).toNat = i by omega, r6]
        dsimp only
        rw [s1]
      · omega
      · omega
      · rw [List.length_append, List.length_cons, List.length_nil]; omega
      · rw [← r5 j, s4 j]
    · rw [hprN, hprN2, List.length_append, List.length_cons, List.length_nil]
      omega
end Go.Proofs.Ythcdhiknjpfmhaa
