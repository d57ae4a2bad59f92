/- HqB: contracts and plain laws, several texts in one. -/
import Derived.Test.YtmimnaaofpkndaaDoorHpOf
import Derived.StillTailTactics
import Derived.Test.YtmimnaaofpkndaaDoorRgs
/- The arena: marking, purely; drain. -/
set_option linter.unusedVariables false
set_option linter.unusedSimpArgs false
namespace Go.Proofs.YtmimnaaofpkndaaDoor.Hp
open Go.RowKit Go.Proofs.YtmimnaaofpkndaaDoor Go.Shelf
attribute [local go_sem] Oper.semAt_some

/-- How many cells are marked. -/
def mc (cs : List Cell) : Nat := (cs.filter (·.2)).length
theorem mc_le (cs : List Cell) : mc cs ≤ cs.length := List.length_filter_le _ _
theorem mc_set (cs : List Cell) (i : Nat) (N : Option (Nat × Nat)) (hi : i < cs.length) (h : (cs.getD i (none, false)).2 = false) : mc (cs.set i (N, true)) = mc cs + 1 := by
  unfold mc
  induction cs generalizing i with
  | nil => simp at hi
  | cons c l ih =>
    cases i with
    | zero =>
      have h2 : c.2 = false := by simpa using h
      simp [h2]
    | succ i =>
      have := ih i (by simpa using hi) (by simpa using h)
      rw [List.set_cons_succ, List.filter_cons, List.filter_cons]
      split <;> simp [this]
theorem dead_ix {cs : List Cell} {r : Int} (h : deadP cs r = true) : ∃ (i : Nat) (N : Nat × Nat), r = (i : Int) + 1 ∧ i < cs.length ∧ (cs.getD i (none, false)).1 = some N ∧ (cs.getD i (none, false)).2 = false := by
  unfold deadP at h
  simp only [Bool.and_eq_true, decide_eq_true_eq, Bool.not_eq_true'] at h
  obtain ⟨⟨⟨h1, h2⟩, h3⟩, h4⟩ := h
  obtain ⟨N, hN⟩ := Option.isSome_iff_exists.1 h3
  exact ⟨(r - 1).toNat, N, by omega, by omega, hN, h4⟩
theorem reachP_len (s : List Cell × List Int) (r : Int) : (reachP s r).1.length = s.1.length := by
  unfold reachP; split <;> simp
theorem reachP_mc (s : List Cell × List Int) (r : Int) : (reachP s r).2.length + mc s.1 = s.2.length + mc (reachP s r).1 := by
  unfold reachP
  split
  · rename_i h
    obtain ⟨i, N, rfl, hi, h1, h2⟩ := dead_ix h
    rw [show ((i : Int) + 1 - 1).toNat = i by omega]
    simp only [List.length_append, List.length_cons, List.length_nil]
    rw [mc_set _ _ _ hi h2]; omega
  · rfl
/-- A cell's body abides. -/
theorem reachP_body (s : List Cell × List Int) (r : Int) (i : Nat) : ((reachP s r).1.getD i (none, false)).1 = (s.1.getD i (none, false)).1 := by
  unfold reachP
  split
  · rename_i h
    obtain ⟨j, N, rfl, hj, h1, h2⟩ := dead_ix h
    rw [show ((j : Int) + 1 - 1).toNat = j by omega]
    simp only [List.getD_eq_getElem?_getD, List.getElem?_set]
    split
    · rename_i e
      subst e
      rfl
    · rfl
  · rfl
def WorkOk (cs : List Cell) (wk : List Int) : Prop := ∀ r ∈ wk, ∃ (i : Nat) (N : Nat × Nat), r = (i : Int) + 1 ∧ i < cs.length ∧ (cs.getD i (none, false)).1 = some N
theorem WorkOk.reach {s : List Cell × List Int} (h : WorkOk s.1 s.2) (r : Int) : WorkOk (reachP s r).1 (reachP s r).2 := by
  intro q hq
  have hb : ∃ (i : Nat) (N : Nat × Nat), q = (i : Int) + 1 ∧ i < s.1.length ∧ (s.1.getD i (none, false)).1 = some N := by
    unfold reachP at hq
    split at hq
    · rename_i hd
      rcases List.mem_append.1 hq with hq | hq
      · exact h q hq
      · rw [List.mem_singleton.1 hq]
        obtain ⟨i, N, e, hi, h1, _⟩ := dead_ix hd
        exact ⟨i, N, e, hi, h1⟩
    · exact h q hq
  obtain ⟨i, N, e, hi, h1⟩ := hb
  exact ⟨i, N, e, by rw [reachP_len]; exact hi, by rw [reachP_body]; exact h1⟩
theorem foldl_len (l : List Int) (s : List Cell × List Int) : (l.foldl reachP s).1.length = s.1.length := by
  induction l generalizing s with
  | nil => rfl
  | cons r l ih => rw [List.foldl_cons, ih, reachP_len]
theorem foldl_mc (l : List Int) (s : List Cell × List Int) : (l.foldl reachP s).2.length + mc s.1 = s.2.length + mc (l.foldl reachP s).1 := by
  induction l generalizing s with
  | nil => rfl
  | cons r l ih =>
    have h1 := ih (reachP s r)
    have h2 := reachP_mc s r
    rw [List.foldl_cons]; omega
theorem foldl_body (l : List Int) (s : List Cell × List Int) (i : Nat) : ((l.foldl reachP s).1.getD i (none, false)).1 = (s.1.getD i (none, false)).1 := by
  induction l generalizing s with
  | nil => rfl
  | cons r l ih => rw [List.foldl_cons, ih, reachP_body]
theorem foldl_ok (l : List Int) (s : List Cell × List Int) (h : WorkOk s.1 s.2) : WorkOk (l.foldl reachP s).1 (l.foldl reachP s).2 := by
  induction l generalizing s with
  | nil => exact h
  | cons r l ih => exact ih _ (h.reach r)
/-- All that is held by what was come to. -/
def drainP (toF : Nat × Nat → List Int) : Nat → List Cell → List Int → List (Nat × Nat) → List Cell × List (Nat × Nat)
  | 0, cs, _, pr => (cs, pr)
  | f + 1, cs, wk, pr => match wk.getLast? with
    | none => (cs, pr)
    | some r => match (cs.getD (r - 1).toNat (none, false)).1 with
      | none => (cs, pr)
      | some N => drainP toF f ((toF N).foldl reachP (cs, wk.dropLast)).1 ((toF N).foldl reachP (cs, wk.dropLast)).2 (pr ++ if N.1 = tObj then [N] else [])

/-- The state of a marking, as a loop of drain's or settle's has it: w0: where the collection begins; w1: where the function begins; its box; the marks of the ranges that are over. -/
structure DrI (w0 w1 : World) (A B M B1 bx : Nat) (cv fv rv : Value) (fr ro : List Int) (live : Int) (Ds : List Nat) (cs : List Cell) (wk : List Int) (pr : List (Nat × Nat)) (W : World) : Prop where
  mks : ∃ wv pv, MkS W A B M B1 cv fv rv wv pv cs fr ro live wk pr
  upd : Upd w0 W (fun k => cv.ownBlock = some k ∨ B1 ≤ k)
  ko : KeepsOthers w1 W
  box : Blk W bx 101 #[.pointer (some ⟨M, 0, none⟩)]
  ds : ∀ D ∈ Ds, w1.heap.size ≤ D ∧ W.heap[D]? = some (.deferred (some []))
  nd : Ds.Nodup
  kb : ∀ g xs, Blk w1 g 101 xs → Blk W g 101 xs
theorem blk_grown {w w' : World} {row : Option Nat} {g : Nat} {t : TypeId} {cs : Array Value} (h : Blk w g t cs) (hg : w.grownBy w' row) (hr : ∀ r, row = some r → ∃ o : Obj, w.heap[r]? = some o ∧ o.isCells = false) : Blk w' g t cs :=
  (grownBy_keeps_cells hg hr (show w.heap[g]? = some (.cells cs t (0, 0)) from h) rfl).trans h
theorem own_grown {w w' : World} {row : Option Nat} {B size n : Nat} {t : TypeId} {v : Value} {xs : List Value} (h : w.ownsRow B t size v n xs) (hg : w.grownBy w' row) (hr : ∀ r, row = some r → ∃ o : Obj, w.heap[r]? = some o ∧ o.isCells = false) : w'.ownsRow B t size v n xs := by
  refine h.kept hg ?_
  cases hv : v.ownBlock with
  | none => exact .inl rfl
  | some g =>
    refine .inr fun e => ?_
    obtain ⟨c, f, h1⟩ := own_kind h g hv
    obtain ⟨o, h2, h3⟩ := hr g e.symm
    rw [h1] at h2; cases h2; cases h3
/-- It abides the turn of what is no cells and lies beyond. -/
theorem DrI.abide {w0 w1 W W' : World} {A B M B1 bx b : Nat} {cv fv rv : Value} {fr ro : List Int} {live : Int} {Ds : List Nat} {cs : List Cell} {wk : List Int} {pr : List (Nat × Nat)} {row : Option Nat} (h : DrI w0 w1 A B M B1 bx cv fv rv fr ro live Ds cs wk pr W)
    (hb1 : w1.heap.size ≤ b) (hbB : B1 ≤ b) (hDs : ∀ D ∈ Ds, D < b) (hg : W.grownBy W' row) (hr : ∀ r, row = some r → b ≤ r ∧ ∃ o : Obj, W.heap[r]? = some o ∧ o.isCells = false) : DrI w0 w1 A B M B1 bx cv fv rv fr ro live Ds cs wk pr W' := by
  have hr2 : ∀ r, row = some r → ∃ o : Obj, W.heap[r]? = some o ∧ o.isCells = false := fun r e => (hr r e).2
  obtain ⟨⟨wv, pv, hm⟩, hu, hk, hx, hd, hnd, hkb⟩ := h
  refine ⟨⟨wv, pv, ⟨⟨blk_grown hm.ar.blk hg hr2, own_grown hm.ar.cells hg hr2, own_grown hm.ar.free hg hr2, own_grown hm.ar.roots hg hr2, hm.ar.apart⟩, blk_grown hm.mkb hg hr2, own_grown hm.work hg hr2, own_grown hm.prs hg hr2, hm.fvB, hm.rvB⟩⟩, hu.grown hg (fun k e => .inr (Nat.le_trans hbB (hr k e).1)), ⟨Nat.le_trans hk.size hg.size, fun k o ho hc => ?_⟩, blk_grown hx hg hr2, fun D hD => ⟨(hd D hD).1, ?_⟩, hnd, fun g xs hb => blk_grown (hkb g xs hb) hg hr2⟩
  · have h1 := hk.same k o ho hc
    refine (hg.block k (Array.getElem?_eq_some_iff.1 h1).1 fun e => ?_).trans h1
    have := (hr k e.symm).1
    have := (Array.getElem?_eq_some_iff.1 ho).1
    omega
  · have h1 := (hd D hD).2
    refine (hg.block D (Array.getElem?_eq_some_iff.1 h1).1 fun e => ?_).trans h1
    have := (hr D e.symm).1
    have := hDs D hD
    omega
section
variable {F : Fence} {n : Nat} {P : Program}
/-- The marks are taken, one by one. -/
theorem leaves_marks {fn : Func} {tmps : Array Value} {R : Ending → World → Prop} {b : Nat} {I : Unit → World → Prop} (hI : OwnFrom b I) (hret : ∀ W, I () W → LeavesIn F n P fn tmps R [] .returning W) :
    ∀ (Ds : List Nat) (W : World), Ds.Nodup → (∀ D ∈ Ds, b ≤ D ∧ W.heap[D]? = some (.deferred (some []))) → I () W → LeavesInM F n P fn tmps R (Ds.map markD) .returning W := by
  intro Ds
  induction Ds with
  | nil => exact fun W _ _ h => hret W h
  | cons D Ds ih =>
    intro W hn hd h
    have hD := hd D (List.mem_cons_self ..)
    refine ⟨by simp, .inl ⟨D, _, rfl, run_takeDeferred hD.2, ih _ (List.nodup_cons.1 hn).2 (fun E hE => ?_) (hI.putObj _ h hD.1 hD.2 rfl)⟩⟩
    have hE2 := hd E (List.mem_cons_of_mem _ hE)
    exact ⟨hE2.1, (World.putObj_heap_other (by rintro rfl; exact (List.nodup_cons.1 hn).1 hE)).trans hE2.2⟩
theorem calls_of_wp_marks {f : FuncId} {fn : Func} {c : Code} {args : Array Value} {w : World} {R : Ending → World → Prop} (hf : P.funcs[f]? = some fn) (hb : fn.body = some c)
    (h : c.wp P (bodyPostM Fence.wide 9 P fn R) { tmps := args ++ Array.replicate (fn.ntmps - args.size) undef, defers := [] } w) : Calls P f args w R :=
  (callsIn_wide (n := 9)).1 (callsIn_of_wp_marks hf hb trivial (wpIn_wide.2 h) rfl)
end
/-- How many pairs the marker has. -/
def prN (W : World) (M : Nat) : Nat := match W.cell? ⟨M, 2, none⟩ with
  | some (.slice _ n _) => n
  | _ => 0
theorem DrI.prN {w0 w1 W : World} {A B M B1 bx : Nat} {cv fv rv : Value} {fr ro : List Int} {live : Int} {Ds : List Nat} {cs : List Cell} {wk : List Int} {pr : List (Nat × Nat)} (h : DrI w0 w1 A B M B1 bx cv fv rv fr ro live Ds cs wk pr W) : prN W M = pr.length := by
  obtain ⟨wv, pv, hm⟩ := h.mks
  obtain ⟨a, cap, rfl, _⟩ := own_shape hm.prs
  unfold Go.Proofs.YtmimnaaofpkndaaDoor.Hp.prN
  rw [hm.mkb.cell]; rfl
end Go.Proofs.YtmimnaaofpkndaaDoor.Hp

/- The heap: what an environment, a symbol's cell, an object can do. -/
set_option linter.unusedVariables false
set_option linter.unusedSimpArgs false
namespace Go.Proofs.YtmimnaaofpkndaaDoor.Hp
open Go.RowKit Go.Proofs.YtmimnaaofpkndaaDoor
theorem noPairs_env (v : Value) (w : World) : (Instr.typeAssert (.iface tEnv v) 90 108 true).run Tryd.prog w = .ok (.tuple #[.nilIface, .bool false]) w := run_typeAssert_lacksB Tryd.underlying108 (by kernel_rfl) (by kernel_rfl) v 90 w
theorem noPairs_mark (v : Value) (w : World) : (Instr.typeAssert (.iface tMark v) 90 108 true).run Tryd.prog w = .ok (.tuple #[.nilIface, .bool false]) w := run_typeAssert_lacksB Tryd.underlying108 (by kernel_rfl) (by kernel_rfl) v 90 w
theorem noWeak_env (v : Value) (w : World) : (Instr.typeAssert (.iface tEnv v) 90 111 true).run Tryd.prog w = .ok (.tuple #[.nilIface, .bool false]) w := run_typeAssert_lacksB Tryd.underlying111 (by kernel_rfl) (by kernel_rfl) v 90 w
theorem noWeak_mark (v : Value) (w : World) : (Instr.typeAssert (.iface tMark v) 90 111 true).run Tryd.prog w = .ok (.tuple #[.nilIface, .bool false]) w := run_typeAssert_lacksB Tryd.underlying111 (by kernel_rfl) (by kernel_rfl) v 90 w
theorem noGoner_env (v : Value) (w : World) : (Instr.typeAssert (.iface tEnv v) 90 144 true).run Tryd.prog w = .ok (.tuple #[.nilIface, .bool false]) w := run_typeAssert_lacksB Tryd.underlying144 (by kernel_rfl) (by kernel_rfl) v 90 w
theorem noGoner_mark (v : Value) (w : World) : (Instr.typeAssert (.iface tMark v) 90 144 true).run Tryd.prog w = .ok (.tuple #[.nilIface, .bool false]) w := run_typeAssert_lacksB Tryd.underlying144 (by kernel_rfl) (by kernel_rfl) v 90 w
theorem isPairs_obj (v : Value) (w : World) : (Instr.typeAssert (.iface tObj v) 90 108 true).run Tryd.prog w = .ok (.tuple #[.iface tObj v, .bool true]) w := run_typeAssert_hasB Tryd.underlying108 (by kernel_rfl) v 90 w
theorem isWeak_obj (v : Value) (w : World) : (Instr.typeAssert (.iface tObj v) 90 111 true).run Tryd.prog w = .ok (.tuple #[.iface tObj v, .bool true]) w := run_typeAssert_hasB Tryd.underlying111 (by kernel_rfl) v 90 w
theorem isGoner_obj (v : Value) (w : World) : (Instr.typeAssert (.iface tObj v) 90 144 true).run Tryd.prog w = .ok (.tuple #[.iface tObj v, .bool true]) w := run_typeAssert_hasB Tryd.underlying144 (by kernel_rfl) v 90 w
theorem eachEnv (p : Nat) (a : Addr) (w : World) : (method (p + 1) 58 (.pointer (some a)) "Each").run Tryd.prog w = .ok (126, .pointer (some a)) w := by kernel_rfl
end Go.Proofs.YtmimnaaofpkndaaDoor.Hp

/- The arena: drain. -/
set_option linter.unusedVariables false
set_option linter.unusedSimpArgs false
namespace Go.Proofs.YtmimnaaofpkndaaDoor.Hp
open Go.RowKit Go.Proofs.YtmimnaaofpkndaaDoor Go.Shelf
attribute [local go_sem] Oper.semAt_some

theorem snoc_cases {α : Type} (l : List α) : l = [] ∨ ∃ m x, l = m ++ [x] := by
  rcases List.eq_nil_or_concat l with h | ⟨m, x, h⟩
  · exact .inl h
  · exact .inr ⟨m, x, by rw [h, List.concat_eq_append]⟩
/-- What follows as a variable. -/
theorem wp_var {P : Program} {c : Code} {Q : Exit → Act → World → Prop} {a : Act} {w : World} (h : ∀ K : Act → World → Prop, RowKit.Hid (∀ a w, Q .normal a w → K a w) → c.wp P (Exit.then K (fun _ _ _ => False)) a w) : c.wp P Q a w :=
  wp_mono (h (Q .normal) (Lib.hid fun _ _ h => h)) fun e a w hq => by
    cases e <;> first | exact hq | exact hq.elim
section
variable {w0 w1 W W' : World} {A B M B1 bx : Nat} {cv fv rv : Value} {fr ro : List Int} {live : Int} {Ds : List Nat} {cs : List Cell} {wk : List Int} {pr : List (Nat × Nat)}
theorem DrI.start {w0 w : World} {wv pv : Value} (h : MkS w A B M B1 cv fv rv wv pv cs fr ro live wk pr) (hu : Upd w0 w (fun k => cv.ownBlock = some k ∨ B1 ≤ k)) (hB1 : B1 ≤ w.heap.size) (x : Value) (hx : x = .pointer (some ⟨M, 0, none⟩)) :
    DrI w0 w A B M B1 w.heap.size cv fv rv fr ro live [] cs wk pr (w.alloc (.cells #[x] 101)) := by
  subst hx
  exact ⟨⟨wv, pv, ⟨⟨h.ar.blk.alloc _, h.ar.cells.alloc _, h.ar.free.alloc _, h.ar.roots.alloc _, h.ar.apart⟩, h.mkb.alloc _, h.work.alloc _, h.prs.alloc _, h.fvB, h.rvB⟩⟩, hu.alloc _, KeepsOthers.alloc _ _, Blk.new _ _ _, fun D hD => (List.not_mem_nil hD).elim, List.nodup_nil, fun g xs hb => hb.alloc _⟩
theorem DrI.turn (h : DrI w0 w1 A B M B1 bx cv fv rv fr ro live Ds cs wk pr W) {cs' : List Cell} {wk' : List Int} {pr' : List (Nat × Nat)} {P : Nat → Prop} (hM : ∃ wv pv, MkS W' A B M B1 cv fv rv wv pv cs' fr ro live wk' pr') (hU : Upd W W' P) (hP : ∀ k, P k → cv.ownBlock = some k ∨ B1 ≤ k) (hb : ∀ g xs, Blk W g 101 xs → ¬ P g) (hK : KeepsOthers W W') :
    DrI w0 w1 A B M B1 bx cv fv rv fr ro live Ds cs' wk' pr' W' :=
  ⟨hM, h.upd.trans (hU.mono fun k _ e => hP k e), h.ko.trans hK, hU.blk h.box (hb _ _ h.box), fun D hD => ⟨(h.ds D hD).1, hK.same _ _ (h.ds D hD).2 rfl⟩, h.nd, fun g xs h0 => hU.blk (h.kb g xs h0) (hb g xs (h.kb g xs h0))⟩
theorem DrI.mark (h : DrI w0 w1 A B M B1 bx cv fv rv fr ro live Ds cs wk pr W) {D b : Nat} (hb : w1.heap.size ≤ b) (hD : b ≤ D) (hDs : ∀ E ∈ Ds, E < b) (hk : W.heap[D]? = some (.deferred (some []))) : DrI w0 w1 A B M B1 bx cv fv rv fr ro live (D :: Ds) cs wk pr W :=
  ⟨h.mks, h.upd, h.ko, h.box, fun E hE => by
    rcases List.mem_cons.1 hE with rfl | hE
    · exact ⟨by omega, hk⟩
    · exact h.ds E hE, List.nodup_cons.2 ⟨fun hm => by have := hDs D hm; omega, h.nd⟩, h.kb⟩
theorem MkS.pop {wv pv : Value} {r : Int} (h : MkS W A B M B1 cv fv rv wv pv cs fr ro live (wk ++ [r]) pr) {g cap : Nat} (hv : wv = .slice (some ⟨g, 0, none⟩) (wk ++ [r]).length cap) :
    MkS (W.setCell ⟨M, 1, none⟩ (.slice (some ⟨g, 0, none⟩) wk.length cap)) A B M B1 cv fv rv (.slice (some ⟨g, 0, none⟩) wk.length cap) pv cs fr ro live wk pr := by
  subst hv
  have hA : A ≠ M := h.ar.blk.ne_ h.mkb (by decide)
  refine ⟨⟨h.ar.blk.far hA _, own_set h.ar.cells h.mkb (by decide) 1 _, own_set h.ar.free h.mkb (by decide) 1 _, own_set h.ar.roots h.mkb (by decide) 1 _, h.ar.apart⟩, h.mkb.set_ 1 _, ?_, own_set h.prs h.mkb (by decide) 1 _, h.fvB, h.rvB⟩
  have h2 := own_set (own_take h.work wk.length (by simp)) h.mkb (by decide) 1 (.slice (some ⟨g, 0, none⟩) wk.length cap)
  have e : (numCells (wk ++ [r])).take (wk.length * 1) = numCells wk := by rw [numCells_append, Nat.mul_one, List.take_append_of_le_length (by simp [numCells]), List.take_of_length_le (by simp [numCells])]
  rw [e] at h2
  exact h2
theorem MkS.push {wv : Value} {pa : Option Addr} {pcap gq capq : Nat} {N : Nat × Nat} {w2 : World} {o : Obj} (h : MkS W A B M B1 cv fv rv wv (.slice pa pr.length pcap) cs fr ro live wk pr) (hg : (W.alloc o).grownBy w2 (Value.slice pa pr.length pcap).ownBlock)
    (ho : w2.ownsRow B1 108 1 (.slice (some ⟨gq, 0, none⟩) (pr.length + 1) capq) (pr.length + 1) (pvCells pr ++ [.iface N.1 (.pointer (some ⟨N.2, 0, none⟩))])) :
    MkS (w2.setCell ⟨M, 2, none⟩ (.slice (some ⟨gq, 0, none⟩) (pr.length + 1) capq)) A B M B1 cv fv rv wv (.slice (some ⟨gq, 0, none⟩) (pr.length + 1) capq) cs fr ro live wk (pr ++ [N]) ∧
    Upd W (w2.setCell ⟨M, 2, none⟩ (.slice (some ⟨gq, 0, none⟩) (pr.length + 1) capq)) (fun k => (Value.slice pa pr.length pcap).ownBlock = some k ∨ k = M) ∧ KeepsOthers W (w2.setCell ⟨M, 2, none⟩ (.slice (some ⟨gq, 0, none⟩) (pr.length + 1) capq)) := by
  have hA : A ≠ M := h.ar.blk.ne_ h.mkb (by decide)
  have hmk2 := Blk.grown (h.mkb.alloc o) hg (fun e => own_blk_ne h.prs h.mkb (by decide) e.symm)
  have U : Upd W (w2.setCell ⟨M, 2, none⟩ (.slice (some ⟨gq, 0, none⟩) (pr.length + 1) capq)) (fun k => (Value.slice pa pr.length pcap).ownBlock = some k ∨ k = M) :=
    (((Upd.refl W _).alloc o).grown hg (fun k e => .inl e)).set M 2 _ (.inr rfl)
  have far : ∀ {B' n : Nat} {t : TypeId} {s : Nat} {v : Value} {xs : List Value}, W.ownsRow B' t s v n xs → t ≠ 108 → t ≠ 104 → (w2.setCell ⟨M, 2, none⟩ (.slice (some ⟨gq, 0, none⟩) (pr.length + 1) capq)).ownsRow B' t s v n xs := by
    intro B' n t s v xs hv ht1 ht2
    refine U.own hv (fun k hk e => ?_)
    rcases e with e | rfl
    · rcases own_ne hv h.prs ht1 with q | q
      · rw [q] at hk; cases hk
      · exact q (by rw [hk, e])
    · exact own_blk_ne hv h.mkb ht2 hk
  refine ⟨⟨⟨U.blk h.ar.blk (fun e => ?_), far h.ar.cells (by decide) (by decide), far h.ar.free (by decide) (by decide), far h.ar.roots (by decide) (by decide), h.ar.apart⟩, hmk2.set_ 2 _, far h.work (by decide) (by decide), ?_, h.fvB, h.rvB⟩, U, ?_⟩
  · rcases e with e | e
    · exact own_blk_ne h.prs h.ar.blk (by decide) e
    · exact hA e
  · rw [List.length_append, show pvCells (pr ++ [N]) = pvCells pr ++ [.iface N.1 (.pointer (some ⟨N.2, 0, none⟩))] by simp [pvCells, bodyV]]
    exact own_set ho hmk2 (by decide) 2 _
  · refine ((KeepsOthers.alloc W o).trans (KeepsOthers.of_grownBy hg (fun j o' hj ho' => ?_))).trans (KeepsOthers.setCell _ _ _)
    obtain ⟨c1, f1, h1⟩ := own_kind (h.prs.alloc o) j hj.symm.symm
    rw [h1] at ho'; cases ho'; rfl
theorem MkS.mid {wv pv : Value} {w2 : World} {o : Obj} {row : Option Nat} (h : MkS W A B M B1 cv fv rv wv pv cs fr ro live wk pr) (hg : (W.alloc o).grownBy w2 row) (hr : row = pv.ownBlock) : w2.cell? ⟨M, 2, none⟩ = some pv ∧ w2.frozen? ⟨M, 2, none⟩ = false ∧ M < w2.heap.size := by
  subst hr
  have hmk2 := Blk.grown (h.mkb.alloc o) hg (fun e => own_blk_ne h.prs h.mkb (by decide) e.symm)
  exact ⟨by rw [hmk2.cell]; rfl, hmk2.frozen 2, hmk2.lt⟩
theorem box_mid {wv pv : Value} {w2 : World} {o : Obj} {row : Option Nat} {bx : Nat} {x : Value} (h : MkS W A B M B1 cv fv rv wv pv cs fr ro live wk pr) (hb : Blk W bx 101 #[x]) (hg : (W.alloc o).grownBy w2 row) (hr : row = pv.ownBlock) : w2.cell? ⟨bx, 0, none⟩ = some x := by
  subst hr
  rw [(Blk.grown (hb.alloc o) hg (fun e => own_blk_ne h.prs hb (by decide) e.symm)).cell]; rfl
theorem DrI.noDs (h : DrI w0 w1 A B M B1 bx cv fv rv fr ro live Ds cs wk pr W) : DrI w0 w1 A B M B1 bx cv fv rv fr ro live [] cs wk pr W :=
  ⟨h.mks, h.upd, h.ko, h.box, fun D hD => (List.not_mem_nil hD).elim, List.nodup_nil, h.kb⟩
theorem MkS.drewN {wv pv : Value} (h : MkS W A B M B1 cv fv rv wv pv cs fr ro live wk pr) (n : Nat) : MkS (W.drewN n) A B M B1 cv fv rv wv pv cs fr ro live wk pr :=
  ⟨⟨h.ar.blk, h.ar.cells, h.ar.free, h.ar.roots, h.ar.apart⟩, h.mkb, h.work, h.prs, h.fvB, h.rvB⟩
theorem DrI.drewN (h : DrI w0 w1 A B M B1 bx cv fv rv fr ro live Ds cs wk pr W) (n : Nat) : DrI w0 w1 A B M B1 bx cv fv rv fr ro live Ds cs wk pr (W.drewN n) := by
  obtain ⟨wv, pv, hm⟩ := h.mks
  exact h.turn ⟨wv, pv, hm.drewN n⟩ ((Upd.refl W (fun _ => False)).drewN n) (fun k e => e.elim) (fun _ _ _ e => e) ⟨Nat.le_refl _, fun _ _ h _ => h⟩
theorem MkS.f0 {wv pv : Value} (h : MkS W A B M B1 cv fv rv wv pv cs fr ro live wk pr) : W.cell? ⟨M, 0, none⟩ = some (.pointer (some ⟨A, 0, none⟩)) := by rw [h.mkb.cell]; rfl
theorem MkS.f1 {wv pv : Value} (h : MkS W A B M B1 cv fv rv wv pv cs fr ro live wk pr) : W.cell? ⟨M, 1, none⟩ = some wv := by rw [h.mkb.cell]; rfl
theorem MkS.f2 {wv pv : Value} (h : MkS W A B M B1 cv fv rv wv pv cs fr ro live wk pr) : W.cell? ⟨M, 2, none⟩ = some pv := by rw [h.mkb.cell]; rfl
theorem MkS.fc {wv pv : Value} (h : MkS W A B M B1 cv fv rv wv pv cs fr ro live wk pr) : W.cell? ⟨A, 0, none⟩ = some cv := by rw [h.ar.blk.cell]; rfl
theorem DrI.fb (h : DrI w0 w1 A B M B1 bx cv fv rv fr ro live Ds cs wk pr W) : W.cell? ⟨bx, 0, none⟩ = some (.pointer (some ⟨M, 0, none⟩)) := by rw [h.box.cell]; rfl
theorem MkS.body {wv pv : Value} {gc cap i : Nat} {N : Nat × Nat} (h : MkS W A B M B1 cv fv rv wv pv cs fr ro live wk pr) (hv : cv = .slice (some ⟨gc, 0, none⟩) cs.length cap) (hi : i < cs.length) (hb : (cs.getD i (none, false)).1 = some N) : W.cell? ⟨gc, i * 2, none⟩ = some (.iface N.1 (.pointer (some ⟨N.2, 0, none⟩))) := by
  subst hv
  have := (h.ar.cells.cellAt (i * 2) (show i * 2 < cs.length * 2 by omega)).trans (clCells_get cs i hi).1
  rw [hb] at this
  exact this
theorem DrI.ne (h : DrI w0 w1 A B M B1 bx cv fv rv fr ro live Ds cs wk pr W) : M ≠ bx := by
  obtain ⟨wv, pv, hm⟩ := h.mks
  exact hm.mkb.ne_ h.box (by decide)
end
end Go.Proofs.YtmimnaaofpkndaaDoor.Hp

/- The arena: settling, purely. -/
set_option linter.unusedVariables false
set_option linter.unusedSimpArgs false
namespace Go.Proofs.YtmimnaaofpkndaaDoor.Hp
open Go.RowKit Go.Proofs.YtmimnaaofpkndaaDoor Go.Shelf

abbrev Pr := Int × Int
def bodies (l : List Cell) : List (Nat × Nat) := l.filterMap (·.1)
/-- A pair: its value is come to if its key is no dead cell. -/
def prF (s : List Cell × List Int) (p : Pr) : List Cell × List Int := if deadP s.1 p.1 then s else reachP s p.2
def ndF (tab : Nat × Nat → List Pr) (s : List Cell × List Int) (N : Nat × Nat) : List Cell × List Int := (tab N).foldl prF s
/-- All pairs of all bodies, once. -/
def pairsP (tab : Nat × Nat → List Pr) (pr : List (Nat × Nat)) (s : List Cell × List Int) : List Cell × List Int := pr.foldl (ndF tab) s
/-- How much fuel draining wants. -/
def dfu (s : List Cell × List Int) : Nat := s.2.length + (s.1.length - mc s.1)
def settleP (toF : Nat × Nat → List Int) (tab : Nat × Nat → List Pr) : Nat → List Cell → List (Nat × Nat) → List Cell × List (Nat × Nat)
  | 0, cs, pr => (cs, pr)
  | f + 1, cs, pr => if (pairsP tab pr (cs, [])).2 = [] then ((pairsP tab pr (cs, [])).1, pr)
    else settleP toF tab f (drainP toF (dfu (pairsP tab pr (cs, []))) (pairsP tab pr (cs, [])).1 (pairsP tab pr (cs, [])).2 pr).1 (drainP toF (dfu (pairsP tab pr (cs, []))) (pairsP tab pr (cs, [])).1 (pairsP tab pr (cs, [])).2 pr).2
/-- Only cells with a body are marked. -/
def Somes (cs : List Cell) : Prop := ∀ i, (cs.getD i (none, false)).2 = true → ∃ N, (cs.getD i (none, false)).1 = some N
theorem reachP_somes (s : List Cell × List Int) (r : Int) (h : Somes s.1) : Somes (reachP s r).1 := by
  intro i hi
  unfold reachP at hi ⊢
  split at hi
  · rename_i hd
    rw [if_pos hd]
    obtain ⟨j, N, rfl, hj, h1, h2⟩ := dead_ix hd
    rw [show ((j : Int) + 1 - 1).toNat = j by omega] at hi ⊢
    simp only [List.getD_eq_getElem?_getD, List.getElem?_set] at hi h1 ⊢
    by_cases e : j = i
    · subst e
      rw [if_pos rfl, if_pos hj]
      exact ⟨N, h1⟩
    · rw [if_neg e] at hi ⊢
      have := h i
      simp only [List.getD_eq_getElem?_getD] at this
      exact this hi
  · rename_i hd
    rw [if_neg hd]
    exact h i hi
/-- What every step of marking keeps. -/
structure Mk (s s' : List Cell × List Int) : Prop where
  len : s'.1.length = s.1.length
  cnt : s'.2.length + mc s.1 = s.2.length + mc s'.1
  body : ∀ i, (s'.1.getD i (none, false)).1 = (s.1.getD i (none, false)).1
  ok : WorkOk s.1 s.2 → WorkOk s'.1 s'.2
  mono : mc s.1 ≤ mc s'.1
  some : Somes s.1 → Somes s'.1
theorem Mk.refl (s : List Cell × List Int) : Mk s s := ⟨rfl, rfl, fun _ => rfl, id, Nat.le_refl _, id⟩
theorem Mk.trans {a b c : List Cell × List Int} (h : Mk a b) (k : Mk b c) : Mk a c :=
  ⟨k.len.trans h.len, by have := h.cnt; have := k.cnt; omega, fun i => (k.body i).trans (h.body i), fun o => k.ok (h.ok o), Nat.le_trans h.mono k.mono, fun o => k.some (h.some o)⟩
theorem reachP_mono (s : List Cell × List Int) (r : Int) : mc s.1 ≤ mc (reachP s r).1 := by
  have := reachP_mc s r
  unfold reachP at *
  split at this <;> simp_all <;> omega
theorem reachP_mk (s : List Cell × List Int) (r : Int) : Mk s (reachP s r) := ⟨reachP_len s r, reachP_mc s r, reachP_body s r, fun h => h.reach r, reachP_mono s r, reachP_somes s r⟩
theorem foldl_mk {α : Type} (f : List Cell × List Int → α → List Cell × List Int) (hf : ∀ s x, Mk s (f s x)) (l : List α) (s : List Cell × List Int) : Mk s (l.foldl f s) := by
  induction l generalizing s with
  | nil => exact Mk.refl s
  | cons x l ih => exact (hf s x).trans (ih _)
theorem prF_mk (s : List Cell × List Int) (p : Pr) : Mk s (prF s p) := by
  unfold prF; split
  · exact Mk.refl s
  · exact reachP_mk s _
theorem ndF_mk (tab : Nat × Nat → List Pr) (s : List Cell × List Int) (N : Nat × Nat) : Mk s (ndF tab s N) := foldl_mk prF prF_mk _ _
theorem pairsP_mk (tab : Nat × Nat → List Pr) (pr : List (Nat × Nat)) (s : List Cell × List Int) : Mk s (pairsP tab pr s) := foldl_mk _ (ndF_mk tab) _ _
def PrOk (cs : List Cell) (pr : List (Nat × Nat)) : Prop := ∀ N ∈ pr, N.1 = tObj ∧ ∃ i, (cs.getD i (none, false)).1 = some N
theorem PrOk.body {cs cs' : List Cell} {pr : List (Nat × Nat)} (h : PrOk cs pr) (hb : ∀ i, (cs'.getD i (none, false)).1 = (cs.getD i (none, false)).1) : PrOk cs' pr := fun N hN => by
  obtain ⟨ht, i, hi⟩ := h N hN
  exact ⟨ht, i, (hb i).trans hi⟩
/-- What draining leaves. -/
structure Dr (cs : List Cell) (wk : List Int) (pr : List (Nat × Nat)) (r : List Cell × List (Nat × Nat)) : Prop where
  len : r.1.length = cs.length
  cnt : r.2.length + mc cs ≤ pr.length + wk.length + mc r.1
  body : ∀ i, (r.1.getD i (none, false)).1 = (cs.getD i (none, false)).1
  ok : PrOk cs pr → PrOk r.1 r.2
  mono : mc cs ≤ mc r.1
  some : Somes cs → Somes r.1
theorem drainP_dr (toF : Nat × Nat → List Int) (f : Nat) (cs : List Cell) (wk : List Int) (pr : List (Nat × Nat)) (hok : WorkOk cs wk) (hf : wk.length + (cs.length - mc cs) ≤ f) : Dr cs wk pr (drainP toF f cs wk pr) := by
  induction f generalizing cs wk pr with
  | zero =>
    obtain rfl : wk = [] := List.eq_nil_of_length_eq_zero (by omega)
    exact ⟨rfl, by simp only [drainP]; omega, fun _ => rfl, id, Nat.le_refl _, id⟩
  | succ f ih =>
    rcases snoc_cases wk with rfl | ⟨wk2, r, rfl⟩
    · exact ⟨rfl, by simp only [drainP, List.getLast?_nil]; omega, fun _ => rfl, id, Nat.le_refl _, id⟩
    · obtain ⟨i, N, rfl, hi, hN⟩ := hok r (by simp)
      rw [drainP]
      simp only [List.getLast?_append, List.getLast?_singleton, Option.some_or, List.dropLast_concat]
      rw [show ((i : Int) + 1 - 1).toNat = i by omega, hN]
      dsimp only
      have hk : Mk (cs, wk2) ((toF N).foldl reachP (cs, wk2)) := foldl_mk _ reachP_mk _ _
      generalize (toF N).foldl reachP (cs, wk2) = s at *
      have hl := hk.len
      have hc := hk.cnt
      have hm := hk.mono
      have hle := mc_le s.1
      dsimp only at hl hc hm
      have hlen : (wk2 ++ [(i : Int) + 1]).length = wk2.length + 1 := by simp
      rw [hlen] at hf
      have := ih s.1 s.2 (pr ++ if N.1 = tObj then [N] else []) (hk.ok (fun r hr => hok r (List.mem_append_left _ hr))) (by omega)
      refine ⟨this.len.trans hl, ?_, fun j => (this.body j).trans (hk.body j), fun hp => this.ok ?_, Nat.le_trans hm this.mono, fun h => this.some (hk.some h)⟩
      · have h1 := this.cnt
        have h2 : (if N.1 = tObj then [N] else []).length ≤ 1 := by split <;> simp
        rw [List.length_append] at h1
        rw [hlen]; omega
      · intro N' hN'
        rcases List.mem_append.1 hN' with h | h
        · exact (PrOk.body hp hk.body) N' h
        · split at h
          · rename_i ht
            rw [List.mem_singleton.1 h]; exact ⟨ht, i, (hk.body i).trans hN⟩
          · exact (List.not_mem_nil h).elim
/-- What settling keeps. -/
structure Se (cs : List Cell) (r : List Cell) : Prop where
  len : r.length = cs.length
  body : ∀ i, (r.getD i (none, false)).1 = (cs.getD i (none, false)).1
  some : Somes cs → Somes r
theorem settleP_se (toF : Nat × Nat → List Int) (tab : Nat × Nat → List Pr) (f : Nat) (cs : List Cell) (pr : List (Nat × Nat)) : Se cs (settleP toF tab f cs pr).1 := by
  induction f generalizing cs pr with
  | zero => exact ⟨rfl, fun _ => rfl, id⟩
  | succ f ih =>
    have hp := pairsP_mk tab pr (cs, [])
    rw [settleP]
    split
    · exact ⟨hp.len, hp.body, hp.some⟩
    · have hd := drainP_dr toF (dfu (pairsP tab pr (cs, []))) (pairsP tab pr (cs, [])).1 (pairsP tab pr (cs, [])).2 pr (hp.ok (fun r hr => (List.not_mem_nil hr).elim)) (Nat.le_refl _)
      have hi := ih (drainP toF (dfu (pairsP tab pr (cs, []))) (pairsP tab pr (cs, [])).1 (pairsP tab pr (cs, [])).2 pr).1 (drainP toF (dfu (pairsP tab pr (cs, []))) (pairsP tab pr (cs, [])).1 (pairsP tab pr (cs, [])).2 pr).2
      exact ⟨hi.len.trans (hd.len.trans hp.len), fun i => (hi.body i).trans ((hd.body i).trans (hp.body i)), fun h => hi.some (hd.some (hp.some h))⟩
theorem bodies_ext {cs cs' : List Cell} (hl : cs'.length = cs.length) (hb : ∀ i, (cs'.getD i (none, false)).1 = (cs.getD i (none, false)).1) : bodies cs' = bodies cs := by
  have : cs'.map (·.1) = cs.map (·.1) := by
    refine List.ext_getElem (by simp [hl]) (fun i h1 h2 => ?_)
    have := hb i
    simp only [List.length_map] at h1 h2
    simpa [List.getD_eq_getElem?_getD, List.getElem?_eq_getElem h1, List.getElem?_eq_getElem h2] using this
  have e : ∀ l : List Cell, bodies l = (l.map (·.1)).filterMap id := fun l => by rw [List.filterMap_map]; rfl
  rw [e, e, this]
end Go.Proofs.YtmimnaaofpkndaaDoor.Hp

/- A law on a range over a function whose iterator has blocks of its own (a cursor, say) that turn between the rounds; rounds may stop. -/
set_option linter.unusedVariables false
set_option linter.unusedSimpArgs false
namespace Go.Proofs.YtmimnaaofpkndaaDoor.Hp
open Go.RowKit Go.Proofs.YtmimnaaofpkndaaDoor Go.Shelf

variable {F : Fence} {n : Nat} {P : Program}

/-- What an iterator over xs keeps to: its own blocks (O, known once it has begun) turn, and no others. -/
def SeqB {α : Type} (F : Fence) (m : Nat) (P : Program) (gf : Nat) (args : Array Value) (l : Nat) (encs : α → Array Value) (xs : List α) (O0 : Nat → Prop) (Fin : (Nat → Prop) → World → Prop) (stop : Prop) (W : World) : Prop :=
  ∀ (J Jx : (Nat → Prop) → List α → World → Prop),
    (∀ O pre W1 W2, J O pre W1 → Upd W1 W2 O → J O pre W2) → (∀ O pre W1 W2, Jx O pre W1 → Upd W1 W2 O → Jx O pre W2) → (∀ O pre W1, Jx O pre W1 → stop) →
    (∀ O O' pre W1 W2, J O pre W1 → Upd W1 W2 O → (∀ k, O k → O' k) → (∀ k, O' k → O k ∨ W1.heap.size ≤ k) → (∀ k, O' k → k < W2.heap.size) → J O' pre W2) →
    (∀ O pre x W1, J O pre W1 → (pre ++ [x]) <+: xs → YieldAt F (m - 1) P l (encs x) W1 fun e W' => Upd W1 W' (fun k => ¬ O k) ∧ ((e = .returned (.bool true) ∧ KeepsOthers W1 W' ∧ J O (pre ++ [x]) W') ∨ (e = .returned (.bool false) ∧ Jx O (pre ++ [x]) W'))) →
    (∀ O W1, Upd W W1 O0 → (∀ k, O k → O0 k ∨ W.heap.size ≤ k) → (∀ k, O k → k < W1.heap.size) → J O [] W1) →
    CallsIn F m P gf args W fun e W' => (∃ v, e = .returned v) ∧ ∃ O, Fin O W' ∧ (J O xs W' ∨ ∃ pre, Jx O pre W')

theorem wpIn_range_b {α : Type} {g : Operand} {ps : Array Tmp} {assign body : Code} {Q : Exit → Act → World → Prop} {a : Act} {w : World} (hro : F.round = none) (h1 : 1 ≤ n) {gf : Nat} {argsOf : Nat → Array Value}
    (hres : ∀ l W, ∃ d, (resolve a.eval (rangeCall g l) 0).run P W = .ok d W ∧ (∀ f', Target.leads P W d.target d.args = some f' → F.fn f') ∧ (invoke d.target d.args).run P W = .ok (.enter gf (argsOf l)) W)
    {encs : α → Array Value} (hps : ∀ x, (encs x).size = ps.size) (xs : List α) (stop : Prop) (O0 : Nat → Prop) (hO0 : ∀ k, O0 k → k < w.heap.size) (Fin : (Nat → Prop) → World → Prop)
    (hseq : ∀ l W, Upd w W (fun _ => False) → SeqB F (n - 1) P gf (argsOf l) l encs xs O0 Fin stop W)
    (hFin : ∀ O W l o, Fin O W → ¬ O l → Fin O (W.putObj l o))
    (I : (Nat → Prop) → List α → World → Prop) (Ix : (Nat → Prop) → Code → List α → World → Prop)
    (hst : ∀ O c pre W, Ix O c pre W → stop) (hI : ∀ O pre W W', I O pre W → Upd W W' O → I O pre W') (hIg : ∀ O O' pre W1 W2, I O pre W1 → Upd W1 W2 O → (∀ k, O k → O' k) → (∀ k, O' k → O k ∨ W1.heap.size ≤ k) → (∀ k, O' k → k < W2.heap.size) → I O' pre W2) (hIx : ∀ O c pre W W', Ix O c pre W → Upd W W' O → Ix O c pre W')
    (hIp : ∀ O pre W l o o', I O pre W → l = w.heap.size + 1 → W.heap[l]? = some o → o.isCells = false → I O pre (W.putObj l o')) (hIxp : ∀ O c pre W l o o', Ix O c pre W → l = w.heap.size + 1 → W.heap[l]? = some o → o.isCells = false → Ix O c pre (W.putObj l o'))
    (h0 : ∀ O W, Upd w W O0 → w.heap.size + 2 ≤ W.heap.size → (∀ k, O k → O0 k ∨ w.heap.size ≤ k) → (∀ k, O k → k < W.heap.size) → I O [] W)
    (Ax : (Nat → Prop) → List α → α → Act → World → Prop) (hAx : ∀ O pre x a' W l o o', Ax O pre x a' W → l = w.heap.size + 1 → W.heap[l]? = some o → o.isCells = false → Ax O pre x a' (W.putObj l o'))
    (hassign : ∀ (l : Nat) (O : Nat → Prop) (pre : List α) (x : α) (W : World) (K : Act → World → Prop), I O pre W → (pre ++ [x]) <+: xs → (∀ a' W', KeepsOthers W W' → Upd W W' (fun k => ¬ O k) → I O pre W' → Ax O pre x a' W' → K a' W') →
      assign.wpIn (F.inRound l) (n - 1 - 1) P (Exit.then K (fun _ _ _ => False)) { tmps := (ps.zip (encs x)).foldl (fun t (p, v) => t.setIfInBounds p v) a.tmps, defers := [] } W)
    (hbody : ∀ (l : Nat) (O : Nat → Prop) (pre : List α) (x : α) (a' : Act) (W : World), I O pre W → Ax O pre x a' W → (pre ++ [x]) <+: xs → body.wpIn (F.inRound l) (n - 1 - 1) P (stepsOn O (I O) (Ix O) (pre ++ [x]) W) a' W)
    (hdone : ∀ (O : Nat → Prop) (D : Nat) (W : World), D = w.heap.size → ¬ O D → Fin O W → I O xs W → W.heap[D]? = some (.deferred (some [])) → Q .normal { a with defers := markD D :: a.defers } W)
    (hstop : ∀ (O : Nat → Prop) (D : Nat) (c : Code) (pre : List α) (W : World), D = w.heap.size → ¬ O D → Fin O W → Ix O c pre W → W.heap[D]? = some (.deferred (some [])) → c.wpIn F n P Q { a with defers := markD D :: a.defers } W) :
    (Code.rangeFunc g ps assign body).wpIn F n P Q a w := by
  refine wpIn_rangeFunc fun fn hfn => ?_
  rw [hro]
  let rec_ : LoopState → Option Code → Loop := fun st pe => { state := st, pending := pe, fn, tmps := a.tmps, params := ps, assign, body, defers := w.heap.size }
  let W1 : World := (w.alloc (.deferred (some []))).alloc (.loop (rec_ .ready none))
  have sz1 : W1.heap.size = w.heap.size + 2 := by simp [W1]
  have rL : W1.heap[w.heap.size + 1]? = some (.loop (rec_ .ready none)) := by
    have h := World.alloc_heap_new (w.alloc (.deferred (some []))) (.loop (rec_ .ready none))
    rwa [World.size_alloc] at h
  have rD : W1.heap[w.heap.size]? = some (.deferred (some [])) := (Below.heap_alloc _ _ _ (by simp)).trans (World.alloc_heap_new w _)
  have u01 : ∀ M, Upd w W1 M := fun M => ((Upd.refl w M).alloc _).alloc _
  obtain ⟨d, hd1, hd2, hd3⟩ := hres (w.heap.size + 1) W1
  refine ⟨w.heap.size + 1, [markD w.heap.size], W1, d, W1, gf, argsOf (w.heap.size + 1), W1, run_enterLoop_outer _ _ _ _ _, hd1, hd2, hd3, fun _ => h1, ?_⟩
  -- the two blocks of book-keeping lie as they lay, and are none of the iterator's
  let B : (Nat → Prop) → LoopState → Option Code → World → Prop := fun O st pe W => W.heap[w.heap.size + 1]? = some (.loop (rec_ st pe)) ∧ W.heap[w.heap.size]? = some (.deferred (some [])) ∧ ¬ O (w.heap.size + 1) ∧ ¬ O w.heap.size
  have Bk : ∀ {O st pe W W'}, B O st pe W → KeepsOthers W W' → B O st pe W' := fun hb hk => ⟨hk.same _ _ hb.1 rfl, hk.same _ _ hb.2.1 rfl, hb.2.2.1, hb.2.2.2⟩
  have Bu : ∀ {O st pe W W'}, B O st pe W → Upd W W' O → B O st pe W' := fun hb hu => ⟨(hu.block _ (Array.getElem?_eq_some_iff.1 hb.1).1 hb.2.2.1).trans hb.1, (hu.block _ (Array.getElem?_eq_some_iff.1 hb.2.1).1 hb.2.2.2).trans hb.2.1, hb.2.2.1, hb.2.2.2⟩
  refine (hseq (w.heap.size + 1) W1 (u01 _) (fun O pre W => I O pre W ∧ B O .ready none W) (fun O pre W => ∃ c, Ix O c pre W ∧ B O .done (some c) W)
    (fun O pre W W' h u => ⟨hI _ _ _ _ h.1 u, Bu h.2 u⟩) (fun O pre W W' h u => by obtain ⟨c, h1, h2⟩ := h; exact ⟨c, hIx _ _ _ _ _ h1 u, Bu h2 u⟩) (fun O pre W h => by obtain ⟨c, h1, _⟩ := h; exact hst _ _ _ _ h1) (fun O O' pre W W' h u h1 h2 h3 => by
    have hb := Bu h.2 u
    have l1 := (Array.getElem?_eq_some_iff.1 h.2.1).1
    have l2 := (Array.getElem?_eq_some_iff.1 h.2.2.1).1
    exact ⟨hIg _ _ _ _ _ h.1 u h1 h2 h3, hb.1, hb.2.1, fun e => (h2 _ e).elim h.2.2.2.1 (fun e => by omega), fun e => (h2 _ e).elim h.2.2.2.2 (fun e => by omega)⟩) ?_ ?_).mono ?_
  · rintro O pre x W ⟨hi, hb⟩ hpre
    refine ⟨fn, _, assign, body, run_yield (P := P) (args := encs x) hb.1 (hps x), roundIn_of_wpIn hfn (hassign _ O pre x W _ hi hpre ?_)⟩
    intro a' Wa hk1 hu1 hi1 hax
    have hb1 := Bk hb hk1
    have hlt : w.heap.size + 1 < Wa.heap.size := (Array.getElem?_eq_some_iff.1 hb1.1).1
    refine ⟨_, run_beginRound hb1.1 rfl, ?_⟩
    have hb2 : B O .busy none (Wa.putObj (w.heap.size + 1) (.loop (rec_ .busy none))) := ⟨World.putObj_heap_same hlt, (World.putObj_heap_other (by omega)).trans hb1.2.1, hb1.2.2⟩
    have hu2 : Upd W (Wa.putObj (w.heap.size + 1) (.loop (rec_ .busy none))) (fun k => ¬ O k) := hu1.trans ((Upd.put _ _ _).mono (fun k _ e => by rw [e]; exact hb.2.2.1))
    refine wpIn_mono (hbody _ O pre x a' (Wa.putObj (w.heap.size + 1) (.loop (rec_ .busy none))) (hIp _ _ _ _ _ _ hi1 (by omega) hb1.1 rfl) (hAx _ _ _ _ _ _ _ _ hax (by omega) hb1.1 rfl) hpre) ?_
    have fin : ∀ (jump : Option Code) (W3 : World), KeepsOthers (Wa.putObj (w.heap.size + 1) (.loop (rec_ .busy none))) W3 → Upd (Wa.putObj (w.heap.size + 1) (.loop (rec_ .busy none))) W3 (fun k => ¬ O k) →
        (Instr.endRound (w.heap.size + 1) jump).run P W3 = .ok (.bool jump.isNone) (W3.putObj (w.heap.size + 1) (.loop (rec_ (if jump.isNone then .ready else .done) jump))) ∧
        W3.heap[w.heap.size + 1]? = some (.loop (rec_ .busy none)) ∧
        B O (if jump.isNone then .ready else .done) jump (W3.putObj (w.heap.size + 1) (.loop (rec_ (if jump.isNone then .ready else .done) jump))) ∧
        Upd W (W3.putObj (w.heap.size + 1) (.loop (rec_ (if jump.isNone then .ready else .done) jump))) (fun k => ¬ O k) := fun jump W3 hk3 hu3 => by
      have hb3 := Bk hb2 hk3
      exact ⟨run_endRound (P := P) jump hb3.1, hb3.1, ⟨World.putObj_heap_same (Array.getElem?_eq_some_iff.1 hb3.1).1, (World.putObj_heap_other (by omega)).trans hb3.2.1, hb3.2.2⟩,
        (hu2.trans hu3).trans ((Upd.put _ _ _).mono (fun k _ e => by rw [e]; exact hb.2.2.1))⟩
    rintro e a3 W3 hp
    cases e with
    | normal =>
      obtain ⟨hk3, hu3, hi3⟩ := hp
      obtain ⟨hr, hl3, hb4, hu4⟩ := fin none W3 hk3 hu3
      have hko : KeepsOthers W (W3.putObj (w.heap.size + 1) (.loop (rec_ .ready none))) := ⟨hu4.size, fun k o hk ho => by
        by_cases e : k = w.heap.size + 1
        · subst e
          rw [hb.1] at hk
          cases hk
          exact World.putObj_heap_same (Array.getElem?_eq_some_iff.1 hl3).1
        · have h1 := hk1.same k o hk ho
          have h2 : (Wa.putObj (w.heap.size + 1) (.loop (rec_ .busy none))).heap[k]? = some o := (World.putObj_heap_other e).trans h1
          exact (World.putObj_heap_other e).trans (hk3.same k o h2 ho)⟩
      exact ⟨_, _, hr, hu4, .inl ⟨rfl, hko, hIp _ _ _ _ _ _ hi3 (by omega) hl3 rfl, hb4⟩⟩
    | ret =>
      obtain ⟨hk3, hu3, hi3⟩ := hp
      obtain ⟨hr, hl3, hb4, hu4⟩ := fin (some .ret) W3 hk3 hu3
      exact ⟨_, _, hr, hu4, .inr ⟨rfl, _, hIxp _ _ _ _ _ _ _ hi3 (by omega) hl3 rfl, hb4⟩⟩
    | exit id =>
      obtain ⟨hk3, hu3, hi3⟩ := hp
      obtain ⟨hr, hl3, hb4, hu4⟩ := fin (some (.exit id)) W3 hk3 hu3
      exact ⟨_, _, hr, hu4, .inr ⟨rfl, _, hIxp _ _ _ _ _ _ _ hi3 (by omega) hl3 rfl, hb4⟩⟩
    | goto t => exact hp.elim
    | panic ch => exact hp.elim
    | outgrown => exact hp.elim
  · intro O W u hO hOl
    have hO' : ∀ k, O k → O0 k ∨ w.heap.size ≤ k := fun k hk => (hO k hk).imp id (fun h => by omega)
    have nO : ∀ k, k < w.heap.size + 2 → w.heap.size ≤ k → ¬ O k := fun k h1 h2 h => by
      rcases hO k h with h | h
      · have := hO0 k h; omega
      · rw [sz1] at h; omega
    have n0 : ∀ k, w.heap.size ≤ k → ¬ O0 k := fun k hk h => by have := hO0 k h; omega
    exact ⟨h0 O W ((u01 _).trans u) (by have := u.size; rw [sz1] at this; exact this) hO' hOl, (u.block _ (by omega) (n0 _ (by omega))).trans rL, (u.block _ (by omega) (n0 _ (by omega))).trans rD, nO _ (by omega) (by omega), nO _ (by omega) (by omega)⟩
  · rintro e W2 ⟨⟨v, rfl⟩, O, hf, (⟨hi, hb⟩ | ⟨pre, c, hi, hb⟩)⟩
    · exact ⟨none, _, run_endLoop (P := P) hb.1 (by simp [rec_]), hdone O _ _ rfl hb.2.2.2 (hFin _ _ _ _ hf hb.2.2.1) (hIp _ _ _ _ _ _ hi (by omega) hb.1 rfl) ((World.putObj_heap_other (by omega)).trans hb.2.1)⟩
    · exact ⟨some c, _, run_endLoop (P := P) hb.1 (by simp [rec_]), hstop O _ c pre _ rfl hb.2.2.2 (hFin _ _ _ _ hf hb.2.2.1) (hIxp _ _ _ _ _ _ _ hi (by omega) hb.1 rfl) ((World.putObj_heap_other (by omega)).trans hb.2.1)⟩

/-- What a round comes to that goes on. -/
def onlyOn {α : Type} (O : Nat → Prop) (I : List α → World → Prop) (ys : List α) (W : World) : Exit → Act → World → Prop
  | .normal, _, W' => KeepsOthers W W' ∧ Upd W W' (fun k => ¬ O k) ∧ I ys W'
  | _, _, _ => False
theorem wpIn_range_g {α : Type} {g : Operand} {ps : Array Tmp} {assign body : Code} {Q : Exit → Act → World → Prop} {a : Act} {w : World} (hro : F.round = none) (h1 : 1 ≤ n) {gf : Nat} {argsOf : Nat → Array Value}
    (hres : ∀ l W, ∃ d, (resolve a.eval (rangeCall g l) 0).run P W = .ok d W ∧ (∀ f', Target.leads P W d.target d.args = some f' → F.fn f') ∧ (invoke d.target d.args).run P W = .ok (.enter gf (argsOf l)) W)
    {encs : α → Array Value} (hps : ∀ x, (encs x).size = ps.size) (xs : List α) (O0 : Nat → Prop) (hO0 : ∀ k, O0 k → k < w.heap.size) (Fin : (Nat → Prop) → World → Prop)
    (hseq : ∀ l W, Upd w W (fun _ => False) → SeqB F (n - 1) P gf (argsOf l) l encs xs O0 Fin False W)
    (hFin : ∀ O W l o, Fin O W → ¬ O l → Fin O (W.putObj l o))
    (I : (Nat → Prop) → List α → World → Prop) (hI : ∀ O pre W W', I O pre W → Upd W W' O → I O pre W') (hIg : ∀ O O' pre W1 W2, I O pre W1 → Upd W1 W2 O → (∀ k, O k → O' k) → (∀ k, O' k → O k ∨ W1.heap.size ≤ k) → (∀ k, O' k → k < W2.heap.size) → I O' pre W2)
    (hIp : ∀ O pre W l o o', I O pre W → w.heap.size ≤ l → W.heap[l]? = some o → o.isCells = false → I O pre (W.putObj l o'))
    (h0 : ∀ O W, Upd w W O0 → (∀ k, O k → O0 k ∨ w.heap.size ≤ k) → (∀ k, O k → k < W.heap.size) → I O [] W) (a₁ : α → Act)
    (hassign : ∀ (l : Nat) (x : α) (W : World) (K : Act → World → Prop), K (a₁ x) W →
      assign.wpIn (F.inRound l) (n - 1 - 1) P (Exit.then K (fun _ _ _ => False)) { tmps := (ps.zip (encs x)).foldl (fun t (p, v) => t.setIfInBounds p v) a.tmps, defers := [] } W)
    (hbody : ∀ (l : Nat) (O : Nat → Prop) (pre : List α) (x : α) (W : World), I O pre W → (pre ++ [x]) <+: xs → body.wpIn (F.inRound l) (n - 1 - 1) P (onlyOn O (I O) (pre ++ [x]) W) (a₁ x) W)
    (hdone : ∀ (O : Nat → Prop) (D : Nat) (W : World), w.heap.size ≤ D → ¬ O D → Fin O W → I O xs W → W.heap[D]? = some (.deferred (some [])) → Q .normal { a with defers := markD D :: a.defers } W) :
    (Code.rangeFunc g ps assign body).wpIn F n P Q a w := by
  refine wpIn_range_b hro h1 hres hps xs False O0 hO0 Fin hseq hFin I (fun _ _ _ _ => False) (fun _ _ _ _ h => h) hI hIg (fun _ _ _ _ _ h _ => h) (fun O pre W l o o' h hl => hIp O pre W l o o' h (by omega)) (fun _ _ _ _ _ _ _ h _ _ _ => h) (fun O W u _ => h0 O W u) (fun _ _ x a' _ => a' = a₁ x) (fun _ _ _ _ _ _ _ _ h _ _ _ => h)
    (fun l O pre x W K hi _ hK => hassign l x W K (hK _ _ (KeepsOthers.refl _) (Upd.refl _ _) hi rfl)) (fun l O pre x a' W hi ha hp => ?_) (fun O D W hD => hdone O D W (Nat.le_of_eq hD.symm)) (fun _ _ _ _ _ _ _ _ h _ => h.elim)
  subst ha
  refine wpIn_mono (hbody l O pre x W hi hp) fun e a W' h => ?_
  cases e <;> first | exact h | exact h.elim
end Go.Proofs.YtmimnaaofpkndaaDoor.Hp

/- The heap: the state of a marking whose bodies have blocks of their own that may turn. -/
set_option linter.unusedVariables false
set_option linter.unusedSimpArgs false
namespace Go.Proofs.YtmimnaaofpkndaaDoor.Hp
open Go.RowKit Go.Proofs.YtmimnaaofpkndaaDoor Go.Shelf
attribute [local go_sem] Oper.semAt_some

abbrev tMkP : Nat := 101
/-- The blocks of a marking and of its arena. -/
structure Far (O : Nat → Prop) (A M bx : Nat) (cv fv rv wv pv : Value) : Prop where
  a : ¬ O A
  m : ¬ O M
  b : ¬ O bx
  c : ∀ g, cv.ownBlock = some g → ¬ O g
  f : ∀ g, fv.ownBlock = some g → ¬ O g
  r : ∀ g, rv.ownBlock = some g → ¬ O g
  w : ∀ g, wv.ownBlock = some g → ¬ O g
  p : ∀ g, pv.ownBlock = some g → ¬ O g
theorem Far.sub {O O' : Nat → Prop} {A M bx : Nat} {cv fv rv wv pv : Value} (h : Far O A M bx cv fv rv wv pv) (hs : ∀ k, O' k → O k) : Far O' A M bx cv fv rv wv pv :=
  ⟨fun k => h.a (hs _ k), fun k => h.m (hs _ k), fun k => h.b (hs _ k), fun g hg k => h.c g hg (hs _ k), fun g hg k => h.f g hg (hs _ k), fun g hg k => h.r g hg (hs _ k), fun g hg k => h.w g hg (hs _ k), fun g hg k => h.p g hg (hs _ k)⟩
/-- How many cells are marked, by what lies in memory. -/
def mkN (W : World) (A : Nat) : Nat := match W.cell? ⟨A, 0, none⟩ with
  | some (.slice (some g) n _) => ((List.range n).filter fun i => match W.cell? ⟨g.block, i * 2 + 1, none⟩ with | some (.bool b) => b | _ => false).length
  | _ => 0
def wkN (W : World) (M : Nat) : Nat := match W.cell? ⟨M, 1, none⟩ with
  | some (.slice _ n _) => n
  | _ => 0
theorem range_mc (cs : List Cell) (f : Nat → Bool) (hf : ∀ i, i < cs.length → f i = (cs.getD i (none, false)).2) : ((List.range cs.length).filter f).length = mc cs := by
  unfold mc
  have e1 : (List.range cs.length).filter f = (List.range cs.length).filter (fun i => (cs.getD i (none, false)).2) := List.filter_congr fun i hi => hf i (List.mem_range.1 hi)
  have e2 : cs = (List.range cs.length).map (fun i => cs.getD i (none, false)) := List.ext_getElem (by simp) fun i h1 h2 => by simp [List.getD_eq_getElem?_getD, List.getElem?_eq_getElem h1]
  rw [e1]
  conv => rhs; rw [e2, List.filter_map, List.length_map]
  rfl
theorem MkS.mkN {W : World} {A B M B1 : Nat} {cv fv rv wv pv : Value} {cs : List Cell} {fr ro : List Int} {live : Int} {wk : List Int} {pr : List (Nat × Nat)} (h : MkS W A B M B1 cv fv rv wv pv cs fr ro live wk pr) : mkN W A = mc cs := by
  obtain ⟨a, cap, rfl, ha⟩ := own_shape h.ar.cells
  unfold Go.Proofs.YtmimnaaofpkndaaDoor.Hp.mkN
  rw [h.ar.blk.cell]
  simp only [List.getElem?_toArray, List.getElem?_cons_zero]
  rcases Nat.eq_zero_or_pos cs.length with e | e
  · have : cs = [] := List.eq_nil_of_length_eq_zero e
    subst this
    cases a <;> rfl
  · obtain ⟨g, rfl⟩ := ha e
    refine range_mc cs _ fun i hi => ?_
    have := (h.ar.cells.cellAt (i * 2 + 1) (show i * 2 + 1 < cs.length * 2 by omega)).trans (clCells_get cs i hi).2
    dsimp only
    rw [this]
theorem MkS.wkN {W : World} {A B M B1 : Nat} {cv fv rv wv pv : Value} {cs : List Cell} {fr ro : List Int} {live : Int} {wk : List Int} {pr : List (Nat × Nat)} (h : MkS W A B M B1 cv fv rv wv pv cs fr ro live wk pr) : wkN W M = wk.length := by
  obtain ⟨a, cap, rfl, _⟩ := own_shape h.work
  unfold Go.Proofs.YtmimnaaofpkndaaDoor.Hp.wkN
  rw [h.mkb.cell]; rfl
theorem MkS.upd {W W' : World} {A B M B1 : Nat} {cv fv rv wv pv : Value} {cs : List Cell} {fr ro : List Int} {live : Int} {wk : List Int} {pr : List (Nat × Nat)} {P : Nat → Prop} (h : MkS W A B M B1 cv fv rv wv pv cs fr ro live wk pr) (u : Upd W W' P)
    (ha : ¬ P A) (hm : ¬ P M) (hc : ∀ g, cv.ownBlock = some g → ¬ P g) (hf : ∀ g, fv.ownBlock = some g → ¬ P g) (hr : ∀ g, rv.ownBlock = some g → ¬ P g) (hw : ∀ g, wv.ownBlock = some g → ¬ P g) (hp : ∀ g, pv.ownBlock = some g → ¬ P g) : MkS W' A B M B1 cv fv rv wv pv cs fr ro live wk pr :=
  ⟨h.ar.upd u ha hc hf hr, u.blk h.mkb hm, u.own h.work hw, u.own h.prs hp, h.fvB, h.rvB⟩
/-- The blocks of a marking lie in the world. -/
theorem MkS.in_ {W : World} {A B M B1 : Nat} {cv fv rv wv pv : Value} {cs : List Cell} {fr ro : List Int} {live : Int} {wk : List Int} {pr : List (Nat × Nat)} (h : MkS W A B M B1 cv fv rv wv pv cs fr ro live wk pr) :
    A < W.heap.size ∧ M < W.heap.size ∧ (∀ g, cv.ownBlock = some g → g < W.heap.size) ∧ (∀ g, fv.ownBlock = some g → g < W.heap.size) ∧ (∀ g, rv.ownBlock = some g → g < W.heap.size) ∧ (∀ g, wv.ownBlock = some g → g < W.heap.size) ∧ (∀ g, pv.ownBlock = some g → g < W.heap.size) :=
  ⟨h.ar.blk.lt, h.mkb.lt, fun g hg => (h.ar.cells.lt g hg).2, fun g hg => (h.ar.free.lt g hg).2, fun g hg => (h.ar.roots.lt g hg).2, fun g hg => (h.work.lt g hg).2, fun g hg => (h.prs.lt g hg).2⟩
/-- What is no cells is none of a marking's blocks. -/
theorem MkS.put {W : World} {A B M B1 : Nat} {cv fv rv wv pv : Value} {cs : List Cell} {fr ro : List Int} {live : Int} {wk : List Int} {pr : List (Nat × Nat)} (h : MkS W A B M B1 cv fv rv wv pv cs fr ro live wk pr) {l : Nat} {o : Obj} (o' : Obj) (hl : W.heap[l]? = some o) (ho : o.isCells = false) : MkS (W.putObj l o') A B M B1 cv fv rv wv pv cs fr ro live wk pr := by
  have nb : ∀ {g : Nat} {t : TypeId} {xs : Array Value}, Blk W g t xs → ¬ g = l := fun hb e => by subst e; rw [show W.heap[_]? = _ from hb] at hl; cases hl; cases ho
  have no : ∀ {b s n : Nat} {t : TypeId} {v : Value} {xs : List Value}, W.ownsRow b t s v n xs → ∀ g, v.ownBlock = some g → ¬ g = l := fun hv g hg e => by
    subst e
    obtain ⟨c, f, h1⟩ := own_kind hv _ hg
    rw [h1] at hl; cases hl; cases ho
  exact h.upd (Upd.put W l o') (nb h.ar.blk) (nb h.mkb) (no h.ar.cells) (no h.ar.free) (no h.ar.roots) (no h.work) (no h.prs)

/-- The state of a marking; O: the blocks that turn while bodies are ranged over; Oo: those of them that the collection began with. -/
structure DrG (Oo : Nat → Prop) (w0 w1 : World) (A B M B1 bx : Nat) (cv fv rv : Value) (fr ro : List Int) (live : Int) (Ds : List Nat) (cs : List Cell) (wk : List Int) (pr : List (Nat × Nat)) (O : Nat → Prop) (W : World) : Prop where
  mks : ∃ wv pv, MkS W A B M B1 cv fv rv wv pv cs fr ro live wk pr ∧ Far O A M bx cv fv rv wv pv
  upd : Upd w0 W (fun k => cv.ownBlock = some k ∨ B1 ≤ k ∨ Oo k)
  ko : KeepsOthers w1 W
  box : Blk W bx tMkP #[.pointer (some ⟨M, 0, none⟩)]
  ds : ∀ D ∈ Ds, w1.heap.size ≤ D ∧ W.heap[D]? = some (.deferred (some [])) ∧ ¬ O D
  nd : Ds.Nodup
  kb : ∀ g xs, Blk w1 g tMkP xs → Blk W g tMkP xs
  old : ∀ k, O k → Oo k ∨ B1 ≤ k
  fit : ∀ k o, O k → w1.heap[k]? = some o → ∃ c t f, o = .cells c t f ∧ t ≠ tMkP
  lt : ∀ k, O k → k < W.heap.size
section
variable {Oo O O' P : Nat → Prop} {w0 w1 W W' : World} {A B M B1 bx : Nat} {cv fv rv : Value} {fr ro : List Int} {live : Int} {Ds : List Nat} {cs : List Cell} {wk : List Int} {pr : List (Nat × Nat)}
theorem DrG.fb (h : DrG Oo w0 w1 A B M B1 bx cv fv rv fr ro live Ds cs wk pr O W) : W.cell? ⟨bx, 0, none⟩ = some (.pointer (some ⟨M, 0, none⟩)) := by rw [h.box.cell]; rfl
theorem DrG.ne (h : DrG Oo w0 w1 A B M B1 bx cv fv rv fr ro live Ds cs wk pr O W) : M ≠ bx := by
  obtain ⟨wv, pv, hm, _⟩ := h.mks
  exact hm.mkb.ne_ h.box (by decide)
theorem DrG.sub (h : DrG Oo w0 w1 A B M B1 bx cv fv rv fr ro live Ds cs wk pr O W) (hs : ∀ k, O' k → O k) : DrG Oo w0 w1 A B M B1 bx cv fv rv fr ro live Ds cs wk pr O' W := by
  obtain ⟨wv, pv, hm, hf⟩ := h.mks
  exact ⟨⟨wv, pv, hm, hf.sub hs⟩, h.upd, h.ko, h.box, fun D hD => ⟨(h.ds D hD).1, (h.ds D hD).2.1, fun k => (h.ds D hD).2.2 (hs _ k)⟩, h.nd, h.kb, fun k hk => h.old k (hs k hk), fun k o hk => h.fit k o (hs k hk), fun k hk => h.lt k (hs k hk)⟩
/-- The bodies' own blocks turn. -/
theorem DrG.own (h : DrG Oo w0 w1 A B M B1 bx cv fv rv fr ro live Ds cs wk pr O W) (u : Upd W W' O) : DrG Oo w0 w1 A B M B1 bx cv fv rv fr ro live Ds cs wk pr O W' := by
  obtain ⟨wv, pv, hm, hf⟩ := h.mks
  have hg : ∀ k o, w1.heap[k]? = some o → o.isCells = false → ¬ O k := fun k o ho hc hk => by
    obtain ⟨c, t, f, rfl, _⟩ := h.fit k o hk ho
    cases hc
  refine ⟨⟨wv, pv, hm.upd u hf.a hf.m hf.c hf.f hf.r hf.w hf.p, hf⟩, h.upd.trans (u.mono fun k _ hk => (h.old k hk).elim (fun e => .inr (.inr e)) (fun e => .inr (.inl e))), ⟨Nat.le_trans h.ko.size u.size, fun k o ho hc => ?_⟩, u.blk h.box hf.b, fun D hD => ?_, h.nd, fun g xs hb => u.blk (h.kb g xs hb) (fun hk => ?_), h.old, h.fit, fun k hk => Nat.lt_of_lt_of_le (h.lt k hk) u.size⟩
  · have h1 := h.ko.same k o ho hc
    exact (u.block k (Array.getElem?_eq_some_iff.1 h1).1 (hg k o ho hc)).trans h1
  · obtain ⟨d1, d2, d3⟩ := h.ds D hD
    exact ⟨d1, (u.block D (Array.getElem?_eq_some_iff.1 d2).1 d3).trans d2, d3⟩
  · obtain ⟨c, t, f, e, hne⟩ := h.fit g _ hk hb
    cases e
    exact hne rfl
/-- A range begins: its iterator may have new blocks of its own. -/
theorem DrG.wide (h : DrG Oo w0 w1 A B M B1 bx cv fv rv fr ro live Ds cs wk pr O W) (hB : B1 ≤ W.heap.size) (u : Upd W W' O) (hO : ∀ k, O' k → O k ∨ W.heap.size ≤ k) (hl : ∀ k, O' k → k < W'.heap.size) : DrG Oo w0 w1 A B M B1 bx cv fv rv fr ro live Ds cs wk pr O' W' := by
  have h2 := h.own u
  obtain ⟨wv, pv, hm, hf⟩ := h.mks
  obtain ⟨wv2, pv2, hm2, hf2⟩ := h2.mks
  have hm3 := hm.upd u hf.a hf.m hf.c hf.f hf.r hf.w hf.p
  obtain ⟨i1, i2, i3, i4, i5, i6, i7⟩ := hm.in_
  have n : ∀ k, k < W.heap.size → ¬ O k → ¬ O' k := fun k hk hn h3 => (hO k h3).elim hn (fun e => by omega)
  refine ⟨⟨wv, pv, hm3, n _ i1 hf.a, n _ i2 hf.m, n _ h.box.lt hf.b, fun g hg => n _ (i3 g hg) (hf.c g hg), fun g hg => n _ (i4 g hg) (hf.f g hg), fun g hg => n _ (i5 g hg) (hf.r g hg), fun g hg => n _ (i6 g hg) (hf.w g hg), fun g hg => n _ (i7 g hg) (hf.p g hg)⟩, h2.upd, h2.ko, h2.box, fun D hD => ?_, h.nd, h2.kb, fun k hk => ?_, fun k o hk ho => ?_, hl⟩
  · obtain ⟨d1, d2, d3⟩ := h.ds D hD
    exact ⟨d1, (h2.ds D hD).2.1, n _ (Array.getElem?_eq_some_iff.1 d2).1 d3⟩
  · exact (hO k hk).elim (h.old k) (fun e => .inr (Nat.le_trans hB e))
  · refine (hO k hk).elim (fun e => h.fit k o e ho) (fun e => ?_)
    have := (Array.getElem?_eq_some_iff.1 ho).1
    have := h.ko.size
    omega
theorem DrG.put (h : DrG Oo w0 w1 A B M B1 bx cv fv rv fr ro live Ds cs wk pr O W) {l : Nat} {o : Obj} (o' : Obj) (h1 : w1.heap.size ≤ l) (hB : B1 ≤ l) (hDs : ∀ D ∈ Ds, D ≠ l) (hl : W.heap[l]? = some o) (ho : o.isCells = false) : DrG Oo w0 w1 A B M B1 bx cv fv rv fr ro live Ds cs wk pr O (W.putObj l o') := by
  obtain ⟨wv, pv, hm, hf⟩ := h.mks
  have u := Upd.put W l o'
  have nb : ∀ {g : Nat} {t : TypeId} {xs : Array Value}, Blk W g t xs → ¬ g = l := fun hb e => by subst e; rw [show W.heap[_]? = _ from hb] at hl; cases hl; cases ho
  refine ⟨⟨wv, pv, hm.put o' hl ho, hf⟩, h.upd.trans (u.mono fun k _ e => .inr (.inl (e ▸ hB))), ⟨Nat.le_trans h.ko.size u.size, fun k o2 ho2 hc => ?_⟩, u.blk h.box (nb h.box), fun D hD => ⟨(h.ds D hD).1, (World.putObj_heap_other (hDs D hD)).trans (h.ds D hD).2.1, (h.ds D hD).2.2⟩, h.nd, fun g xs hb => u.blk (h.kb g xs hb) (nb (h.kb g xs hb)), h.old, h.fit, fun k hk => Nat.lt_of_lt_of_le (h.lt k hk) u.size⟩
  have h2 := h.ko.same k o2 ho2 hc
  have := (Array.getElem?_eq_some_iff.1 ho2).1
  exact (World.putObj_heap_other (by omega)).trans h2
/-- A step of the marking's own. -/
theorem DrG.turn (h : DrG Oo w0 w1 A B M B1 bx cv fv rv fr ro live Ds cs wk pr O W) {cs' : List Cell} {wk' : List Int} {pr' : List (Nat × Nat)} (hM : ∃ wv pv, MkS W' A B M B1 cv fv rv wv pv cs' fr ro live wk' pr' ∧ Far O A M bx cv fv rv wv pv) (hU : Upd W W' P) (hP : ∀ k, P k → cv.ownBlock = some k ∨ B1 ≤ k) (hb : ∀ g xs, Blk W g tMkP xs → ¬ P g) (hK : KeepsOthers W W') :
    DrG Oo w0 w1 A B M B1 bx cv fv rv fr ro live Ds cs' wk' pr' O W' :=
  ⟨hM, h.upd.trans (hU.mono fun k _ e => (hP k e).imp id .inl), h.ko.trans hK, hU.blk h.box (hb _ _ h.box), fun D hD => ⟨(h.ds D hD).1, hK.same _ _ (h.ds D hD).2.1 rfl, (h.ds D hD).2.2⟩, h.nd, fun g xs h0 => hU.blk (h.kb g xs h0) (hb g xs (h.kb g xs h0)), h.old, h.fit, fun k hk => Nat.lt_of_lt_of_le (h.lt k hk) hU.size⟩
theorem DrG.mark (h : DrG Oo w0 w1 A B M B1 bx cv fv rv fr ro live Ds cs wk pr O W) {D b : Nat} (hb : w1.heap.size ≤ b) (hD : b ≤ D) (hDs : ∀ E ∈ Ds, E < b) (hk : W.heap[D]? = some (.deferred (some []))) (hO : ¬ O D) : DrG Oo w0 w1 A B M B1 bx cv fv rv fr ro live (D :: Ds) cs wk pr O W :=
  ⟨h.mks, h.upd, h.ko, h.box, fun E hE => by
    rcases List.mem_cons.1 hE with rfl | hE
    · exact ⟨by omega, hk, hO⟩
    · exact h.ds E hE, List.nodup_cons.2 ⟨fun hm => by have := hDs D hm; omega, h.nd⟩, h.kb, h.old, h.fit, h.lt⟩
theorem DrG.noDs (h : DrG Oo w0 w1 A B M B1 bx cv fv rv fr ro live Ds cs wk pr O W) : DrG Oo w0 w1 A B M B1 bx cv fv rv fr ro live [] cs wk pr O W :=
  ⟨h.mks, h.upd, h.ko, h.box, fun D hD => (List.not_mem_nil hD).elim, List.nodup_nil, h.kb, h.old, h.fit, h.lt⟩
theorem DrG.drewN (h : DrG Oo w0 w1 A B M B1 bx cv fv rv fr ro live Ds cs wk pr O W) (n : Nat) : DrG Oo w0 w1 A B M B1 bx cv fv rv fr ro live Ds cs wk pr O (W.drewN n) := by
  obtain ⟨wv, pv, hm, hf⟩ := h.mks
  exact h.turn (P := fun _ => False) ⟨wv, pv, hm.drewN n, hf⟩ ((Upd.refl W (fun _ => False)).drewN n) (fun k e => e.elim) (fun _ _ _ e => e) ⟨Nat.le_refl _, fun _ _ h _ => h⟩
theorem DrG.row {v : Value} (h : DrG Oo w0 w1 A B M B1 bx cv fv rv fr ro live Ds cs wk pr O W) (hv : W.cell? ⟨M, 2, none⟩ = some v) : ∃ wv, MkS W A B M B1 cv fv rv wv v cs fr ro live wk pr ∧ Far O A M bx cv fv rv wv v := by
  obtain ⟨wv, pv, hm, hf⟩ := h.mks
  rw [hm.f2] at hv
  cases hv
  exact ⟨wv, hm, hf⟩
theorem DrG.mkN (h : DrG Oo w0 w1 A B M B1 bx cv fv rv fr ro live Ds cs wk pr O W) : mkN W A = mc cs := by
  obtain ⟨wv, pv, hm, _⟩ := h.mks
  exact hm.mkN
theorem DrG.wkN (h : DrG Oo w0 w1 A B M B1 bx cv fv rv fr ro live Ds cs wk pr O W) : wkN W M = wk.length := by
  obtain ⟨wv, pv, hm, _⟩ := h.mks
  exact hm.wkN
end
/-- What bodies are to a marking: a state with blocks of their own, what each yields, its pairs. -/
structure Bods where
  S : (Nat → Prop) → World → Prop
  to_ : Nat × Nat → List Int
  tab : Nat × Nat → List Pr
def eachF (t : Nat) : Nat := if t = tObj then 121 else if t = tEnv then 126 else 127
/-- What an iterator leaves. -/
def BFin (X : Bods) (O : Nat → Prop) (W : World) : Prop := ∃ O', X.S O' W ∧ ∀ k, O' k → O k
structure BodsOk (X : Bods) (bs : Nat × Nat → Prop) : Prop where
  keep : ∀ {O : Nat → Prop} {W W' : World} {P : Nat → Prop}, X.S O W → Upd W W' P → (∀ k, O k → ¬ P k) → X.S O W'
  fit : ∀ {O : Nat → Prop} {W : World} {k : Nat}, X.S O W → O k → ∃ c t f, W.heap[k]? = some (.cells c t f) ∧ t ≠ tMkP
  typ : ∀ N, bs N → N.1 = tObj ∨ N.1 = tEnv ∨ N.1 = tMark
  each : ∀ N, bs N → ∀ O W l, X.S O W → SeqB Fence.wide 8 Tryd.prog (eachF N.1) #[.pointer (some ⟨N.2, 0, none⟩), .func (.yield l) #[] #[]] l (fun x : Int => #[.int .i64 x]) (X.to_ N) O (BFin X) False W
  pairs : ∀ N, bs N → N.1 = tObj → ∀ O W l, X.S O W → SeqB Fence.wide 8 Tryd.prog 123 #[.pointer (some ⟨N.2, 0, none⟩), .func (.yield l) #[] #[]] l (fun x : Pr => #[.int .i64 x.1, .int .i64 x.2]) (X.tab N) O (BFin X) False W
theorem BodsOk.fin {X : Bods} {bs : Nat × Nat → Prop} (h : BodsOk X bs) {O : Nat → Prop} {W : World} {l : Nat} {o : Obj} (hF : BFin X O W) (hl : ¬ O l) : BFin X O (W.putObj l o) := by
  obtain ⟨O', h1, h2⟩ := hF
  exact ⟨O', h.keep h1 (Upd.put W l o) (fun k hk e => hl (e ▸ h2 k hk)), h2⟩
theorem BodsOk.lt {X : Bods} {bs : Nat × Nat → Prop} (h : BodsOk X bs) {O : Nat → Prop} {W : World} {k : Nat} (hS : X.S O W) (hk : O k) : k < W.heap.size := by
  obtain ⟨c, t, f, e, _⟩ := h.fit hS hk
  exact (Array.getElem?_eq_some_iff.1 e).1
/-- A marking's function begins: its box is laid. -/
theorem DrG.start {X : Bods} {bs : Nat × Nat → Prop} (hX : BodsOk X bs) {Oo O : Nat → Prop} {w0 w : World} {A B M B1 : Nat} {cv fv rv wv pv : Value} {fr ro : List Int} {live : Int} {cs : List Cell} {wk : List Int} {pr : List (Nat × Nat)} (h : MkS w A B M B1 cv fv rv wv pv cs fr ro live wk pr) (hS : X.S O w) (hf : Far O A M w.heap.size cv fv rv wv pv) (hu : Upd w0 w (fun k => cv.ownBlock = some k ∨ B1 ≤ k ∨ Oo k)) (ho : ∀ k, O k → Oo k ∨ B1 ≤ k) (x : Value) (hx : x = .pointer (some ⟨M, 0, none⟩)) :
    DrG Oo w0 w A B M B1 w.heap.size cv fv rv fr ro live [] cs wk pr O (w.alloc (.cells #[x] tMkP)) ∧ X.S O (w.alloc (.cells #[x] tMkP)) := by
  subst hx
  refine ⟨⟨⟨wv, pv, ⟨⟨h.ar.blk.alloc _, h.ar.cells.alloc _, h.ar.free.alloc _, h.ar.roots.alloc _, h.ar.apart⟩, h.mkb.alloc _, h.work.alloc _, h.prs.alloc _, h.fvB, h.rvB⟩, hf⟩, hu.alloc _, KeepsOthers.alloc _ _, Blk.new _ _ _, fun D hD => (List.not_mem_nil hD).elim, List.nodup_nil, fun g xs hb => hb.alloc _, ho, fun k o hk ho => ?_, fun k hk => by have := hX.lt hS hk; simp; omega⟩, hX.keep hS ((Upd.refl w (fun _ => False)).alloc _) (fun _ _ e => e)⟩
  obtain ⟨c, t, f, e, hne⟩ := hX.fit hS hk
  rw [e] at ho
  cases ho
  exact ⟨_, _, _, rfl, hne⟩
end Go.Proofs.YtmimnaaofpkndaaDoor.Hp
