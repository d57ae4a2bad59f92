/- Rgs: several texts in one. -/
import Derived.RangeFuncBox
import Derived.RangeFuncNested
import Derived.RangeFuncBound
import Derived.RangeFuncCalls
import Derived.RangeFuncLeaves
import Derived.Shelf.Abstract
import Derived.Shelf.RegionOpen
import Derived.OwnWalkIn
import Derived.TacticsInMore
import Derived.LoopNIn
import Derived.LoopIn
import Derived.Test.YtmimnaaofpkndaaDoorWld
import Derived.Lib.QuietBelowIn
import Derived.StillTail
/- A law on a range over a function whose rounds all go on, whatever function value is ranged over; the marks that such loops leave. -/
set_option linter.unusedVariables false
set_option linter.unusedSimpArgs false
namespace Go.Proofs.YtmimnaaofpkndaaDoor
open Go.RowKit Go.Shelf
variable {F : Fence} {n : Nat} {P : Program}
def markD (D : Nat) : Deferred := { target := .collected D, args := #[] }
end Go.Proofs.YtmimnaaofpkndaaDoor

/- A law on a range over a function whose iterator has blocks of its own (a cursor, say) that turn between the rounds; rounds may stop. -/
set_option linter.unusedVariables false
set_option linter.unusedSimpArgs false
namespace Go.Proofs.YtmimnaaofpkndaaDoor
open Go.RowKit Go.Shelf
variable {F : Fence} {n : Nat} {P : Program}
theorem Upd.put (W : World) (l : Nat) (o : Obj) : Upd W (W.putObj l o) (fun k => k = l) :=
  ⟨rfl, rfl, rfl, by simp [World.putObj], fun k hk hn => World.putObj_heap_other (fun e => hn e)⟩
theorem KeepsOthers.of_upd {W W' : World} {M : Nat → Prop} (u : Upd W W' M) (h : ∀ k o, M k → W.heap[k]? = some o → o.isCells = true) : KeepsOthers W W' :=
  ⟨u.size, fun k o hk ho => by
    have hlt := (Array.getElem?_eq_some_iff.1 hk).1
    exact (u.block k hlt (fun hm => by rw [h k o hm hk] at ho; cases ho)).trans hk⟩
/-- What a round may come to. -/
def stepsOn {α : Type} (O : Nat → Prop) (I : List α → World → Prop) (Ix : Code → List α → World → Prop) (ys : List α) (W : World) : Exit → Act → World → Prop
  | .normal, _, W' => KeepsOthers W W' ∧ Upd W W' (fun k => ¬ O k) ∧ I ys W'
  | .ret, _, W' => KeepsOthers W W' ∧ Upd W W' (fun k => ¬ O k) ∧ Ix .ret ys W'
  | .exit id, _, W' => KeepsOthers W W' ∧ Upd W W' (fun k => ¬ O k) ∧ Ix (.exit id) ys W'
  | _, _, _ => False
/-- What an iterator over xs keeps to: its own blocks (O, known once it has begun) turn, and no others. -/
def SeqOwn {α : Type} (F : Fence) (m : Nat) (P : Program) (gf : Nat) (args : Array Value) (l : Nat) (encs : α → Array Value) (xs : List α) (O0 : Nat → Prop) (Fin : (Nat → Prop) → World → Prop) (W : World) : Prop :=
  ∀ (J Jx : (Nat → Prop) → List α → World → Prop),
    (∀ O pre W1 W2, J O pre W1 → Upd W1 W2 O → J O pre W2) → (∀ O pre W1 W2, Jx O pre W1 → Upd W1 W2 O → Jx O pre W2) →
    (∀ O pre x W1, J O pre W1 → (pre ++ [x]) <+: xs → YieldAt F (m - 1) P l (encs x) W1 fun e W' => Upd W1 W' (fun k => ¬ O k) ∧ ((e = .returned (.bool true) ∧ J O (pre ++ [x]) W') ∨ (e = .returned (.bool false) ∧ Jx O (pre ++ [x]) W'))) →
    (∀ O W1, Upd W W1 O0 → (∀ k, O k → O0 k ∨ W.heap.size ≤ k) → J O [] W1) →
    CallsIn F m P gf args W fun e W' => (∃ v, e = .returned v) ∧ ∃ O, Fin O W' ∧ (J O xs W' ∨ ∃ pre, Jx O pre W')
theorem wpIn_range_own {α : Type} {g : Operand} {ps : Array Tmp} {assign body : Code} {Q : Exit → Act → World → Prop} {a : Act} {w : World} (hro : F.round = none) (h1 : 1 ≤ n) {gf : Nat} {argsOf : Nat → Array Value}
    (hres : ∀ l W, ∃ d, (resolve a.eval (rangeCall g l) 0).run P W = .ok d W ∧ (∀ f', Target.leads P W d.target d.args = some f' → F.fn f') ∧ (invoke d.target d.args).run P W = .ok (.enter gf (argsOf l)) W)
    {encs : α → Array Value} (hps : ∀ x, (encs x).size = ps.size) (xs : List α) (O0 : Nat → Prop) (hO0 : ∀ k, O0 k → k < w.heap.size) (Fin : (Nat → Prop) → World → Prop)
    (hseq : ∀ l W, Upd w W (fun _ => False) → SeqOwn F (n - 1) P gf (argsOf l) l encs xs O0 Fin W)
    (hFin : ∀ O W l o, Fin O W → ¬ O l → Fin O (W.putObj l o))
    (I : (Nat → Prop) → List α → World → Prop) (Ix : (Nat → Prop) → Code → List α → World → Prop)
    (hI : ∀ O pre W W', I O pre W → Upd W W' O → I O pre W') (hIx : ∀ O c pre W W', Ix O c pre W → Upd W W' O → Ix O c pre W')
    (hIp : ∀ O pre W l o o', I O pre W → w.heap.size ≤ l → W.heap[l]? = some o → o.isCells = false → I O pre (W.putObj l o')) (hIxp : ∀ O c pre W l o o', Ix O c pre W → w.heap.size ≤ l → W.heap[l]? = some o → o.isCells = false → Ix O c pre (W.putObj l o'))
    (h0 : ∀ O W, Upd w W O0 → (∀ k, O k → O0 k ∨ w.heap.size ≤ k) → I O [] W)
    (Ax : α → Act → World → Prop) (hAx : ∀ x a' W l o o', Ax x a' W → w.heap.size ≤ l → W.heap[l]? = some o → o.isCells = false → Ax x a' (W.putObj l o'))
    (hassign : ∀ (l : Nat) (O : Nat → Prop) (pre : List α) (x : α) (W : World) (K : Act → World → Prop), I O pre W → (pre ++ [x]) <+: xs → (∀ a' W', KeepsOthers W W' → Upd W W' (fun k => ¬ O k) → I O pre W' → Ax x a' W' → K a' W') →
      assign.wpIn (F.inRound l) (n - 1 - 1) P (Exit.then K (fun _ _ _ => False)) { tmps := (ps.zip (encs x)).foldl (fun t (p, v) => t.setIfInBounds p v) a.tmps, defers := [] } W)
    (hbody : ∀ (l : Nat) (O : Nat → Prop) (pre : List α) (x : α) (a' : Act) (W : World), I O pre W → Ax x a' W → (pre ++ [x]) <+: xs → body.wpIn (F.inRound l) (n - 1 - 1) P (stepsOn O (I O) (Ix O) (pre ++ [x]) W) a' W)
    (hdone : ∀ (O : Nat → Prop) (D : Nat) (W : World), w.heap.size ≤ D → ¬ O D → Fin O W → I O xs W → W.heap[D]? = some (.deferred (some [])) → Q .normal { a with defers := markD D :: a.defers } W)
    (hstop : ∀ (O : Nat → Prop) (D : Nat) (c : Code) (pre : List α) (W : World), w.heap.size ≤ D → ¬ O D → Fin O W → Ix O c pre W → W.heap[D]? = some (.deferred (some [])) → c.wpIn F n P Q { a with defers := markD D :: a.defers } W) :
    (Code.rangeFunc g ps assign body).wpIn F n P Q a w := by
  refine wpIn_rangeFunc fun fn hfn => ?_
  rw [hro]
  let rec_ : LoopState → Option Code → Loop := fun st pe => { state := st, pending := pe, fn, tmps := a.tmps, params := ps, assign, body, defers := w.heap.size }
  let W1 : World := (w.alloc (.deferred (some []))).alloc (.loop (rec_ .ready none))
  have sz1 : W1.heap.size = w.heap.size + 2 := by simp [W1]
  have rL : W1.heap[w.heap.size + 1]? = some (.loop (rec_ .ready none)) := by
    have h := World.alloc_heap_new (w.alloc (.deferred (some []))) (.loop (rec_ .ready none))
    rwa [World.size_alloc] at h
  have rD : W1.heap[w.heap.size]? = some (.deferred (some [])) := (Below.heap_alloc _ _ _ (by simp)).trans (World.alloc_heap_new w _)
  have u01 : ∀ M, Upd w W1 M := fun M => ((Upd.refl w M).alloc _).alloc _
  obtain ⟨d, hd1, hd2, hd3⟩ := hres (w.heap.size + 1) W1
  refine ⟨w.heap.size + 1, [markD w.heap.size], W1, d, W1, gf, argsOf (w.heap.size + 1), W1, run_enterLoop_outer _ _ _ _ _, hd1, hd2, hd3, fun _ => h1, ?_⟩
  -- the two blocks of book-keeping lie as they lay, and are none of the iterator's
  let B : (Nat → Prop) → LoopState → Option Code → World → Prop := fun O st pe W => W.heap[w.heap.size + 1]? = some (.loop (rec_ st pe)) ∧ W.heap[w.heap.size]? = some (.deferred (some [])) ∧ ¬ O (w.heap.size + 1) ∧ ¬ O w.heap.size
  have Bk : ∀ {O st pe W W'}, B O st pe W → KeepsOthers W W' → B O st pe W' := fun hb hk => ⟨hk.same _ _ hb.1 rfl, hk.same _ _ hb.2.1 rfl, hb.2.2.1, hb.2.2.2⟩
  have Bu : ∀ {O st pe W W'}, B O st pe W → Upd W W' O → B O st pe W' := fun hb hu => ⟨(hu.block _ (Array.getElem?_eq_some_iff.1 hb.1).1 hb.2.2.1).trans hb.1, (hu.block _ (Array.getElem?_eq_some_iff.1 hb.2.1).1 hb.2.2.2).trans hb.2.1, hb.2.2.1, hb.2.2.2⟩
  refine (hseq (w.heap.size + 1) W1 (u01 _) (fun O pre W => I O pre W ∧ B O .ready none W) (fun O pre W => ∃ c, Ix O c pre W ∧ B O .done (some c) W)
    (fun O pre W W' h u => ⟨hI _ _ _ _ h.1 u, Bu h.2 u⟩) (fun O pre W W' h u => by obtain ⟨c, h1, h2⟩ := h; exact ⟨c, hIx _ _ _ _ _ h1 u, Bu h2 u⟩) ?_ ?_).mono ?_
  · rintro O pre x W ⟨hi, hb⟩ hpre
    refine ⟨fn, _, assign, body, run_yield (P := P) (args := encs x) hb.1 (hps x), roundIn_of_wpIn hfn (hassign _ O pre x W _ hi hpre ?_)⟩
    intro a' Wa hk1 hu1 hi1 hax
    have hb1 := Bk hb hk1
    have hlt : w.heap.size + 1 < Wa.heap.size := (Array.getElem?_eq_some_iff.1 hb1.1).1
    refine ⟨_, run_beginRound hb1.1 rfl, ?_⟩
    have hb2 : B O .busy none (Wa.putObj (w.heap.size + 1) (.loop (rec_ .busy none))) := ⟨World.putObj_heap_same hlt, (World.putObj_heap_other (by omega)).trans hb1.2.1, hb1.2.2⟩
    have hu2 : Upd W (Wa.putObj (w.heap.size + 1) (.loop (rec_ .busy none))) (fun k => ¬ O k) := hu1.trans ((Upd.put _ _ _).mono (fun k _ e => by rw [e]; exact hb.2.2.1))
    refine wpIn_mono (hbody _ O pre x a' (Wa.putObj (w.heap.size + 1) (.loop (rec_ .busy none))) (hIp _ _ _ _ _ _ hi1 (by omega) hb1.1 rfl) (hAx _ _ _ _ _ _ hax (by omega) hb1.1 rfl) hpre) ?_
    have fin : ∀ (jump : Option Code) (W3 : World), KeepsOthers (Wa.putObj (w.heap.size + 1) (.loop (rec_ .busy none))) W3 → Upd (Wa.putObj (w.heap.size + 1) (.loop (rec_ .busy none))) W3 (fun k => ¬ O k) →
        (Instr.endRound (w.heap.size + 1) jump).run P W3 = .ok (.bool jump.isNone) (W3.putObj (w.heap.size + 1) (.loop (rec_ (if jump.isNone then .ready else .done) jump))) ∧
        W3.heap[w.heap.size + 1]? = some (.loop (rec_ .busy none)) ∧
        B O (if jump.isNone then .ready else .done) jump (W3.putObj (w.heap.size + 1) (.loop (rec_ (if jump.isNone then .ready else .done) jump))) ∧
        Upd W (W3.putObj (w.heap.size + 1) (.loop (rec_ (if jump.isNone then .ready else .done) jump))) (fun k => ¬ O k) := fun jump W3 hk3 hu3 => by
      have hb3 := Bk hb2 hk3
      exact ⟨run_endRound (P := P) jump hb3.1, hb3.1, ⟨World.putObj_heap_same (Array.getElem?_eq_some_iff.1 hb3.1).1, (World.putObj_heap_other (by omega)).trans hb3.2.1, hb3.2.2⟩,
        (hu2.trans hu3).trans ((Upd.put _ _ _).mono (fun k _ e => by rw [e]; exact hb.2.2.1))⟩
    rintro e a3 W3 hp
    cases e with
    | normal =>
      obtain ⟨hk3, hu3, hi3⟩ := hp
      obtain ⟨hr, hl3, hb4, hu4⟩ := fin none W3 hk3 hu3
      exact ⟨_, _, hr, hu4, .inl ⟨rfl, hIp _ _ _ _ _ _ hi3 (by omega) hl3 rfl, hb4⟩⟩
    | ret =>
      obtain ⟨hk3, hu3, hi3⟩ := hp
      obtain ⟨hr, hl3, hb4, hu4⟩ := fin (some .ret) W3 hk3 hu3
      exact ⟨_, _, hr, hu4, .inr ⟨rfl, _, hIxp _ _ _ _ _ _ _ hi3 (by omega) hl3 rfl, hb4⟩⟩
    | exit id =>
      obtain ⟨hk3, hu3, hi3⟩ := hp
      obtain ⟨hr, hl3, hb4, hu4⟩ := fin (some (.exit id)) W3 hk3 hu3
      exact ⟨_, _, hr, hu4, .inr ⟨rfl, _, hIxp _ _ _ _ _ _ _ hi3 (by omega) hl3 rfl, hb4⟩⟩
    | goto t => exact hp.elim
    | panic ch => exact hp.elim
    | outgrown => exact hp.elim
  · intro O W u hO
    have hO' : ∀ k, O k → O0 k ∨ w.heap.size ≤ k := fun k hk => (hO k hk).imp id (fun h => by omega)
    have nO : ∀ k, k < w.heap.size + 2 → w.heap.size ≤ k → ¬ O k := fun k h1 h2 h => by
      rcases hO k h with h | h
      · have := hO0 k h; omega
      · rw [sz1] at h; omega
    have n0 : ∀ k, w.heap.size ≤ k → ¬ O0 k := fun k hk h => by have := hO0 k h; omega
    exact ⟨h0 O W ((u01 _).trans u) hO', (u.block _ (by omega) (n0 _ (by omega))).trans rL, (u.block _ (by omega) (n0 _ (by omega))).trans rD, nO _ (by omega) (by omega), nO _ (by omega) (by omega)⟩
  · rintro e W2 ⟨⟨v, rfl⟩, O, hf, (⟨hi, hb⟩ | ⟨pre, c, hi, hb⟩)⟩
    · exact ⟨none, _, run_endLoop (P := P) hb.1 (by simp [rec_]), hdone O _ _ (Nat.le_refl _) hb.2.2.2 (hFin _ _ _ _ hf hb.2.2.1) (hIp _ _ _ _ _ _ hi (by omega) hb.1 rfl) ((World.putObj_heap_other (by omega)).trans hb.2.1)⟩
    · exact ⟨some c, _, run_endLoop (P := P) hb.1 (by simp [rec_]), hstop O _ c pre _ (Nat.le_refl _) hb.2.2.2 (hFin _ _ _ _ hf hb.2.2.1) (hIxp _ _ _ _ _ _ _ hi (by omega) hb.1 rfl) ((World.putObj_heap_other (by omega)).trans hb.2.1)⟩
/-- A function whose activation may hold marks at its end. -/
theorem callsM_of_wp {f : FuncId} {fn : Func} {c : Code} {args : Array Value} {w : World} {R : Ending → World → Prop} (hf : P.funcs[f]? = some fn) (hb : fn.body = some c)
    (h : c.wp P (bodyPostM Fence.wide 9 P fn R) { tmps := args ++ Array.replicate (fn.ntmps - args.size) undef, defers := [] } w) : Calls P f args w R :=
  (callsIn_wide (n := 9)).1 (callsIn_of_wp_marks hf hb trivial (wpIn_wide.2 h) rfl)
end Go.Proofs.YtmimnaaofpkndaaDoor

/- A region that draws its order and only reads, within a round of a range over a function: walked once, in the order of the text. -/
set_option linter.unusedVariables false
set_option linter.unusedSimpArgs false
namespace Go.Proofs.YtmimnaaofpkndaaDoor
open Go.RowKit Go.Shelf Go.Sort
section
variable {F : Fence} {n : Nat} {P : Program} {ops : Array Oper} {md : Region.Mode} {C : World → Prop}
theorem wpIn_of_quietR {o : Oper} {a : Act} {K : Act → Prop} {K' : Act → World → Prop} {Q' : Exit → Act → World → Prop} {w : World} (hse : ∀ e, o.semAt F.round e = execOp e o) (hw : C w) (h : ∀ a w', C w' → K a → K' a w')
    (ha : o.askedIn F P a C) (hh : o.quietIn F n P a C K) : o.wpIn F n P a w K' Q' := by
  obtain ⟨v, h1, h2⟩ := hh
  have h3 := h1 w hw
  unfold Oper.quietAtIn at h3
  unfold Oper.wpIn
  refine ⟨ha w hw, ?_⟩
  rw [show Oper.semAt F.round a.eval o = execOp a.eval o from hse _]
  generalize (execOp a.eval o).run P w = r at *
  cases r with
  | ok x w' =>
    cases x <;> simp only [Oper.quietUponIn] at h3 <;> simp only [Oper.uponIn]
    case value u =>
      obtain ⟨e1, e2⟩ := h3
      rw [e1, e2]
      exact h _ _ hw h2
    case skip =>
      obtain ⟨e1, e2⟩ := h3
      rw [e1, ← e2]
      exact h _ _ hw h2
    case enter f args =>
      obtain ⟨e1, hd, hc⟩ := h3
      rw [e1]
      exact ⟨hd, hc.mono fun e w'' ⟨he, hw''⟩ => by subst he; exact h _ _ hw'' h2⟩
  | halt x w' => simp only [Oper.quietUponIn] at h3
theorem wpOpIn_of_qOpInR {i : Nat} {a : Act} {K : Act → Prop} {K' : Act → World → Prop} {Q' : Exit → Act → World → Prop} {w : World} (hse : ∀ o, ops[i]? = some o → ∀ e, o.semAt F.round e = execOp e o) (hC : C w) (h : ∀ a w', C w' → K a → K' a w')
    (hh : qOpIn F n P ops C i K a) : wpOpIn F n P ops Q' i K' a w := by
  unfold qOpIn at hh
  unfold wpOpIn
  split
  · rename_i ho; simp only [ho] at hh; exact h _ _ hC hh
  · rename_i o ho
    simp only [ho] at hh
    obtain ⟨ha, hh⟩ := hh
    split
    · rename_i hw; simp only [hw, if_true] at hh; exact wpIn_of_quietR (hse o ho) hC h ha hh
    · rename_i hw; simp only [hw] at hh; exact ⟨ha w hC, h _ _ hC hh⟩
def noDefer (ops : Array Oper) : Bool := ops.all fun o => match o.op with | .defer _ => false | _ => true
theorem noDefer_spec (h : noDefer ops = true) (ro : Option Nat) (i : Nat) (o : Oper) (ho : ops[i]? = some o) (e : Operand → Value) : o.semAt ro e = execOp e o := by
  refine Oper.semAt_eq ro e o (fun c hc => ?_)
  unfold noDefer at h
  rw [Array.all_eq_true] at h
  obtain ⟨hi, rfl⟩ := Array.getElem?_eq_some_iff.1 ho
  have := h i hi
  rw [hc] at this
  cases this
end
end Go.Proofs.YtmimnaaofpkndaaDoor

/- A region that draws its order, within a round of a range over a function: operations that only read (or make memory), in whatever order, and behind all of them a tail in order. No function of the program in sight. -/
set_option linter.unusedVariables false
set_option linter.unusedSimpArgs false
namespace Go.Proofs.YtmimnaaofpkndaaDoor
open Go.RowKit Go.Shelf Go.Sort
section
variable {F : Fence} {n : Nat} {P : Program} {ops : Array Oper} {md : Region.Mode} {C : World → Prop}
def wpAnyQL (F : Fence) (n : Nat) (P : Program) (md : Region.Mode) (ops : Array Oper) (C : World → Prop) (m : Nat) (L : Array Bool → Act → Prop) : Nat → Array Bool → Act → Prop
  | 0, listed, a => L listed a
  | f + 1, listed, a => Region.ready md ops listed ≠ [] ∧ ∀ i ∈ Region.ready md ops listed, i < m ∧ qOpIn F n P ops C i (wpAnyQL F n P md ops C m L f (listed.setIfInBounds i true)) a
theorem wpAnyIn_of_headQ {m g : Nat} {L : Array Bool → Act → Prop} {Q' : Exit → Act → World → Prop} (hse : ∀ (i : Nat) (o : Oper), ops[i]? = some o → ∀ e, o.semAt F.round e = execOp e o)
    (hL : ∀ listed a w, C w → L listed a → wpAnyIn F n P md ops Q' g listed a w) :
    ∀ (f : Nat) (listed : Array Bool) (a : Act) (w : World), C w → wpAnyQL F n P md ops C m L f listed a → wpAnyIn F n P md ops Q' (f + g) listed a w
  | 0, listed, a, w, hw, h => by rw [Nat.zero_add]; exact hL _ _ _ hw h
  | f + 1, listed, a, w, hw, h => by
    rw [show f + 1 + g = (f + g) + 1 by omega]
    exact ⟨fun h0 => absurd h0 h.1, fun i hi => wpOpIn_of_qOpInR (hse i) hw (fun a' w' hw' h' => wpAnyIn_of_headQ hse hL f _ a' w' hw' h') (h.2 i hi).2⟩
theorem wpAnyQL_first {m i : Nat} {oi : Oper} {v : Value} {L : Array Bool → Act → Prop} (hi : ops[i]? = some oi) (hsel : ∀ (j : Nat) (o : Oper) cs b, ops[j]? = some o → o.op ≠ .select cs b)
    (hs : Region.sinkB md ops m = true) (hc : Region.chainB md ops m = true) (hn : m < ops.size) (hin : i < m)
    (hdone : ∀ listed a, L listed a → ∀ j ∈ Region.ready md ops listed, m ≤ j) :
    ∀ (f : Nat) (listed : Array Bool) (a : Act), HeadInv md ops m listed →
      (∀ j oj, ops[j]? = some oj → j ≠ i → listed.getD j true = false → (∀ e ∈ oj.after, Region.binds md e = true → e.on ≠ i) → oi.apart ops oj = true) →
      i ∈ Region.ready md ops listed → YieldsQuiet F n P ops C oi v a →
      wpAnyQL F n P md ops C m L f (listed.setIfInBounds i true) (a.put oi.dst v) → wpAnyQL F n P md ops C m L (f + 1) listed a := by
  intro f
  induction f with
  | zero =>
    intro listed a inv _ hr hy H
    have hun := (mem_ready.1 hr).1
    refine ⟨fun h => (by rw [h] at hr; cases hr), fun j hj => ?_⟩
    have hjn : j < m := by
      rcases Nat.lt_or_ge j m with h | h
      · exact h
      · exact absurd hj (tail_waits hs hc hn inv _ i rfl hin hun j h)
    refine ⟨hjn, ?_⟩
    by_cases hji : j = i
    · subst hji; exact hy.qOpIn hi H
    · have := hdone _ _ H j (ready_mono hj hji)
      omega
  | succ f ih =>
    intro listed a inv hfree hr hy H
    have hun := (mem_ready.1 hr).1
    refine ⟨fun h => (by rw [h] at hr; cases hr), fun j hj => ?_⟩
    have hjn : j < m := by
      rcases Nat.lt_or_ge j m with h | h
      · exact h
      · exact absurd hj (tail_waits hs hc hn inv _ i rfl hin hun j h)
    refine ⟨hjn, ?_⟩
    by_cases hji : j = i
    · subst hji; exact hy.qOpIn hi H
    · have h1 := (H.2 j (ready_mono hj hji)).2
      obtain ⟨hjun, oj, hoj, hall⟩ := mem_ready.1 hj
      have hnot : ∀ e ∈ oj.after, Region.binds md e = true → e.on ≠ i := fun e he hb heq => by
        have h1 := hall e he hb
        rw [heq, getD_both hun] at h1
        cases h1
      have h2 := qOpIn_put hoj (hfree j oj hoj hji hjun hnot) (fun cs b => hsel i oi cs b hi) (fun cs b => hsel j oj cs b hoj) hy h1
      have hfree' : ∀ k ok, ops[k]? = some ok → k ≠ i → (listed.setIfInBounds j true).getD k true = false →
          (∀ e ∈ ok.after, Region.binds md e = true → e.on ≠ i) → oi.apart ops ok = true := fun k ok hk hki hun hno => by
        refine hfree k ok hk hki ?_ hno
        by_cases hjk : j = k
        · subst hjk; exact hjun
        · rw [getD_set_ne true hjk] at hun; exact hun
      refine qOpIn_mono (fun a' h3 => ih (listed.setIfInBounds j true) a' (inv.set hj hjn) hfree' (ready_mono hr (Ne.symm hji)) h3.1 ?_) h2
      rw [Array.setIfInBounds_comm _ _ hji]
      exact h3.2
theorem wpAnyIn_of_seq {Q' : Exit → Act → World → Prop} : ∀ (l : List Oper) (k : Nat) (listed : Array Bool) (a : Act) (w : World), (∀ j, l[j]? = ops[k + j]?) →
    Region.seqB md ops l.length k listed = true → wpListIn F n P ops Q' l a w → wpAnyIn F n P md ops Q' l.length listed a w
  | [], _, _, _, _, _, hB, h => ⟨by simpa [Region.seqB] using hB, h⟩
  | o :: l, k, listed, a, w, hl, hB, h => by
    have h0 : ops[k]? = some o := by simpa using (hl 0).symm
    simp only [List.length_cons, Region.seqB, Bool.and_eq_true, decide_eq_true_eq] at hB
    refine ⟨fun h1 => (by rw [hB.1] at h1; cases h1), fun i hi => ?_⟩
    rw [hB.1] at hi
    have hik : i = k := by simpa using hi
    subst hik
    have hw : wpOpIn F n P ops Q' i (wpListIn F n P ops Q' l) a w := by
      unfold wpOpIn
      simp only [h0]
      exact h
    exact wpOpIn_mono (fun a' w' h' => wpAnyIn_of_seq l (i + 1) _ a' w' (fun j => by have := hl (j + 1); simpa [Nat.add_assoc, Nat.add_comm 1 j] using this) hB.2 h') hw
theorem wpAnyQL_lex {m g : Nat} {Lq : Act → Prop} (hsel : Region.noSelect ops = true) (hs : Region.sinkB md ops m = true) (hc : Region.chainB md ops m = true) (hn : m < ops.size) :
    ∀ (l : List Oper) (k : Nat) (listed : Array Bool) (a : Act), (∀ j, j < l.length → l[j]? = ops[k + j]?) → k + l.length = m → HeadInv md ops m listed →
    Region.lexHead md ops g l.length k listed = true → wpQuietIn F n P ops C Lq l a →
    wpAnyQL F n P md ops C m (fun listed' a' => Region.seqB md ops g m listed' = true ∧ Lq a') l.length listed a
  | [], k, listed, a, _, hk, _, hB, h => by
    have : k = m := by simpa using hk
    subst this
    exact ⟨by simpa [Region.lexHead] using hB, h⟩
  | o :: l, k, listed, a, hl, hk, inv, hB, h => by
    have h0 : ops[k]? = some o := by simpa using (hl 0 (by simp)).symm
    simp only [List.length_cons, Region.lexHead, Bool.and_eq_true] at hB
    obtain ⟨⟨hr, hf⟩, hB'⟩ := hB
    have hkn : k < m := by simp only [List.length_cons] at hk; omega
    have hr' : k ∈ Region.ready md ops listed := by simpa using hr
    have hst : qOpIn F n P ops C k (wpQuietIn F n P ops C Lq l) a := by unfold qOpIn; simp only [h0]; exact h
    obtain ⟨v, hy, hK⟩ := yieldsQuiet_of_qOpIn h0 hst
    exact wpAnyQL_first h0 (Region.noSelect_spec hsel) hs hc hn hkn (fun listed' a' hL => seqB_ready hL.1) l.length listed a inv (Region.free_spec h0 hf) hr' hy
      (wpAnyQL_lex hsel hs hc hn l (k + 1) _ _ (fun j hj => by have := hl (j + 1) (by simp; omega); simpa [Nat.add_assoc, Nat.add_comm 1 j] using this) (by simp only [List.length_cons] at hk; omega) (inv.set hr' hkn) hB' hK)
/-- A region that draws: m quiet operations, then a tail. -/
theorem wpIn_region_quiet_tail {id : Nat} {Q : Exit → Act → World → Prop} {a : Act} {w : World} {l : List Oper} (m : Nat) (hnd : noDefer l.toArray = true) (hm : P.follows .mixedOrders = true) (hB : Region.lexTailB .any l.toArray m = true) (hC : C { w with drawn := w.drawn + 1 })
    (h : wpQuietIn F n P l.toArray C (fun a' => ∀ w', C w' → wpListIn F n P l.toArray Q (l.drop m) a' w') (l.take m) a) : (Code.region id l.toArray true).wpIn F n P Q a w := by
  simp only [Region.lexTailB, Bool.and_eq_true, decide_eq_true_eq] at hB
  obtain ⟨⟨⟨⟨hsel, hn⟩, hs⟩, hc⟩, hlex⟩ := hB
  have hn' : m < l.length := by simpa using hn
  have htl : (l.take m).length = m := by simp; omega
  have hdl : (l.drop m).length = l.toArray.size - m := by simp
  have inv0 : HeadInv .any l.toArray m (Array.replicate l.toArray.size false) :=
    ⟨by simp, fun j oj _ hl => (by rw [getD_replicate_false] at hl; cases hl), fun t _ ht => getD_in (by simpa using ht) (getD_replicate_false _ _)⟩
  have H := wpAnyQL_lex (md := .any) (g := l.toArray.size - m) hsel hs hc hn (l.take m) 0 _ a (fun j hj => by
    have hj' : j < m := by rw [htl] at hj; exact hj
    simp [hj']) (by simpa using htl) inv0 (by rw [htl]; exact hlex) h
  refine wpIn_region_any hm ?_
  have := wpAnyIn_of_headQ (Q' := Q) (g := l.toArray.size - m) (fun i o ho e => noDefer_spec hnd _ i o ho e) (fun listed a' w' hw' hL => by
    have := wpAnyIn_of_seq (md := .any) (Q' := Q) (F := F) (n := n) (P := P) (l.drop m) m listed a' w' (fun j => by simp [List.getElem?_drop]) (by rw [hdl]; exact hL.1) (hL.2 w' hw')
    rwa [hdl] at this) _ _ _ _ hC H
  rw [htl, show m + (l.toArray.size - m) = l.toArray.size by omega] at this
  exact this
/-- The same; callees may make memory. -/
theorem quietR_tail {id : Nat} {Q : Exit → Act → World → Prop} {a : Act} {w : World} {l : List Oper} (m : Nat) (hnd : noDefer l.toArray = true) (hm : P.follows .mixedOrders = true) (hB : Region.lexTailB .any l.toArray m = true)
    (h : wpQuietIn F n P l.toArray (fun w' => ∃ p : Regrown, w' = grow (redrawn w p.d) p.os) (fun a' => ∀ w', (∃ p : Regrown, w' = grow (redrawn w p.d) p.os) → wpListIn F n P l.toArray Q (l.drop m) a' w') (l.take m) a) : (Code.region id l.toArray true).wpIn F n P Q a w :=
  wpIn_region_quiet_tail (C := fun w' => ∃ p : Regrown, w' = grow (redrawn w p.d) p.os) m hnd hm hB ⟨⟨w.drawn + 1, #[]⟩, by rw [grow_empty]; rfl⟩ h
end
end Go.Proofs.YtmimnaaofpkndaaDoor

/- A law on a range over a function whose iterator has blocks of its own (a cursor, say) that turn between the rounds; rounds may stop. -/
set_option linter.unusedVariables false
set_option linter.unusedSimpArgs false
namespace Go.Proofs.YtmimnaaofpkndaaDoor.Hp
open Go.RowKit Go.Proofs.YtmimnaaofpkndaaDoor Go.Shelf
variable {F : Fence} {n : Nat} {P : Program}
/-- What an iterator over xs keeps to: its own blocks (O, known once it has begun) turn, and no others. -/
def SeqB {α : Type} (F : Fence) (m : Nat) (P : Program) (gf : Nat) (args : Array Value) (l : Nat) (encs : α → Array Value) (xs : List α) (O0 : Nat → Prop) (Fin : (Nat → Prop) → World → Prop) (stop : Prop) (W : World) : Prop :=
  ∀ (J Jx : (Nat → Prop) → List α → World → Prop),
    (∀ O pre W1 W2, J O pre W1 → Upd W1 W2 O → J O pre W2) → (∀ O pre W1 W2, Jx O pre W1 → Upd W1 W2 O → Jx O pre W2) → (∀ O pre W1, Jx O pre W1 → stop) →
    (∀ O O' pre W1 W2, J O pre W1 → Upd W1 W2 O → (∀ k, O k → O' k) → (∀ k, O' k → O k ∨ W1.heap.size ≤ k) → (∀ k, O' k → k < W2.heap.size) → J O' pre W2) →
    (∀ O pre x W1, J O pre W1 → (pre ++ [x]) <+: xs → YieldAt F (m - 1) P l (encs x) W1 fun e W' => Upd W1 W' (fun k => ¬ O k) ∧ ((e = .returned (.bool true) ∧ KeepsOthers W1 W' ∧ J O (pre ++ [x]) W') ∨ (e = .returned (.bool false) ∧ Jx O (pre ++ [x]) W'))) →
    (∀ O W1, Upd W W1 O0 → (∀ k, O k → O0 k ∨ W.heap.size ≤ k) → (∀ k, O k → k < W1.heap.size) → J O [] W1) →
    CallsIn F m P gf args W fun e W' => (∃ v, e = .returned v) ∧ ∃ O, Fin O W' ∧ (J O xs W' ∨ ∃ pre, Jx O pre W')
theorem wpIn_range_b {α : Type} {g : Operand} {ps : Array Tmp} {assign body : Code} {Q : Exit → Act → World → Prop} {a : Act} {w : World} (hro : F.round = none) (h1 : 1 ≤ n) {gf : Nat} {argsOf : Nat → Array Value}
    (hres : ∀ l W, ∃ d, (resolve a.eval (rangeCall g l) 0).run P W = .ok d W ∧ (∀ f', Target.leads P W d.target d.args = some f' → F.fn f') ∧ (invoke d.target d.args).run P W = .ok (.enter gf (argsOf l)) W)
    {encs : α → Array Value} (hps : ∀ x, (encs x).size = ps.size) (xs : List α) (stop : Prop) (O0 : Nat → Prop) (hO0 : ∀ k, O0 k → k < w.heap.size) (Fin : (Nat → Prop) → World → Prop)
    (hseq : ∀ l W, Upd w W (fun _ => False) → SeqB F (n - 1) P gf (argsOf l) l encs xs O0 Fin stop W)
    (hFin : ∀ O W l o, Fin O W → ¬ O l → Fin O (W.putObj l o))
    (I : (Nat → Prop) → List α → World → Prop) (Ix : (Nat → Prop) → Code → List α → World → Prop)
    (hst : ∀ O c pre W, Ix O c pre W → stop) (hI : ∀ O pre W W', I O pre W → Upd W W' O → I O pre W') (hIg : ∀ O O' pre W1 W2, I O pre W1 → Upd W1 W2 O → (∀ k, O k → O' k) → (∀ k, O' k → O k ∨ W1.heap.size ≤ k) → (∀ k, O' k → k < W2.heap.size) → I O' pre W2) (hIx : ∀ O c pre W W', Ix O c pre W → Upd W W' O → Ix O c pre W')
    (hIp : ∀ O pre W l o o', I O pre W → l = w.heap.size + 1 → W.heap[l]? = some o → o.isCells = false → I O pre (W.putObj l o')) (hIxp : ∀ O c pre W l o o', Ix O c pre W → l = w.heap.size + 1 → W.heap[l]? = some o → o.isCells = false → Ix O c pre (W.putObj l o'))
    (h0 : ∀ O W, Upd w W O0 → w.heap.size + 2 ≤ W.heap.size → (∀ k, O k → O0 k ∨ w.heap.size ≤ k) → (∀ k, O k → k < W.heap.size) → I O [] W)
    (Ax : (Nat → Prop) → List α → α → Act → World → Prop) (hAx : ∀ O pre x a' W l o o', Ax O pre x a' W → l = w.heap.size + 1 → W.heap[l]? = some o → o.isCells = false → Ax O pre x a' (W.putObj l o'))
    (hassign : ∀ (l : Nat) (O : Nat → Prop) (pre : List α) (x : α) (W : World) (K : Act → World → Prop), I O pre W → (pre ++ [x]) <+: xs → (∀ a' W', KeepsOthers W W' → Upd W W' (fun k => ¬ O k) → I O pre W' → Ax O pre x a' W' → K a' W') →
      assign.wpIn (F.inRound l) (n - 1 - 1) P (Exit.then K (fun _ _ _ => False)) { tmps := (ps.zip (encs x)).foldl (fun t (p, v) => t.setIfInBounds p v) a.tmps, defers := [] } W)
    (hbody : ∀ (l : Nat) (O : Nat → Prop) (pre : List α) (x : α) (a' : Act) (W : World), I O pre W → Ax O pre x a' W → (pre ++ [x]) <+: xs → body.wpIn (F.inRound l) (n - 1 - 1) P (stepsOn O (I O) (Ix O) (pre ++ [x]) W) a' W)
    (hdone : ∀ (O : Nat → Prop) (D : Nat) (W : World), D = w.heap.size → ¬ O D → Fin O W → I O xs W → W.heap[D]? = some (.deferred (some [])) → Q .normal { a with defers := markD D :: a.defers } W)
    (hstop : ∀ (O : Nat → Prop) (D : Nat) (c : Code) (pre : List α) (W : World), D = w.heap.size → ¬ O D → Fin O W → Ix O c pre W → W.heap[D]? = some (.deferred (some [])) → c.wpIn F n P Q { a with defers := markD D :: a.defers } W) :
    (Code.rangeFunc g ps assign body).wpIn F n P Q a w := by
  refine wpIn_rangeFunc fun fn hfn => ?_
  rw [hro]
  let rec_ : LoopState → Option Code → Loop := fun st pe => { state := st, pending := pe, fn, tmps := a.tmps, params := ps, assign, body, defers := w.heap.size }
  let W1 : World := (w.alloc (.deferred (some []))).alloc (.loop (rec_ .ready none))
  have sz1 : W1.heap.size = w.heap.size + 2 := by simp [W1]
  have rL : W1.heap[w.heap.size + 1]? = some (.loop (rec_ .ready none)) := by
    have h := World.alloc_heap_new (w.alloc (.deferred (some []))) (.loop (rec_ .ready none))
    rwa [World.size_alloc] at h
  have rD : W1.heap[w.heap.size]? = some (.deferred (some [])) := (Below.heap_alloc _ _ _ (by simp)).trans (World.alloc_heap_new w _)
  have u01 : ∀ M, Upd w W1 M := fun M => ((Upd.refl w M).alloc _).alloc _
  obtain ⟨d, hd1, hd2, hd3⟩ := hres (w.heap.size + 1) W1
  refine ⟨w.heap.size + 1, [markD w.heap.size], W1, d, W1, gf, argsOf (w.heap.size + 1), W1, run_enterLoop_outer _ _ _ _ _, hd1, hd2, hd3, fun _ => h1, ?_⟩
  -- the two blocks of book-keeping lie as they lay, and are none of the iterator's
  let B : (Nat → Prop) → LoopState → Option Code → World → Prop := fun O st pe W => W.heap[w.heap.size + 1]? = some (.loop (rec_ st pe)) ∧ W.heap[w.heap.size]? = some (.deferred (some [])) ∧ ¬ O (w.heap.size + 1) ∧ ¬ O w.heap.size
  have Bk : ∀ {O st pe W W'}, B O st pe W → KeepsOthers W W' → B O st pe W' := fun hb hk => ⟨hk.same _ _ hb.1 rfl, hk.same _ _ hb.2.1 rfl, hb.2.2.1, hb.2.2.2⟩
  have Bu : ∀ {O st pe W W'}, B O st pe W → Upd W W' O → B O st pe W' := fun hb hu => ⟨(hu.block _ (Array.getElem?_eq_some_iff.1 hb.1).1 hb.2.2.1).trans hb.1, (hu.block _ (Array.getElem?_eq_some_iff.1 hb.2.1).1 hb.2.2.2).trans hb.2.1, hb.2.2.1, hb.2.2.2⟩
  refine (hseq (w.heap.size + 1) W1 (u01 _) (fun O pre W => I O pre W ∧ B O .ready none W) (fun O pre W => ∃ c, Ix O c pre W ∧ B O .done (some c) W)
    (fun O pre W W' h u => ⟨hI _ _ _ _ h.1 u, Bu h.2 u⟩) (fun O pre W W' h u => by obtain ⟨c, h1, h2⟩ := h; exact ⟨c, hIx _ _ _ _ _ h1 u, Bu h2 u⟩) (fun O pre W h => by obtain ⟨c, h1, _⟩ := h; exact hst _ _ _ _ h1) (fun O O' pre W W' h u h1 h2 h3 => by
    have hb := Bu h.2 u
    have l1 := (Array.getElem?_eq_some_iff.1 h.2.1).1
    have l2 := (Array.getElem?_eq_some_iff.1 h.2.2.1).1
    exact ⟨hIg _ _ _ _ _ h.1 u h1 h2 h3, hb.1, hb.2.1, fun e => (h2 _ e).elim h.2.2.2.1 (fun e => by omega), fun e => (h2 _ e).elim h.2.2.2.2 (fun e => by omega)⟩) ?_ ?_).mono ?_
  · rintro O pre x W ⟨hi, hb⟩ hpre
    refine ⟨fn, _, assign, body, run_yield (P := P) (args := encs x) hb.1 (hps x), roundIn_of_wpIn hfn (hassign _ O pre x W _ hi hpre ?_)⟩
    intro a' Wa hk1 hu1 hi1 hax
    have hb1 := Bk hb hk1
    have hlt : w.heap.size + 1 < Wa.heap.size := (Array.getElem?_eq_some_iff.1 hb1.1).1
    refine ⟨_, run_beginRound hb1.1 rfl, ?_⟩
    have hb2 : B O .busy none (Wa.putObj (w.heap.size + 1) (.loop (rec_ .busy none))) := ⟨World.putObj_heap_same hlt, (World.putObj_heap_other (by omega)).trans hb1.2.1, hb1.2.2⟩
    have hu2 : Upd W (Wa.putObj (w.heap.size + 1) (.loop (rec_ .busy none))) (fun k => ¬ O k) := hu1.trans ((Upd.put _ _ _).mono (fun k _ e => by rw [e]; exact hb.2.2.1))
    refine wpIn_mono (hbody _ O pre x a' (Wa.putObj (w.heap.size + 1) (.loop (rec_ .busy none))) (hIp _ _ _ _ _ _ hi1 (by omega) hb1.1 rfl) (hAx _ _ _ _ _ _ _ _ hax (by omega) hb1.1 rfl) hpre) ?_
    have fin : ∀ (jump : Option Code) (W3 : World), KeepsOthers (Wa.putObj (w.heap.size + 1) (.loop (rec_ .busy none))) W3 → Upd (Wa.putObj (w.heap.size + 1) (.loop (rec_ .busy none))) W3 (fun k => ¬ O k) →
        (Instr.endRound (w.heap.size + 1) jump).run P W3 = .ok (.bool jump.isNone) (W3.putObj (w.heap.size + 1) (.loop (rec_ (if jump.isNone then .ready else .done) jump))) ∧
        W3.heap[w.heap.size + 1]? = some (.loop (rec_ .busy none)) ∧
        B O (if jump.isNone then .ready else .done) jump (W3.putObj (w.heap.size + 1) (.loop (rec_ (if jump.isNone then .ready else .done) jump))) ∧
        Upd W (W3.putObj (w.heap.size + 1) (.loop (rec_ (if jump.isNone then .ready else .done) jump))) (fun k => ¬ O k) := fun jump W3 hk3 hu3 => by
      have hb3 := Bk hb2 hk3
      exact ⟨run_endRound (P := P) jump hb3.1, hb3.1, ⟨World.putObj_heap_same (Array.getElem?_eq_some_iff.1 hb3.1).1, (World.putObj_heap_other (by omega)).trans hb3.2.1, hb3.2.2⟩,
        (hu2.trans hu3).trans ((Upd.put _ _ _).mono (fun k _ e => by rw [e]; exact hb.2.2.1))⟩
    rintro e a3 W3 hp
    cases e with
    | normal =>
      obtain ⟨hk3, hu3, hi3⟩ := hp
      obtain ⟨hr, hl3, hb4, hu4⟩ := fin none W3 hk3 hu3
      have hko : KeepsOthers W (W3.putObj (w.heap.size + 1) (.loop (rec_ .ready none))) := ⟨hu4.size, fun k o hk ho => by
        by_cases e : k = w.heap.size + 1
        · subst e
          rw [hb.1] at hk
          cases hk
          exact World.putObj_heap_same (Array.getElem?_eq_some_iff.1 hl3).1
        · have h1 := hk1.same k o hk ho
          have h2 : (Wa.putObj (w.heap.size + 1) (.loop (rec_ .busy none))).heap[k]? = some o := (World.putObj_heap_other e).trans h1
          exact (World.putObj_heap_other e).trans (hk3.same k o h2 ho)⟩
      exact ⟨_, _, hr, hu4, .inl ⟨rfl, hko, hIp _ _ _ _ _ _ hi3 (by omega) hl3 rfl, hb4⟩⟩
    | ret =>
      obtain ⟨hk3, hu3, hi3⟩ := hp
      obtain ⟨hr, hl3, hb4, hu4⟩ := fin (some .ret) W3 hk3 hu3
      exact ⟨_, _, hr, hu4, .inr ⟨rfl, _, hIxp _ _ _ _ _ _ _ hi3 (by omega) hl3 rfl, hb4⟩⟩
    | exit id =>
      obtain ⟨hk3, hu3, hi3⟩ := hp
      obtain ⟨hr, hl3, hb4, hu4⟩ := fin (some (.exit id)) W3 hk3 hu3
      exact ⟨_, _, hr, hu4, .inr ⟨rfl, _, hIxp _ _ _ _ _ _ _ hi3 (by omega) hl3 rfl, hb4⟩⟩
    | goto t => exact hp.elim
    | panic ch => exact hp.elim
    | outgrown => exact hp.elim
  · intro O W u hO hOl
    have hO' : ∀ k, O k → O0 k ∨ w.heap.size ≤ k := fun k hk => (hO k hk).imp id (fun h => by omega)
    have nO : ∀ k, k < w.heap.size + 2 → w.heap.size ≤ k → ¬ O k := fun k h1 h2 h => by
      rcases hO k h with h | h
      · have := hO0 k h; omega
      · rw [sz1] at h; omega
    have n0 : ∀ k, w.heap.size ≤ k → ¬ O0 k := fun k hk h => by have := hO0 k h; omega
    exact ⟨h0 O W ((u01 _).trans u) (by have := u.size; rw [sz1] at this; exact this) hO' hOl, (u.block _ (by omega) (n0 _ (by omega))).trans rL, (u.block _ (by omega) (n0 _ (by omega))).trans rD, nO _ (by omega) (by omega), nO _ (by omega) (by omega)⟩
  · rintro e W2 ⟨⟨v, rfl⟩, O, hf, (⟨hi, hb⟩ | ⟨pre, c, hi, hb⟩)⟩
    · exact ⟨none, _, run_endLoop (P := P) hb.1 (by simp [rec_]), hdone O _ _ rfl hb.2.2.2 (hFin _ _ _ _ hf hb.2.2.1) (hIp _ _ _ _ _ _ hi (by omega) hb.1 rfl) ((World.putObj_heap_other (by omega)).trans hb.2.1)⟩
    · exact ⟨some c, _, run_endLoop (P := P) hb.1 (by simp [rec_]), hstop O _ c pre _ rfl hb.2.2.2 (hFin _ _ _ _ hf hb.2.2.1) (hIxp _ _ _ _ _ _ _ hi (by omega) hb.1 rfl) ((World.putObj_heap_other (by omega)).trans hb.2.1)⟩
end Go.Proofs.YtmimnaaofpkndaaDoor.Hp

/- Many things in memory, each with blocks of its own: a step of one leaves the others. No function of the program in sight. -/
set_option linter.unusedVariables false
set_option linter.unusedSimpArgs false
namespace Go.Proofs.YtmimnaaofpkndaaDoor
open Go.RowKit
/-- What may be said of a thing and its own blocks stays true while these do not turn. -/
structure Stab {ι : Type} (C : ι → (Nat → Prop) → World → Prop) : Prop where
  keep : ∀ (i : ι) (O : Nat → Prop) (W W' : World) (P : Nat → Prop), C i O W → Upd W W' P → (∀ k, O k → ¬ P k) → C i O W'
structure Star {ι : Type} (C : ι → (Nat → Prop) → World → Prop) (L : ι → Prop) (own : ι → Nat → Prop) (W : World) : Prop where
  holds : ∀ i, L i → C i (own i) W
  lt : ∀ i, L i → ∀ k, own i k → k < W.heap.size
  sep : ∀ i j, L i → L j → i ≠ j → ∀ k, own i k → ¬ own j k
def setOwn {ι : Type} [DecidableEq ι] (own : ι → Nat → Prop) (i : ι) (O : Nat → Prop) (j : ι) : Nat → Prop := if j = i then O else own j
theorem setOwn_same {ι : Type} [DecidableEq ι] (own : ι → Nat → Prop) (i : ι) (O : Nat → Prop) : setOwn own i O i = O := by simp [setOwn]
theorem setOwn_ne {ι : Type} [DecidableEq ι] (own : ι → Nat → Prop) {i j : ι} (O : Nat → Prop) (h : j ≠ i) : setOwn own i O j = own j := by simp [setOwn, h]
section
variable {ι : Type} {C C' : ι → (Nat → Prop) → World → Prop} {L L' : ι → Prop} {own : ι → Nat → Prop} {W W' : World} {P O' : Nat → Prop} {i : ι}
theorem Star.upd (hC : Stab C) (h : Star C L own W) (u : Upd W W' P) (hP : ∀ i, L i → ∀ k, own i k → ¬ P k) : Star C L own W' :=
  ⟨fun i hi => hC.keep _ _ _ _ _ (h.holds i hi) u (hP i hi), fun i hi k hk => Nat.lt_of_lt_of_le (h.lt i hi k hk) u.size, h.sep⟩
theorem Star.below (hC : Stab C) (h : Star C L own W) (b : Below W.heap.size W W') : Star C L own W' := h.upd hC (P := fun _ => False) (Upd.of_below_all b) (fun _ _ _ _ e => e)
theorem Star.sub (h : Star C L own W) (hL : ∀ i, L' i → L i) : Star C L' own W :=
  ⟨fun i hi => h.holds i (hL i hi), fun i hi => h.lt i (hL i hi), fun i j hi hj => h.sep i j (hL i hi) (hL j hj)⟩
theorem Star.chg (h : Star C L own W) (hc : ∀ i, L i → ∀ O W, C i O W → C' i O W) : Star C' L own W := ⟨fun i hi => hc i hi _ _ (h.holds i hi), h.lt, h.sep⟩
/-- All but one. -/
theorem Star.rest (hC : Stab C) (h : Star C L own W) (hi : L i) (u : Upd W W' P) (hP : ∀ k, P k → own i k ∨ W.heap.size ≤ k) : Star C (fun j => L j ∧ j ≠ i) own W' :=
  (h.sub (L' := fun j => L j ∧ j ≠ i) (fun _ hj => hj.1)).upd hC u (fun j hj k hk hp => (hP k hp).elim (fun e => h.sep j i hj.1 hi hj.2 k hk e) (fun e => by have := h.lt j hj.1 k hk; omega))
variable [DecidableEq ι]
/-- One more, or one that was set aside. -/
theorem Star.put (h : Star C (fun j => L j ∧ j ≠ i) own W) (c : C i O' W) (hs : ∀ j, L j → j ≠ i → ∀ k, own j k → ¬ O' k) (hl : ∀ k, O' k → k < W.heap.size) : Star C (fun j => L j ∨ j = i) (setOwn own i O') W := by
  refine ⟨fun j hj => ?_, fun j hj k hk => ?_, fun j m hj hm hne k hk hk' => ?_⟩
  · by_cases e : j = i
    · subst e; rw [setOwn_same]; exact c
    · rw [setOwn_ne own O' e]; exact h.holds j ⟨hj.resolve_right e, e⟩
  · by_cases e : j = i
    · subst e; rw [setOwn_same] at hk; exact hl k hk
    · rw [setOwn_ne own O' e] at hk; exact h.lt j ⟨hj.resolve_right e, e⟩ k hk
  · by_cases e : j = i
    · subst e
      rw [setOwn_same] at hk
      rw [setOwn_ne own O' (Ne.symm hne)] at hk'
      exact hs m (hm.resolve_right (Ne.symm hne)) (Ne.symm hne) k hk' hk
    · rw [setOwn_ne own O' e] at hk
      by_cases e2 : m = i
      · subst e2
        rw [setOwn_same] at hk'
        exact hs j (hj.resolve_right e) e k hk hk'
      · rw [setOwn_ne own O' e2] at hk'
        exact h.sep j m ⟨hj.resolve_right e, e⟩ ⟨hm.resolve_right e2, e2⟩ hne k hk hk'
/-- A step of one: others are told alike by C'. -/
theorem Star.turn (hC : Stab C) (h : Star C L own W) (hi : L i) (u : Upd W W' P) (hP : ∀ k, P k → own i k ∨ W.heap.size ≤ k) (hc : ∀ j, L j → j ≠ i → ∀ O W, C j O W → C' j O W) (c : C' i O' W') (hn : ∀ k, O' k → own i k ∨ W.heap.size ≤ k) (hl : ∀ k, O' k → k < W'.heap.size) : Star C' L (setOwn own i O') W' := by
  have h1 := (h.rest hC hi u hP).chg (C' := C') (fun j hj O W => hc j hj.1 hj.2 O W)
  exact (h1.put c (fun j hj hne k hk ho => (hn k ho).elim (fun e => h.sep j i hj hi hne k hk e) (fun e => by have := h.lt j hj k hk; omega)) hl).sub (fun j hj => .inl hj)
/-- A new one: its blocks are new. -/
theorem Star.add (hC : Stab C) (h : Star C L own W) (hi : ¬ L i) (b : Below W.heap.size W W') (hc : ∀ j, L j → ∀ O W, C j O W → C' j O W) (c : C' i O' W') (hn : ∀ k, O' k → W.heap.size ≤ k) (hl : ∀ k, O' k → k < W'.heap.size) : Star C' (fun j => L j ∨ j = i) (setOwn own i O') W' := by
  have h1 := (h.below hC b).chg (C' := C') hc
  exact (h1.sub (L' := fun j => L j ∧ j ≠ i) (fun _ hj => hj.1)).put c (fun j hj hne k hk ho => by have := h.lt j hj k hk; have := hn k ho; omega) hl
end
end Go.Proofs.YtmimnaaofpkndaaDoor
