/- Qir: several texts in one. -/
import Derived.RangeFuncBox
import Derived.RangeFuncNested
import Derived.RangeFuncBound
import Derived.RangeFuncCalls
import Derived.RangeFuncLeaves
import Derived.Shelf.Abstract
import Derived.Shelf.RegionOpen
import Derived.OwnWalkIn
import Derived.TacticsInMore
import Derived.LoopNIn
import Derived.LoopIn
import Derived.Test.YtdeboajjhpecbaaGreatDoorWld
import Derived.Lib.QuietBelowIn
/- A law on a range over a function whose rounds all go on, whatever function value is ranged over; the marks that such loops leave. -/
set_option linter.unusedVariables false
set_option linter.unusedSimpArgs false
namespace Go.Proofs.YtdeboajjhpecbaaGreatDoor
open Go.RowKit Go.Shelf

variable {F : Fence} {n : Nat} {P : Program}

def markD (D : Nat) : Deferred := { target := .collected D, args := #[] }
/-- A round that goes on. -/
def goesOn {α : Type} (I : List α → World → Prop) (ys : List α) (W : World) : Exit → Act → World → Prop
  | .normal, _, W' => KeepsOthers W W' ∧ I ys W'
  | _, _, _ => False
/-- Ranging over a function of which it is known that it hands out just xs: every round goes on. -/
theorem wpIn_range_all {α : Type} {g : Operand} {ps : Array Tmp} {assign body : Code} {Q : Exit → Act → World → Prop} {a : Act} {w : World} (hro : F.round = none) (h1 : 1 ≤ n) {gf : Nat} {argsOf : Nat → Array Value}
    (hres : ∀ l W, ∃ d, (resolve a.eval (rangeCall g l) 0).run P W = .ok d W ∧ (∀ f', Target.leads P W d.target d.args = some f' → F.fn f') ∧ (invoke d.target d.args).run P W = .ok (.enter gf (argsOf l)) W)
    {encs : α → Array Value} (hps : ∀ x, (encs x).size = ps.size) (xs : List α) (I : List α → World → Prop) (hI : OwnFrom w.heap.size I) (h0 : I [] w) (a₁ : α → Act)
    (hseq : ∀ (l : Nat) (J : List α → World → Prop) (W : World), (∀ pre W1, J pre W1 → I pre W1) → (∀ pre W1 q, J pre W1 → J pre (W1.drewN q)) → (∀ pre W1 o, J pre W1 → J pre (W1.alloc o)) →
      (∀ pre x W1, J pre W1 → (pre ++ [x]) <+: xs → YieldAt F (n - 1 - 1) P l (encs x) W1 fun e W' => e = .returned (.bool true) ∧ J (pre ++ [x]) W') → J [] W →
      CallsIn F (n - 1) P gf (argsOf l) W fun e W' => (∃ v, e = .returned v) ∧ J xs W')
    (hassign : ∀ (l : Nat) (x : α) (W : World) (K : Act → World → Prop), K (a₁ x) W →
      assign.wpIn (F.inRound l) (n - 1 - 1) P (Exit.then K (fun _ _ _ => False)) { tmps := (ps.zip (encs x)).foldl (fun t (p, v) => t.setIfInBounds p v) a.tmps, defers := [] } W)
    (hbody : ∀ (l : Nat) (pre : List α) (x : α) (W : World), I pre W → (pre ++ [x]) <+: xs → body.wpIn (F.inRound l) (n - 1 - 1) P (goesOn I (pre ++ [x]) W) (a₁ x) W)
    (hdone : ∀ (D : Nat) (W : World), w.heap.size ≤ D → I xs W → W.heap[D]? = some (.deferred (some [])) → Q .normal { a with defers := markD D :: a.defers } W) :
    (Code.rangeFunc g ps assign body).wpIn F n P Q a w := by
  refine wpIn_rangeFunc fun fn hfn => ?_
  rw [hro]
  -- the record and the block for deferred calls
  let rec_ : LoopState → Loop := fun st => { state := st, pending := none, fn, tmps := a.tmps, params := ps, assign, body, defers := w.heap.size }
  let W1 : World := (w.alloc (.deferred (some []))).alloc (.loop (rec_ .ready))
  have sz1 : W1.heap.size = w.heap.size + 2 := by simp [W1]
  have rL : W1.heap[w.heap.size + 1]? = some (.loop (rec_ .ready)) := by
    have h := World.alloc_heap_new (w.alloc (.deferred (some []))) (.loop (rec_ .ready))
    rwa [World.size_alloc] at h
  have rD : W1.heap[w.heap.size]? = some (.deferred (some [])) := (Below.heap_alloc _ _ _ (by simp)).trans (World.alloc_heap_new w _)
  obtain ⟨d, hd1, hd2, hd3⟩ := hres (w.heap.size + 1) W1
  refine ⟨w.heap.size + 1, [markD w.heap.size], W1, d, W1, gf, argsOf (w.heap.size + 1), W1, run_enterLoop_outer _ _ _ _ _, hd1, hd2, hd3, fun _ => h1, ?_⟩
  let J : List α → World → Prop := fun pre W => I pre W ∧ W.heap[w.heap.size + 1]? = some (.loop (rec_ .ready)) ∧ W.heap[w.heap.size]? = some (.deferred (some []))
  have put : ∀ {pre : List α} {W : World} {o : Obj} (o' : Obj), I pre W → W.heap[w.heap.size + 1]? = some o → o.isCells = false → I pre (W.putObj (w.heap.size + 1) o') := fun o' hi hl ho => hI.putObj o' hi (by omega) hl ho
  refine (hseq (w.heap.size + 1) J W1 (fun _ _ h => h.1) (fun pre W q h => ⟨hI _ W _ none h.1 ⟨rfl, rfl, rfl, Nat.le_refl _, fun _ _ _ => rfl⟩ (fun r e => by cases e), h.2.1, h.2.2⟩) (fun pre W o h => ⟨hI.alloc _ h.1, (Below.heap_alloc _ _ _ (Array.getElem?_eq_some_iff.1 h.2.1).1).trans h.2.1, (Below.heap_alloc _ _ _ (Array.getElem?_eq_some_iff.1 h.2.2).1).trans h.2.2⟩) ?_ ⟨hI.alloc _ (hI.alloc _ h0), rL, rD⟩).mono ?_
  · rintro pre x W ⟨hi, hl, hk⟩ hpre
    have hlt : w.heap.size + 1 < W.heap.size := (Array.getElem?_eq_some_iff.1 hl).1
    refine ⟨fn, _, assign, body, run_yield (P := P) (args := encs x) hl (hps x), roundIn_of_wpIn hfn (hassign _ x W _ ⟨_, run_beginRound hl rfl, ?_⟩)⟩
    have hl2 : (W.putObj (w.heap.size + 1) (.loop (rec_ .busy))).heap[w.heap.size + 1]? = some (.loop (rec_ .busy)) := World.putObj_heap_same hlt
    have hk2 : (W.putObj (w.heap.size + 1) (.loop (rec_ .busy))).heap[w.heap.size]? = some (.deferred (some [])) := (World.putObj_heap_other (by omega)).trans hk
    refine wpIn_mono (hbody _ pre x (W.putObj (w.heap.size + 1) (.loop (rec_ .busy))) (put _ hi hl rfl) hpre) ?_
    rintro e a3 W3 hp
    cases e with
    | normal =>
      obtain ⟨hk3, hi3⟩ := hp
      have hl3 := hk3.same _ _ hl2 rfl
      have hd3 := hk3.same _ _ hk2 rfl
      exact ⟨_, _, run_endRound (P := P) none hl3, rfl, put _ hi3 hl3 rfl, World.putObj_heap_same (Array.getElem?_eq_some_iff.1 hl3).1, (World.putObj_heap_other (by omega)).trans hd3⟩
    | ret => exact hp.elim
    | exit id => exact hp.elim
    | goto t => exact hp.elim
    | panic ch => exact hp.elim
    | outgrown => exact hp.elim
  · rintro e W2 ⟨⟨v, rfl⟩, hi, hl, hk⟩
    exact ⟨none, _, run_endLoop (P := P) hl (by simp [rec_]), hdone _ _ (Nat.le_refl _) (put _ hi hl rfl) ((World.putObj_heap_other (by omega)).trans hk)⟩
end Go.Proofs.YtdeboajjhpecbaaGreatDoor

/- A law on a range over a function whose iterator has blocks of its own (a cursor, say) that turn between the rounds; rounds may stop. -/
set_option linter.unusedVariables false
set_option linter.unusedSimpArgs false
namespace Go.Proofs.YtdeboajjhpecbaaGreatDoor
open Go.RowKit Go.Shelf

variable {F : Fence} {n : Nat} {P : Program}

theorem Upd.put (W : World) (l : Nat) (o : Obj) : Upd W (W.putObj l o) (fun k => k = l) :=
  ⟨rfl, rfl, rfl, by simp [World.putObj], fun k hk hn => World.putObj_heap_other (fun e => hn e)⟩
theorem KeepsOthers.of_upd {W W' : World} {M : Nat → Prop} (u : Upd W W' M) (h : ∀ k o, M k → W.heap[k]? = some o → o.isCells = true) : KeepsOthers W W' :=
  ⟨u.size, fun k o hk ho => by
    have hlt := (Array.getElem?_eq_some_iff.1 hk).1
    exact (u.block k hlt (fun hm => by rw [h k o hm hk] at ho; cases ho)).trans hk⟩

/-- What a round may come to. -/
def stepsOn {α : Type} (O : Nat → Prop) (I : List α → World → Prop) (Ix : Code → List α → World → Prop) (ys : List α) (W : World) : Exit → Act → World → Prop
  | .normal, _, W' => KeepsOthers W W' ∧ Upd W W' (fun k => ¬ O k) ∧ I ys W'
  | .ret, _, W' => KeepsOthers W W' ∧ Upd W W' (fun k => ¬ O k) ∧ Ix .ret ys W'
  | .exit id, _, W' => KeepsOthers W W' ∧ Upd W W' (fun k => ¬ O k) ∧ Ix (.exit id) ys W'
  | _, _, _ => False

/-- What an iterator over xs keeps to: its own blocks (O, known once it has begun) turn, and no others. -/
def SeqOwn {α : Type} (F : Fence) (m : Nat) (P : Program) (gf : Nat) (args : Array Value) (l : Nat) (encs : α → Array Value) (xs : List α) (O0 : Nat → Prop) (Fin : (Nat → Prop) → World → Prop) (W : World) : Prop :=
  ∀ (J Jx : (Nat → Prop) → List α → World → Prop),
    (∀ O pre W1 W2, J O pre W1 → Upd W1 W2 O → J O pre W2) → (∀ O pre W1 W2, Jx O pre W1 → Upd W1 W2 O → Jx O pre W2) →
    (∀ O pre x W1, J O pre W1 → (pre ++ [x]) <+: xs → YieldAt F (m - 1) P l (encs x) W1 fun e W' => Upd W1 W' (fun k => ¬ O k) ∧ ((e = .returned (.bool true) ∧ J O (pre ++ [x]) W') ∨ (e = .returned (.bool false) ∧ Jx O (pre ++ [x]) W'))) →
    (∀ O W1, Upd W W1 O0 → (∀ k, O k → O0 k ∨ W.heap.size ≤ k) → J O [] W1) →
    CallsIn F m P gf args W fun e W' => (∃ v, e = .returned v) ∧ ∃ O, Fin O W' ∧ (J O xs W' ∨ ∃ pre, Jx O pre W')

theorem wpIn_range_own {α : Type} {g : Operand} {ps : Array Tmp} {assign body : Code} {Q : Exit → Act → World → Prop} {a : Act} {w : World} (hro : F.round = none) (h1 : 1 ≤ n) {gf : Nat} {argsOf : Nat → Array Value}
    (hres : ∀ l W, ∃ d, (resolve a.eval (rangeCall g l) 0).run P W = .ok d W ∧ (∀ f', Target.leads P W d.target d.args = some f' → F.fn f') ∧ (invoke d.target d.args).run P W = .ok (.enter gf (argsOf l)) W)
    {encs : α → Array Value} (hps : ∀ x, (encs x).size = ps.size) (xs : List α) (O0 : Nat → Prop) (hO0 : ∀ k, O0 k → k < w.heap.size) (Fin : (Nat → Prop) → World → Prop)
    (hseq : ∀ l W, Upd w W (fun _ => False) → SeqOwn F (n - 1) P gf (argsOf l) l encs xs O0 Fin W)
    (hFin : ∀ O W l o, Fin O W → ¬ O l → Fin O (W.putObj l o))
    (I : (Nat → Prop) → List α → World → Prop) (Ix : (Nat → Prop) → Code → List α → World → Prop)
    (hI : ∀ O pre W W', I O pre W → Upd W W' O → I O pre W') (hIx : ∀ O c pre W W', Ix O c pre W → Upd W W' O → Ix O c pre W')
    (hIp : ∀ O pre W l o o', I O pre W → w.heap.size ≤ l → W.heap[l]? = some o → o.isCells = false → I O pre (W.putObj l o')) (hIxp : ∀ O c pre W l o o', Ix O c pre W → w.heap.size ≤ l → W.heap[l]? = some o → o.isCells = false → Ix O c pre (W.putObj l o'))
    (h0 : ∀ O W, Upd w W O0 → (∀ k, O k → O0 k ∨ w.heap.size ≤ k) → I O [] W)
    (Ax : α → Act → World → Prop) (hAx : ∀ x a' W l o o', Ax x a' W → w.heap.size ≤ l → W.heap[l]? = some o → o.isCells = false → Ax x a' (W.putObj l o'))
    (hassign : ∀ (l : Nat) (O : Nat → Prop) (pre : List α) (x : α) (W : World) (K : Act → World → Prop), I O pre W → (pre ++ [x]) <+: xs → (∀ a' W', KeepsOthers W W' → Upd W W' (fun k => ¬ O k) → I O pre W' → Ax x a' W' → K a' W') →
      assign.wpIn (F.inRound l) (n - 1 - 1) P (Exit.then K (fun _ _ _ => False)) { tmps := (ps.zip (encs x)).foldl (fun t (p, v) => t.setIfInBounds p v) a.tmps, defers := [] } W)
    (hbody : ∀ (l : Nat) (O : Nat → Prop) (pre : List α) (x : α) (a' : Act) (W : World), I O pre W → Ax x a' W → (pre ++ [x]) <+: xs → body.wpIn (F.inRound l) (n - 1 - 1) P (stepsOn O (I O) (Ix O) (pre ++ [x]) W) a' W)
    (hdone : ∀ (O : Nat → Prop) (D : Nat) (W : World), w.heap.size ≤ D → ¬ O D → Fin O W → I O xs W → W.heap[D]? = some (.deferred (some [])) → Q .normal { a with defers := markD D :: a.defers } W)
    (hstop : ∀ (O : Nat → Prop) (D : Nat) (c : Code) (pre : List α) (W : World), w.heap.size ≤ D → ¬ O D → Fin O W → Ix O c pre W → W.heap[D]? = some (.deferred (some [])) → c.wpIn F n P Q { a with defers := markD D :: a.defers } W) :
    (Code.rangeFunc g ps assign body).wpIn F n P Q a w := by
  refine wpIn_rangeFunc fun fn hfn => ?_
  rw [hro]
  let rec_ : LoopState → Option Code → Loop := fun st pe => { state := st, pending := pe, fn, tmps := a.tmps, params := ps, assign, body, defers := w.heap.size }
  let W1 : World := (w.alloc (.deferred (some []))).alloc (.loop (rec_ .ready none))
  have sz1 : W1.heap.size = w.heap.size + 2 := by simp [W1]
  have rL : W1.heap[w.heap.size + 1]? = some (.loop (rec_ .ready none)) := by
    have h := World.alloc_heap_new (w.alloc (.deferred (some []))) (.loop (rec_ .ready none))
    rwa [World.size_alloc] at h
  have rD : W1.heap[w.heap.size]? = some (.deferred (some [])) := (Below.heap_alloc _ _ _ (by simp)).trans (World.alloc_heap_new w _)
  have u01 : ∀ M, Upd w W1 M := fun M => ((Upd.refl w M).alloc _).alloc _
  obtain ⟨d, hd1, hd2, hd3⟩ := hres (w.heap.size + 1) W1
  refine ⟨w.heap.size + 1, [markD w.heap.size], W1, d, W1, gf, argsOf (w.heap.size + 1), W1, run_enterLoop_outer _ _ _ _ _, hd1, hd2, hd3, fun _ => h1, ?_⟩
  -- the two blocks of book-keeping lie as they lay, and are none of the iterator's
  let B : (Nat → Prop) → LoopState → Option Code → World → Prop := fun O st pe W => W.heap[w.heap.size + 1]? = some (.loop (rec_ st pe)) ∧ W.heap[w.heap.size]? = some (.deferred (some [])) ∧ ¬ O (w.heap.size + 1) ∧ ¬ O w.heap.size
  have Bk : ∀ {O st pe W W'}, B O st pe W → KeepsOthers W W' → B O st pe W' := fun hb hk => ⟨hk.same _ _ hb.1 rfl, hk.same _ _ hb.2.1 rfl, hb.2.2.1, hb.2.2.2⟩
  have Bu : ∀ {O st pe W W'}, B O st pe W → Upd W W' O → B O st pe W' := fun hb hu => ⟨(hu.block _ (Array.getElem?_eq_some_iff.1 hb.1).1 hb.2.2.1).trans hb.1, (hu.block _ (Array.getElem?_eq_some_iff.1 hb.2.1).1 hb.2.2.2).trans hb.2.1, hb.2.2.1, hb.2.2.2⟩
  refine (hseq (w.heap.size + 1) W1 (u01 _) (fun O pre W => I O pre W ∧ B O .ready none W) (fun O pre W => ∃ c, Ix O c pre W ∧ B O .done (some c) W)
    (fun O pre W W' h u => ⟨hI _ _ _ _ h.1 u, Bu h.2 u⟩) (fun O pre W W' h u => by obtain ⟨c, h1, h2⟩ := h; exact ⟨c, hIx _ _ _ _ _ h1 u, Bu h2 u⟩) ?_ ?_).mono ?_
  · rintro O pre x W ⟨hi, hb⟩ hpre
    refine ⟨fn, _, assign, body, run_yield (P := P) (args := encs x) hb.1 (hps x), roundIn_of_wpIn hfn (hassign _ O pre x W _ hi hpre ?_)⟩
    intro a' Wa hk1 hu1 hi1 hax
    have hb1 := Bk hb hk1
    have hlt : w.heap.size + 1 < Wa.heap.size := (Array.getElem?_eq_some_iff.1 hb1.1).1
    refine ⟨_, run_beginRound hb1.1 rfl, ?_⟩
    have hb2 : B O .busy none (Wa.putObj (w.heap.size + 1) (.loop (rec_ .busy none))) := ⟨World.putObj_heap_same hlt, (World.putObj_heap_other (by omega)).trans hb1.2.1, hb1.2.2⟩
    have hu2 : Upd W (Wa.putObj (w.heap.size + 1) (.loop (rec_ .busy none))) (fun k => ¬ O k) := hu1.trans ((Upd.put _ _ _).mono (fun k _ e => by rw [e]; exact hb.2.2.1))
    refine wpIn_mono (hbody _ O pre x a' (Wa.putObj (w.heap.size + 1) (.loop (rec_ .busy none))) (hIp _ _ _ _ _ _ hi1 (by omega) hb1.1 rfl) (hAx _ _ _ _ _ _ hax (by omega) hb1.1 rfl) hpre) ?_
    have fin : ∀ (jump : Option Code) (W3 : World), KeepsOthers (Wa.putObj (w.heap.size + 1) (.loop (rec_ .busy none))) W3 → Upd (Wa.putObj (w.heap.size + 1) (.loop (rec_ .busy none))) W3 (fun k => ¬ O k) →
        (Instr.endRound (w.heap.size + 1) jump).run P W3 = .ok (.bool jump.isNone) (W3.putObj (w.heap.size + 1) (.loop (rec_ (if jump.isNone then .ready else .done) jump))) ∧
        W3.heap[w.heap.size + 1]? = some (.loop (rec_ .busy none)) ∧
        B O (if jump.isNone then .ready else .done) jump (W3.putObj (w.heap.size + 1) (.loop (rec_ (if jump.isNone then .ready else .done) jump))) ∧
        Upd W (W3.putObj (w.heap.size + 1) (.loop (rec_ (if jump.isNone then .ready else .done) jump))) (fun k => ¬ O k) := fun jump W3 hk3 hu3 => by
      have hb3 := Bk hb2 hk3
      exact ⟨run_endRound (P := P) jump hb3.1, hb3.1, ⟨World.putObj_heap_same (Array.getElem?_eq_some_iff.1 hb3.1).1, (World.putObj_heap_other (by omega)).trans hb3.2.1, hb3.2.2⟩,
        (hu2.trans hu3).trans ((Upd.put _ _ _).mono (fun k _ e => by rw [e]; exact hb.2.2.1))⟩
    rintro e a3 W3 hp
    cases e with
    | normal =>
      obtain ⟨hk3, hu3, hi3⟩ := hp
      obtain ⟨hr, hl3, hb4, hu4⟩ := fin none W3 hk3 hu3
      exact ⟨_, _, hr, hu4, .inl ⟨rfl, hIp _ _ _ _ _ _ hi3 (by omega) hl3 rfl, hb4⟩⟩
    | ret =>
      obtain ⟨hk3, hu3, hi3⟩ := hp
      obtain ⟨hr, hl3, hb4, hu4⟩ := fin (some .ret) W3 hk3 hu3
      exact ⟨_, _, hr, hu4, .inr ⟨rfl, _, hIxp _ _ _ _ _ _ _ hi3 (by omega) hl3 rfl, hb4⟩⟩
    | exit id =>
      obtain ⟨hk3, hu3, hi3⟩ := hp
      obtain ⟨hr, hl3, hb4, hu4⟩ := fin (some (.exit id)) W3 hk3 hu3
      exact ⟨_, _, hr, hu4, .inr ⟨rfl, _, hIxp _ _ _ _ _ _ _ hi3 (by omega) hl3 rfl, hb4⟩⟩
    | goto t => exact hp.elim
    | panic ch => exact hp.elim
    | outgrown => exact hp.elim
  · intro O W u hO
    have hO' : ∀ k, O k → O0 k ∨ w.heap.size ≤ k := fun k hk => (hO k hk).imp id (fun h => by omega)
    have nO : ∀ k, k < w.heap.size + 2 → w.heap.size ≤ k → ¬ O k := fun k h1 h2 h => by
      rcases hO k h with h | h
      · have := hO0 k h; omega
      · rw [sz1] at h; omega
    have n0 : ∀ k, w.heap.size ≤ k → ¬ O0 k := fun k hk h => by have := hO0 k h; omega
    exact ⟨h0 O W ((u01 _).trans u) hO', (u.block _ (by omega) (n0 _ (by omega))).trans rL, (u.block _ (by omega) (n0 _ (by omega))).trans rD, nO _ (by omega) (by omega), nO _ (by omega) (by omega)⟩
  · rintro e W2 ⟨⟨v, rfl⟩, O, hf, (⟨hi, hb⟩ | ⟨pre, c, hi, hb⟩)⟩
    · exact ⟨none, _, run_endLoop (P := P) hb.1 (by simp [rec_]), hdone O _ _ (Nat.le_refl _) hb.2.2.2 (hFin _ _ _ _ hf hb.2.2.1) (hIp _ _ _ _ _ _ hi (by omega) hb.1 rfl) ((World.putObj_heap_other (by omega)).trans hb.2.1)⟩
    · exact ⟨some c, _, run_endLoop (P := P) hb.1 (by simp [rec_]), hstop O _ c pre _ (Nat.le_refl _) hb.2.2.2 (hFin _ _ _ _ hf hb.2.2.1) (hIxp _ _ _ _ _ _ _ hi (by omega) hb.1 rfl) ((World.putObj_heap_other (by omega)).trans hb.2.1)⟩
/-- The marks are taken, one by one. -/
theorem marksOut {fn : Func} {tmps : Array Value} {R : Ending → World → Prop} {b : Nat} {I : World → Prop} (hI : ∀ W l o o', I W → b ≤ l → W.heap[l]? = some o → o.isCells = false → I (W.putObj l o')) (hret : ∀ W, I W → LeavesIn F n P fn tmps R [] .returning W) :
    ∀ (Ds : List Nat) (W : World), Ds.Nodup → (∀ D ∈ Ds, b ≤ D ∧ W.heap[D]? = some (.deferred (some []))) → I W → LeavesInM F n P fn tmps R (Ds.map markD) .returning W := by
  intro Ds
  induction Ds with
  | nil => exact fun W _ _ h => hret W h
  | cons D Ds ih =>
    intro W hn hd h
    have hD := hd D (List.mem_cons_self ..)
    refine ⟨by simp, .inl ⟨D, _, rfl, run_takeDeferred hD.2, ih _ (List.nodup_cons.1 hn).2 (fun E hE => ?_) (hI _ _ _ _ h hD.1 hD.2 rfl)⟩⟩
    have hE2 := hd E (List.mem_cons_of_mem _ hE)
    exact ⟨hE2.1, (World.putObj_heap_other (by rintro rfl; exact (List.nodup_cons.1 hn).1 hE)).trans hE2.2⟩
/-- A function whose activation may hold marks at its end. -/
theorem callsM_of_wp {f : FuncId} {fn : Func} {c : Code} {args : Array Value} {w : World} {R : Ending → World → Prop} (hf : P.funcs[f]? = some fn) (hb : fn.body = some c)
    (h : c.wp P (bodyPostM Fence.wide 9 P fn R) { tmps := args ++ Array.replicate (fn.ntmps - args.size) undef, defers := [] } w) : Calls P f args w R :=
  (callsIn_wide (n := 9)).1 (callsIn_of_wp_marks hf hb trivial (wpIn_wide.2 h) rfl)
end Go.Proofs.YtdeboajjhpecbaaGreatDoor

/- A region that draws its order and only reads, within a round of a range over a function: walked once, in the order of the text. -/
set_option linter.unusedVariables false
set_option linter.unusedSimpArgs false
namespace Go.Proofs.YtdeboajjhpecbaaGreatDoor
open Go.RowKit Go.Shelf Go.Sort

section
variable {F : Fence} {n : Nat} {P : Program} {ops : Array Oper} {md : Region.Mode} {C : World → Prop}
theorem wpIn_of_quietR {o : Oper} {a : Act} {K : Act → Prop} {K' : Act → World → Prop} {Q' : Exit → Act → World → Prop} {w : World} (hse : ∀ e, o.semAt F.round e = execOp e o) (hw : C w) (h : ∀ a w', C w' → K a → K' a w')
    (ha : o.askedIn F P a C) (hh : o.quietIn F n P a C K) : o.wpIn F n P a w K' Q' := by
  obtain ⟨v, h1, h2⟩ := hh
  have h3 := h1 w hw
  unfold Oper.quietAtIn at h3
  unfold Oper.wpIn
  refine ⟨ha w hw, ?_⟩
  rw [show Oper.semAt F.round a.eval o = execOp a.eval o from hse _]
  generalize (execOp a.eval o).run P w = r at *
  cases r with
  | ok x w' =>
    cases x <;> simp only [Oper.quietUponIn] at h3 <;> simp only [Oper.uponIn]
    case value u =>
      obtain ⟨e1, e2⟩ := h3
      rw [e1, e2]
      exact h _ _ hw h2
    case skip =>
      obtain ⟨e1, e2⟩ := h3
      rw [e1, ← e2]
      exact h _ _ hw h2
    case enter f args =>
      obtain ⟨e1, hd, hc⟩ := h3
      rw [e1]
      exact ⟨hd, hc.mono fun e w'' ⟨he, hw''⟩ => by subst he; exact h _ _ hw'' h2⟩
  | halt x w' => simp only [Oper.quietUponIn] at h3
theorem wpOpIn_of_qOpInR {i : Nat} {a : Act} {K : Act → Prop} {K' : Act → World → Prop} {Q' : Exit → Act → World → Prop} {w : World} (hse : ∀ o, ops[i]? = some o → ∀ e, o.semAt F.round e = execOp e o) (hC : C w) (h : ∀ a w', C w' → K a → K' a w')
    (hh : qOpIn F n P ops C i K a) : wpOpIn F n P ops Q' i K' a w := by
  unfold qOpIn at hh
  unfold wpOpIn
  split
  · rename_i ho; simp only [ho] at hh; exact h _ _ hC hh
  · rename_i o ho
    simp only [ho] at hh
    obtain ⟨ha, hh⟩ := hh
    split
    · rename_i hw; simp only [hw, if_true] at hh; exact wpIn_of_quietR (hse o ho) hC h ha hh
    · rename_i hw; simp only [hw] at hh; exact ⟨ha w hC, h _ _ hC hh⟩
theorem wpAnyIn_of_quietR {Q : Act → Prop} {Q' : Exit → Act → World → Prop} (hse : ∀ (i : Nat) (o : Oper), ops[i]? = some o → ∀ e, o.semAt F.round e = execOp e o) (hQ : ∀ a w, C w → Q a → Q' .normal a w) : ∀ (fuel : Nat) (listed : Array Bool) (a : Act) (w : World), C w →
    wpAnyQIn F n P md ops C Q fuel listed a → wpAnyIn F n P md ops Q' fuel listed a w
  | 0, _, _, _, hw, h => ⟨h.1, hQ _ _ hw h.2⟩
  | fuel + 1, _, _, _, hw, h => ⟨fun h0 => hQ _ _ hw (h.1 h0), fun i hi => wpOpIn_of_qOpInR (hse i) hw (fun a' w' hw' => wpAnyIn_of_quietR hse hQ fuel _ a' w' hw') (h.2 i hi)⟩
def noDefer (ops : Array Oper) : Bool := ops.all fun o => match o.op with | .defer _ => false | _ => true
theorem noDefer_spec (h : noDefer ops = true) (ro : Option Nat) (i : Nat) (o : Oper) (ho : ops[i]? = some o) (e : Operand → Value) : o.semAt ro e = execOp e o := by
  refine Oper.semAt_eq ro e o (fun c hc => ?_)
  unfold noDefer at h
  rw [Array.all_eq_true] at h
  obtain ⟨hi, rfl⟩ := Array.getElem?_eq_some_iff.1 ho
  have := h i hi
  rw [hc] at this
  cases this
/-- A region that draws, whose operations leave the world within a class. -/
theorem wpIn_region_quietR {id : Nat} {Q : Exit → Act → World → Prop} {a : Act} {w : World} (hnd : noDefer ops = true) (hm : P.follows .mixedOrders = true) (hB : Region.lexB .any ops = true) (hC : C { w with drawn := w.drawn + 1 })
    (h : wpQuietIn F n P ops C (fun a' => ∀ w', C w' → Q .normal a' w') ops.toList a) : (Code.region id ops true).wpIn F n P Q a w := by
  simp only [Region.lexB, Bool.and_eq_true] at hB
  refine wpIn_region_any hm (wpAnyIn_of_quietR (Q := fun a' => ∀ w', C w' → Q .normal a' w') (fun i o ho e => noDefer_spec hnd _ i o ho e) (fun _ w' hw' h => h w' hw') _ _ _ _ hC ?_)
  have := wpAnyQIn_lex (F := F) (n := n) (C := C) (md := .any) hB.1 ops.toList 0 (Array.replicate ops.size false) a (by simp) (by simpa using hB.2) h
  simpa using this
/-- The same, only draws. -/
theorem quietR_lit {id : Nat} {Q : Exit → Act → World → Prop} {a : Act} {w : World} {l : List Oper} (hnd : noDefer l.toArray = true) (hm : P.follows .mixedOrders = true) (hB : Region.lexB .any l.toArray = true)
    (h : wpQuietIn F n P l.toArray (fun w' => ∃ n, w' = w.drewN n) (fun a' => ∀ q, Q .normal a' (w.drewN q)) l a) : (Code.region id l.toArray true).wpIn F n P Q a w := by
  refine wpIn_region_quietR (C := fun w' => ∃ n, w' = w.drewN n) hnd hm hB ⟨1, rfl⟩ ?_
  have e : (fun a' => ∀ w', (∃ n, w' = w.drewN n) → Q .normal a' w') = fun a' => ∀ q, Q .normal a' (w.drewN q) := by
    funext a'
    apply propext
    exact ⟨fun h q => h _ ⟨q, rfl⟩, fun h w' ⟨q, e⟩ => e ▸ h q⟩
  rw [e]
  simpa using h
/-- The same; callees may make memory. -/
theorem quietR_below {id : Nat} {Q : Exit → Act → World → Prop} {a : Act} {w : World} {l : List Oper} (hnd : noDefer l.toArray = true) (hm : P.follows .mixedOrders = true) (hB : Region.lexB .any l.toArray = true)
    (h : wpQuietIn F n P l.toArray (fun w' => ∃ p : Regrown, w' = grow (redrawn w p.d) p.os) (fun a' => ∀ w', (∃ p : Regrown, w' = grow (redrawn w p.d) p.os) → Q .normal a' w') l a) : (Code.region id l.toArray true).wpIn F n P Q a w :=
  wpIn_region_quietR (C := fun w' => ∃ p : Regrown, w' = grow (redrawn w p.d) p.os) hnd hm hB ⟨⟨w.drawn + 1, #[]⟩, by rw [grow_empty]; rfl⟩ (by simpa using h)
end
end Go.Proofs.YtdeboajjhpecbaaGreatDoor
