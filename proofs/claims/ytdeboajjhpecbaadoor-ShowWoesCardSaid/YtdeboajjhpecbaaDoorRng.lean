/- A law on a range over a function whose rounds all go on, whatever function value is ranged over; the marks that such loops leave. -/
import Derived.RangeFuncBox
import Derived.RangeFuncNested
import Derived.RangeFuncBound
import Derived.RangeFuncCalls
import Derived.RangeFuncLeaves
import Derived.Shelf.Abstract
import Derived.Shelf.RegionOpen
import Derived.OwnWalkIn
import Derived.TacticsInMore
import Derived.LoopNIn
import Derived.LoopIn
import Derived.Test.YtdeboajjhpecbaaDoorWld
set_option linter.unusedVariables false
set_option linter.unusedSimpArgs false
namespace Go.Proofs.YtdeboajjhpecbaaDoor
open Go.RowKit Go.Shelf

variable {F : Fence} {n : Nat} {P : Program}

def markD (D : Nat) : Deferred := { target := .collected D, args := #[] }
/-- A round that goes on. -/
def goesOn {α : Type} (I : List α → World → Prop) (ys : List α) (W : World) : Exit → Act → World → Prop
  | .normal, _, W' => KeepsOthers W W' ∧ I ys W'
  | _, _, _ => False
/-- Ranging over a function of which it is known that it hands out just xs: every round goes on. -/
theorem wpIn_range_all {α : Type} {g : Operand} {ps : Array Tmp} {assign body : Code} {Q : Exit → Act → World → Prop} {a : Act} {w : World} (hro : F.round = none) (h1 : 1 ≤ n) {gf : Nat} {argsOf : Nat → Array Value}
    (hres : ∀ l W, ∃ d, (resolve a.eval (rangeCall g l) 0).run P W = .ok d W ∧ (∀ f', Target.leads P W d.target d.args = some f' → F.fn f') ∧ (invoke d.target d.args).run P W = .ok (.enter gf (argsOf l)) W)
    {encs : α → Array Value} (hps : ∀ x, (encs x).size = ps.size) (xs : List α) (I : List α → World → Prop) (hI : OwnFrom w.heap.size I) (h0 : I [] w) (a₁ : α → Act)
    (hseq : ∀ (l : Nat) (J : List α → World → Prop) (W : World), (∀ pre W1, J pre W1 → I pre W1) → (∀ pre W1 q, J pre W1 → J pre (W1.drewN q)) → (∀ pre W1 o, J pre W1 → J pre (W1.alloc o)) →
      (∀ pre x W1, J pre W1 → (pre ++ [x]) <+: xs → YieldAt F (n - 1 - 1) P l (encs x) W1 fun e W' => e = .returned (.bool true) ∧ J (pre ++ [x]) W') → J [] W →
      CallsIn F (n - 1) P gf (argsOf l) W fun e W' => (∃ v, e = .returned v) ∧ J xs W')
    (hassign : ∀ (l : Nat) (x : α) (W : World) (K : Act → World → Prop), K (a₁ x) W →
      assign.wpIn (F.inRound l) (n - 1 - 1) P (Exit.then K (fun _ _ _ => False)) { tmps := (ps.zip (encs x)).foldl (fun t (p, v) => t.setIfInBounds p v) a.tmps, defers := [] } W)
    (hbody : ∀ (l : Nat) (pre : List α) (x : α) (W : World), I pre W → (pre ++ [x]) <+: xs → body.wpIn (F.inRound l) (n - 1 - 1) P (goesOn I (pre ++ [x]) W) (a₁ x) W)
    (hdone : ∀ (D : Nat) (W : World), w.heap.size ≤ D → I xs W → W.heap[D]? = some (.deferred (some [])) → Q .normal { a with defers := markD D :: a.defers } W) :
    (Code.rangeFunc g ps assign body).wpIn F n P Q a w := by
  refine wpIn_rangeFunc fun fn hfn => ?_
  rw [hro]
  -- the record and the block for deferred calls
  let rec_ : LoopState → Loop := fun st => { state := st, pending := none, fn, tmps := a.tmps, params := ps, assign, body, defers := w.heap.size }
  let W1 : World := (w.alloc (.deferred (some []))).alloc (.loop (rec_ .ready))
  have sz1 : W1.heap.size = w.heap.size + 2 := by simp [W1]
  have rL : W1.heap[w.heap.size + 1]? = some (.loop (rec_ .ready)) := by
    have h := World.alloc_heap_new (w.alloc (.deferred (some []))) (.loop (rec_ .ready))
    rwa [World.size_alloc] at h
  have rD : W1.heap[w.heap.size]? = some (.deferred (some [])) := (Below.heap_alloc _ _ _ (by simp)).trans (World.alloc_heap_new w _)
  obtain ⟨d, hd1, hd2, hd3⟩ := hres (w.heap.size + 1) W1
  refine ⟨w.heap.size + 1, [markD w.heap.size], W1, d, W1, gf, argsOf (w.heap.size + 1), W1, run_enterLoop_outer _ _ _ _ _, hd1, hd2, hd3, fun _ => h1, ?_⟩
  let J : List α → World → Prop := fun pre W => I pre W ∧ W.heap[w.heap.size + 1]? = some (.loop (rec_ .ready)) ∧ W.heap[w.heap.size]? = some (.deferred (some []))
  have put : ∀ {pre : List α} {W : World} {o : Obj} (o' : Obj), I pre W → W.heap[w.heap.size + 1]? = some o → o.isCells = false → I pre (W.putObj (w.heap.size + 1) o') := fun o' hi hl ho => hI.putObj o' hi (by omega) hl ho
  refine (hseq (w.heap.size + 1) J W1 (fun _ _ h => h.1) (fun pre W q h => ⟨hI _ W _ none h.1 ⟨rfl, rfl, rfl, Nat.le_refl _, fun _ _ _ => rfl⟩ (fun r e => by cases e), h.2.1, h.2.2⟩) (fun pre W o h => ⟨hI.alloc _ h.1, (Below.heap_alloc _ _ _ (Array.getElem?_eq_some_iff.1 h.2.1).1).trans h.2.1, (Below.heap_alloc _ _ _ (Array.getElem?_eq_some_iff.1 h.2.2).1).trans h.2.2⟩) ?_ ⟨hI.alloc _ (hI.alloc _ h0), rL, rD⟩).mono ?_
  · rintro pre x W ⟨hi, hl, hk⟩ hpre
    have hlt : w.heap.size + 1 < W.heap.size := (Array.getElem?_eq_some_iff.1 hl).1
    refine ⟨fn, _, assign, body, run_yield (P := P) (args := encs x) hl (hps x), roundIn_of_wpIn hfn (hassign _ x W _ ⟨_, run_beginRound hl rfl, ?_⟩)⟩
    have hl2 : (W.putObj (w.heap.size + 1) (.loop (rec_ .busy))).heap[w.heap.size + 1]? = some (.loop (rec_ .busy)) := World.putObj_heap_same hlt
    have hk2 : (W.putObj (w.heap.size + 1) (.loop (rec_ .busy))).heap[w.heap.size]? = some (.deferred (some [])) := (World.putObj_heap_other (by omega)).trans hk
    refine wpIn_mono (hbody _ pre x (W.putObj (w.heap.size + 1) (.loop (rec_ .busy))) (put _ hi hl rfl) hpre) ?_
    rintro e a3 W3 hp
    cases e with
    | normal =>
      obtain ⟨hk3, hi3⟩ := hp
      have hl3 := hk3.same _ _ hl2 rfl
      have hd3 := hk3.same _ _ hk2 rfl
      exact ⟨_, _, run_endRound (P := P) none hl3, rfl, put _ hi3 hl3 rfl, World.putObj_heap_same (Array.getElem?_eq_some_iff.1 hl3).1, (World.putObj_heap_other (by omega)).trans hd3⟩
    | ret => exact hp.elim
    | exit id => exact hp.elim
    | goto t => exact hp.elim
    | panic ch => exact hp.elim
    | outgrown => exact hp.elim
  · rintro e W2 ⟨⟨v, rfl⟩, hi, hl, hk⟩
    exact ⟨none, _, run_endLoop (P := P) hl (by simp [rec_]), hdone _ _ (Nat.le_refl _) (put _ hi hl rfl) ((World.putObj_heap_other (by omega)).trans hk)⟩
end Go.Proofs.YtdeboajjhpecbaaDoor
