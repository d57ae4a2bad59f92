/- The arena: marking, purely; drain. -/
import Derived.Test.YthcdhiknjpfmhaaArI
set_option linter.unusedVariables false
set_option linter.unusedSimpArgs false
namespace Go.Proofs.Ythcdhiknjpfmhaa
open Go.RowKit Go.Shelf
attribute [local go_sem] Oper.semAt_some

/-- How many cells are marked. -/
def mc (cs : List Cell) : Nat := (cs.filter (·.2)).length
theorem mc_le (cs : List Cell) : mc cs ≤ cs.length := List.length_filter_le _ _
theorem mc_set (cs : List Cell) (i : Nat) (N : Option Nat) (hi : i < cs.length) (h : (cs.getD i (none, false)).2 = false) : mc (cs.set i (N, true)) = mc cs + 1 := by
  unfold mc
  induction cs generalizing i with
  | nil => simp at hi
  | cons c l ih =>
    cases i with
    | zero =>
      have h2 : c.2 = false := by simpa using h
      simp [h2]
    | succ i =>
      have := ih i (by simpa using hi) (by simpa using h)
      rw [List.set_cons_succ, List.filter_cons, List.filter_cons]
      split <;> simp [this]
theorem dead_ix {cs : List Cell} {r : Int} (h : deadP cs r = true) : ∃ (i N : Nat), r = (i : Int) + 1 ∧ i < cs.length ∧ (cs.getD i (none, false)).1 = some N ∧ (cs.getD i (none, false)).2 = false := by
  unfold deadP at h
  simp only [Bool.and_eq_true, decide_eq_true_eq, Bool.not_eq_true'] at h
  obtain ⟨⟨⟨h1, h2⟩, h3⟩, h4⟩ := h
  obtain ⟨N, hN⟩ := Option.isSome_iff_exists.1 h3
  exact ⟨(r - 1).toNat, N, by omega, by omega, hN, h4⟩
theorem reachP_len (s : List Cell × List Int) (r : Int) : (reachP s r).1.length = s.1.length := by
  unfold reachP; split <;> simp
theorem reachP_mc (s : List Cell × List Int) (r : Int) : (reachP s r).2.length + mc s.1 = s.2.length + mc (reachP s r).1 := by
  unfold reachP
  split
  · rename_i h
    obtain ⟨i, N, rfl, hi, h1, h2⟩ := dead_ix h
    rw [show ((i : Int) + 1 - 1).toNat = i by omega]
    simp only [List.length_append, List.length_cons, List.length_nil]
    rw [mc_set _ _ _ hi h2]; omega
  · rfl
/-- A cell's body abides. -/
theorem reachP_body (s : List Cell × List Int) (r : Int) (i : Nat) : ((reachP s r).1.getD i (none, false)).1 = (s.1.getD i (none, false)).1 := by
  unfold reachP
  split
  · rename_i h
    obtain ⟨j, N, rfl, hj, h1, h2⟩ := dead_ix h
    rw [show ((j : Int) + 1 - 1).toNat = j by omega]
    simp only [List.getD_eq_getElem?_getD, List.getElem?_set]
    split
    · rename_i e
      subst e
      rfl
    · rfl
  · rfl
def WorkOk (cs : List Cell) (wk : List Int) : Prop := ∀ r ∈ wk, ∃ (i N : Nat), r = (i : Int) + 1 ∧ i < cs.length ∧ (cs.getD i (none, false)).1 = some N
theorem WorkOk.reach {s : List Cell × List Int} (h : WorkOk s.1 s.2) (r : Int) : WorkOk (reachP s r).1 (reachP s r).2 := by
  intro q hq
  have hb : ∃ (i N : Nat), q = (i : Int) + 1 ∧ i < s.1.length ∧ (s.1.getD i (none, false)).1 = some N := by
    unfold reachP at hq
    split at hq
    · rename_i hd
      rcases List.mem_append.1 hq with hq | hq
      · exact h q hq
      · rw [List.mem_singleton.1 hq]
        obtain ⟨i, N, e, hi, h1, _⟩ := dead_ix hd
        exact ⟨i, N, e, hi, h1⟩
    · exact h q hq
  obtain ⟨i, N, e, hi, h1⟩ := hb
  exact ⟨i, N, e, by rw [reachP_len]; exact hi, by rw [reachP_body]; exact h1⟩
theorem foldl_len (l : List Int) (s : List Cell × List Int) : (l.foldl reachP s).1.length = s.1.length := by
  induction l generalizing s with
  | nil => rfl
  | cons r l ih => rw [List.foldl_cons, ih, reachP_len]
theorem foldl_mc (l : List Int) (s : List Cell × List Int) : (l.foldl reachP s).2.length + mc s.1 = s.2.length + mc (l.foldl reachP s).1 := by
  induction l generalizing s with
  | nil => rfl
  | cons r l ih =>
    have h1 := ih (reachP s r)
    have h2 := reachP_mc s r
    rw [List.foldl_cons]; omega
theorem foldl_body (l : List Int) (s : List Cell × List Int) (i : Nat) : ((l.foldl reachP s).1.getD i (none, false)).1 = (s.1.getD i (none, false)).1 := by
  induction l generalizing s with
  | nil => rfl
  | cons r l ih => rw [List.foldl_cons, ih, reachP_body]
theorem foldl_ok (l : List Int) (s : List Cell × List Int) (h : WorkOk s.1 s.2) : WorkOk (l.foldl reachP s).1 (l.foldl reachP s).2 := by
  induction l generalizing s with
  | nil => exact h
  | cons r l ih => exact ih _ (h.reach r)
/-- All that is held by what was come to. -/
def drainP (toF : Nat → List Int) : Nat → List Cell → List Int → List Nat → List Cell × List Nat
  | 0, cs, _, pr => (cs, pr)
  | f + 1, cs, wk, pr => match wk.getLast? with
    | none => (cs, pr)
    | some r => match (cs.getD (r - 1).toNat (none, false)).1 with
      | none => (cs, pr)
      | some N => drainP toF f ((toF N).foldl reachP (cs, wk.dropLast)).1 ((toF N).foldl reachP (cs, wk.dropLast)).2 (pr ++ [N])

/-- The state of a marking, as a loop of drain's or settle's has it: w0: where the collection begins; w1: where the function begins; its box; the marks of the ranges that are over. -/
structure DrI (w0 w1 : World) (A B M B1 bx : Nat) (cv fv rv : Value) (fr ro : List Int) (live : Int) (Ds : List Nat) (cs : List Cell) (wk : List Int) (pr : List Nat) (W : World) : Prop where
  mks : ∃ wv pv, MkS W A B M B1 cv fv rv wv pv cs fr ro live wk pr
  upd : Upd w0 W (fun k => cv.ownBlock = some k ∨ B1 ≤ k)
  ko : KeepsOthers w1 W
  box : Blk W bx 67 #[.pointer (some ⟨M, 0, none⟩)]
  ds : ∀ D ∈ Ds, w1.heap.size ≤ D ∧ W.heap[D]? = some (.deferred (some []))
  nd : Ds.Nodup
  kb : ∀ g xs, Blk w1 g 67 xs → Blk W g 67 xs
theorem blk_grown {w w' : World} {row : Option Nat} {g : Nat} {t : TypeId} {cs : Array Value} (h : Blk w g t cs) (hg : w.grownBy w' row) (hr : ∀ r, row = some r → ∃ o : Obj, w.heap[r]? = some o ∧ o.isCells = false) : Blk w' g t cs :=
  (grownBy_keeps_cells hg hr (show w.heap[g]? = some (.cells cs t (0, 0)) from h) rfl).trans h
theorem own_grown {w w' : World} {row : Option Nat} {B size n : Nat} {t : TypeId} {v : Value} {xs : List Value} (h : w.ownsRow B t size v n xs) (hg : w.grownBy w' row) (hr : ∀ r, row = some r → ∃ o : Obj, w.heap[r]? = some o ∧ o.isCells = false) : w'.ownsRow B t size v n xs := by
  refine h.kept hg ?_
  cases hv : v.ownBlock with
  | none => exact .inl rfl
  | some g =>
    refine .inr fun e => ?_
    obtain ⟨c, f, h1⟩ := own_kind h g hv
    obtain ⟨o, h2, h3⟩ := hr g e.symm
    rw [h1] at h2; cases h2; cases h3
/-- It abides the turn of what is no cells and lies beyond. -/
theorem DrI.abide {w0 w1 W W' : World} {A B M B1 bx b : Nat} {cv fv rv : Value} {fr ro : List Int} {live : Int} {Ds : List Nat} {cs : List Cell} {wk : List Int} {pr : List Nat} {row : Option Nat} (h : DrI w0 w1 A B M B1 bx cv fv rv fr ro live Ds cs wk pr W)
    (hb1 : w1.heap.size ≤ b) (hbB : B1 ≤ b) (hDs : ∀ D ∈ Ds, D < b) (hg : W.grownBy W' row) (hr : ∀ r, row = some r → b ≤ r ∧ ∃ o : Obj, W.heap[r]? = some o ∧ o.isCells = false) : DrI w0 w1 A B M B1 bx cv fv rv fr ro live Ds cs wk pr W' := by
  have hr2 : ∀ r, row = some r → ∃ o : Obj, W.heap[r]? = some o ∧ o.isCells = false := fun r e => (hr r e).2
  obtain ⟨⟨wv, pv, hm⟩, hu, hk, hx, hd, hnd, hkb⟩ := h
  refine ⟨⟨wv, pv, ⟨⟨blk_grown hm.ar.blk hg hr2, own_grown hm.ar.cells hg hr2, own_grown hm.ar.free hg hr2, own_grown hm.ar.roots hg hr2, hm.ar.apart⟩, blk_grown hm.mkb hg hr2, own_grown hm.work hg hr2, own_grown hm.prs hg hr2, hm.fvB, hm.rvB⟩⟩, hu.grown hg (fun k e => .inr (Nat.le_trans hbB (hr k e).1)), ⟨Nat.le_trans hk.size hg.size, fun k o ho hc => ?_⟩, blk_grown hx hg hr2, fun D hD => ⟨(hd D hD).1, ?_⟩, hnd, fun g xs hb => blk_grown (hkb g xs hb) hg hr2⟩
  · have h1 := hk.same k o ho hc
    refine (hg.block k (Array.getElem?_eq_some_iff.1 h1).1 fun e => ?_).trans h1
    have := (hr k e.symm).1
    have := (Array.getElem?_eq_some_iff.1 ho).1
    omega
  · have h1 := (hd D hD).2
    refine (hg.block D (Array.getElem?_eq_some_iff.1 h1).1 fun e => ?_).trans h1
    have := (hr D e.symm).1
    have := hDs D hD
    omega
/-- What a node holds: To, Table. -/
structure Nds where
  ta : Nat → Option Addr
  tc : Nat → Nat
  to_ : Nat → List Int
  pa : Nat → Option Addr
  pc : Nat → Nat
  tab : Nat → List Pr
structure NdR (w : World) (B1 : Nat) (cv : Value) (D : Nds) (N : Nat) : Prop where
  toR : ToR w N (D.ta N) (D.tc N) (D.to_ N)
  tabR : TabR w N (D.pa N) (D.pc N) (D.tab N)
  lt : N < B1
  ne : cv.ownBlock ≠ some N
  toB : ∀ b, D.ta N = some b → b.block < B1 ∧ cv.ownBlock ≠ some b.block
  tabB : ∀ b, D.pa N = some b → b.block < B1 ∧ cv.ownBlock ≠ some b.block
  toL : (D.to_ N).length ≤ 100000000
  tabL : (D.tab N).length ≤ 100000000
theorem NdR.upd {w W : World} {B1 : Nat} {cv : Value} {D : Nds} {N : Nat} (h : NdR w B1 cv D N) (hu : Upd w W (fun k => cv.ownBlock = some k ∨ B1 ≤ k)) : NdR W B1 cv D N := by
  have far : ∀ {p : Addr} {v : Value}, w.cell? p = some v → p.block < B1 → cv.ownBlock ≠ some p.block → W.cell? p = some v := fun hc h1 h2 => hu.cell hc (fun e => by
    rcases e with e | e
    · exact h2 e
    · exact absurd h1 (Nat.not_lt_of_le e))
  refine ⟨⟨far h.toR.fld h.lt h.ne, fun hn => ?_⟩, ⟨far h.tabR.fld h.lt h.ne, fun hn => ?_⟩, h.lt, h.ne, h.toB, h.tabB, h.toL, h.tabL⟩
  · obtain ⟨b, e, hc⟩ := h.toR.els hn
    exact ⟨b, e, fun i hi => far (hc i hi) (h.toB _ e).1 (h.toB _ e).2⟩
  · obtain ⟨b, e, hc⟩ := h.tabR.els hn
    exact ⟨b, e, fun i hi => ⟨far (hc i hi).1 (h.tabB _ e).1 (h.tabB _ e).2, far (hc i hi).2 (h.tabB _ e).1 (h.tabB _ e).2⟩⟩
section
variable {F : Fence} {n : Nat} {P : Program}
/-- The marks are taken, one by one. -/
theorem leaves_marks {fn : Func} {tmps : Array Value} {R : Ending → World → Prop} {b : Nat} {I : Unit → World → Prop} (hI : OwnFrom b I) (hret : ∀ W, I () W → LeavesIn F n P fn tmps R [] .returning W) :
    ∀ (Ds : List Nat) (W : World), Ds.Nodup → (∀ D ∈ Ds, b ≤ D ∧ W.heap[D]? = some (.deferred (some []))) → I () W → LeavesInM F n P fn tmps R (Ds.map markD) .returning W := by
  intro Ds
  induction Ds with
  | nil => exact fun W _ _ h => hret W h
  | cons D Ds ih =>
    intro W hn hd h
    have hD := hd D (List.mem_cons_self ..)
    refine ⟨by simp, .inl ⟨D, _, rfl, run_takeDeferred hD.2, ih _ (List.nodup_cons.1 hn).2 (fun E hE => ?_) (hI.putObj _ h hD.1 hD.2 rfl)⟩⟩
    have hE2 := hd E (List.mem_cons_of_mem _ hE)
    exact ⟨hE2.1, (World.putObj_heap_other (by rintro rfl; exact (List.nodup_cons.1 hn).1 hE)).trans hE2.2⟩
theorem calls_of_wp_marks {f : FuncId} {fn : Func} {c : Code} {args : Array Value} {w : World} {R : Ending → World → Prop} (hf : P.funcs[f]? = some fn) (hb : fn.body = some c)
    (h : c.wp P (bodyPostM Fence.wide 9 P fn R) { tmps := args ++ Array.replicate (fn.ntmps - args.size) undef, defers := [] } w) : Calls P f args w R :=
  (callsIn_wide (n := 9)).1 (callsIn_of_wp_marks hf hb trivial (wpIn_wide.2 h) rfl)
end
theorem methodEach (a : Addr) (w : World) : (method 207 27 (.pointer (some a)) "Each").run Try.prog w = .ok (52, .pointer (some a)) w := by kernel_rfl
theorem isPairs (v : Value) (w : World) : (Instr.typeAssert (.iface 27 v) 57 72 true).run Try.prog w = .ok (.tuple #[.iface 27 v, .bool true]) w := run_typeAssert_hasB Try.underlying72 (by kernel_rfl) v 57 w
/-- How many pairs the marker has. -/
def prN (W : World) (M : Nat) : Nat := match W.cell? ⟨M, 2, none⟩ with
  | some (.slice _ n _) => n
  | _ => 0
theorem DrI.prN {w0 w1 W : World} {A B M B1 bx : Nat} {cv fv rv : Value} {fr ro : List Int} {live : Int} {Ds : List Nat} {cs : List Cell} {wk : List Int} {pr : List Nat} (h : DrI w0 w1 A B M B1 bx cv fv rv fr ro live Ds cs wk pr W) : prN W M = pr.length := by
  obtain ⟨wv, pv, hm⟩ := h.mks
  obtain ⟨a, cap, rfl, _⟩ := own_shape hm.prs
  unfold Go.Proofs.Ythcdhiknjpfmhaa.prN
  rw [hm.mkb.cell]; rfl
end Go.Proofs.Ythcdhiknjpfmhaa
