/- Words for memory: blocks that are known whole, rows that the call owns, and what may have changed. No function of the program in sight. -/
import Derived.Test.YtdeboajjhpecbaaGreatDoorProg
import Derived.Below
import Derived.Laws.OwnMore
import Derived.Deep.AppendLies
import Derived.Deep.Draws
import Derived.Laws.Rows
import Derived.WalkKit
set_option linter.unusedVariables false
namespace Go.Proofs.YtdeboajjhpecbaaGreatDoor
open Go.RowKit

/-- A block of the call's own that is known whole. -/
def Blk (w : World) (g : Nat) (t : TypeId) (cs : Array Value) : Prop := w.heap[g]? = some (.cells cs t (0, 0))
section
variable {w w' : World} {g : Nat} {t : TypeId} {cs : Array Value}
theorem Blk.lt (h : Blk w g t cs) : g < w.heap.size := by
  rcases Nat.lt_or_ge g w.heap.size with hlt | hge
  · exact hlt
  · unfold Blk at h; rw [Array.getElem?_eq_none hge] at h; cases h
theorem Blk.cell (h : Blk w g t cs) (i : Nat) : w.cell? ⟨g, i, none⟩ = cs[i]? := cell_of_row w g i cs t (0, 0) h
theorem Blk.frozen (h : Blk w g t cs) (i : Nat) : w.frozen? ⟨g, i, none⟩ = false := by
  unfold Blk at h
  simp [World.frozen?, h]
theorem Blk.new (w : World) (t : TypeId) (cs : Array Value) : Blk (w.alloc (.cells cs t)) w.heap.size t cs := heap_alloc_new w _
theorem Blk.drew (h : Blk w g t cs) : Blk w.drew g t cs := h
theorem Blk.drewN (h : Blk w g t cs) (n : Nat) : Blk (w.drewN n) g t cs := h
theorem Blk.alloc (h : Blk w g t cs) (o : Obj) : Blk (w.alloc o) g t cs := (Below.heap_alloc w o g h.lt).trans h
theorem Blk.set_ (h : Blk w g t cs) (i : Nat) (u : Value) : Blk (w.setCell ⟨g, i, none⟩ u) g t (cs.setIfInBounds i u) := by
  unfold Blk at h ⊢
  simp [World.setCell, Array.getElem?_modify, h]
theorem Blk.far (h : Blk w g t cs) {p : Addr} (hp : g ≠ p.block) (u : Value) : Blk (w.setCell p u) g t cs := (Below.heap_setCell w p u g hp).trans h
theorem Blk.below {B : Nat} (h : Blk w g t cs) (hb : Below B w w') (hg : g < B) : Blk w' g t cs := (hb.block g hg).trans h
theorem Blk.grown {row : Option Nat} (h : Blk w g t cs) (hb : w.grownBy w' row) (hg : some g ≠ row) : Blk w' g t cs := (hb.block g h.lt hg).trans h
end


section
variable {w w' w'' : World} {g g' : Nat} {t t' : TypeId} {cs cs' : Array Value}
theorem Blk.ne_ (h : Blk w g t cs) (h' : Blk w g' t' cs') (hne : t ≠ t') : g ≠ g' := by
  rintro rfl
  unfold Blk at h h'
  rw [h] at h'
  injection h' with h'
  injection h' with _ ht
  exact hne ht
theorem own_blk_ne {base : Nat} {e : TypeId} {size n : Nat} {v : Value} {xs : List Value} (h : w.ownsRow base e size v n xs) (hg : Blk w g t cs) (hne : e ≠ t) : v.ownBlock ≠ some g := by
  rcases h.2 with ⟨rfl, _⟩ | ⟨g', cap, cur, rfl, _, hh, _⟩
  · simp [Value.ownBlock]
  · intro he
    have : g' = g := by simpa [Value.ownBlock] using he
    subst this
    exact Blk.ne_ (t := e) hh hg hne rfl
/-- A store into a block that is known whole. -/
theorem grown_set (w : World) (g i : Nat) (u : Value) : w.grownBy (w.setCell ⟨g, i, none⟩ u) (some g) :=
  ⟨rfl, rfl, rfl, by simp, fun k hk hne => Below.heap_setCell w ⟨g, i, none⟩ u k (fun e => hne (by rw [e]))⟩
theorem own_set {base : Nat} {e : TypeId} {size n : Nat} {v : Value} {xs : List Value} (h : w.ownsRow base e size v n xs) (hg : Blk w g t cs) (hne : e ≠ t) (i : Nat) (u : Value) : (w.setCell ⟨g, i, none⟩ u).ownsRow base e size v n xs :=
  h.kept (grown_set w g i u) (.inr (own_blk_ne h hg hne))

/-- From w to w' only blocks that M names, and new ones, have turned. -/
structure Upd (w w' : World) (M : Nat → Prop) : Prop where
  os : w'.os = w.os
  tape : w'.tape = w.tape
  output : w'.output = w.output
  size : w.heap.size ≤ w'.heap.size
  block : ∀ k, k < w.heap.size → ¬ M k → w'.heap[k]? = w.heap[k]?
variable {M M' : Nat → Prop}
theorem Upd.refl (w : World) (M : Nat → Prop) : Upd w w M := ⟨rfl, rfl, rfl, Nat.le_refl _, fun _ _ _ => rfl⟩
theorem Upd.trans (h : Upd w w' M) (h' : Upd w' w'' M) : Upd w w'' M :=
  ⟨h'.os.trans h.os, h'.tape.trans h.tape, h'.output.trans h.output, Nat.le_trans h.size h'.size, fun k hk hm => (h'.block k (Nat.lt_of_lt_of_le hk h.size) hm).trans (h.block k hk hm)⟩
theorem Upd.mono (h : Upd w w' M) (hm : ∀ k, k < w.heap.size → M k → M' k) : Upd w w' M' := ⟨h.os, h.tape, h.output, h.size, fun k hk hn => h.block k hk fun hk' => hn (hm k hk hk')⟩
theorem Upd.of_grown {row : Option Nat} (h : w.grownBy w' row) (hm : ∀ k, row = some k → M k) : Upd w w' M := ⟨h.os, h.tape, h.output, h.size, fun k hk hn => h.block k hk fun e => hn (hm k e.symm)⟩
theorem Upd.of_below {B : Nat} (h : Below B w w') (hm : ∀ k, B ≤ k → M k) : Upd w w' M := ⟨h.os, h.tape, h.output, h.size, fun k hk hn => h.block k (Nat.lt_of_not_le fun hb => hn (hm k hb))⟩
theorem Upd.of_below_all (h : Below w.heap.size w w') : Upd w w' M := ⟨h.os, h.tape, h.output, h.size, fun k hk _ => h.block k hk⟩
theorem Upd.alloc (h : Upd w w' M) (o : Obj) : Upd w (w'.alloc o) M := h.trans (of_grown (World.grownBy_alloc w' o none) fun _ e => by cases e)
theorem Upd.drew (h : Upd w w' M) : Upd w w'.drew M := ⟨h.os, h.tape, h.output, h.size, h.block⟩
theorem Upd.drewN (h : Upd w w' M) (n : Nat) : Upd w (w'.drewN n) M := ⟨h.os, h.tape, h.output, h.size, h.block⟩
theorem Upd.set (h : Upd w w' M) (g i : Nat) (u : Value) (hm : M g) : Upd w (w'.setCell ⟨g, i, none⟩ u) M := h.trans (of_grown (grown_set w' g i u) fun _ e => by cases e; exact hm)
theorem Upd.grown (h : Upd w w' M) {row : Option Nat} (hg : w'.grownBy w'' row) (hm : ∀ k, row = some k → M k) : Upd w w'' M := h.trans (of_grown hg hm)
theorem Upd.set_new (h : Upd w w' M) (g i : Nat) (u : Value) (hg : w.heap.size ≤ g) : Upd w (w'.setCell ⟨g, i, none⟩ u) M :=
  ⟨h.os, h.tape, h.output, by have := h.size; simpa using this, fun k hk hn => (Below.heap_setCell _ _ _ _ (by show k ≠ g; omega)).trans (h.block k hk hn)⟩
theorem Upd.then_below (h : Upd w w' M) (b : Below w'.heap.size w' w'') : Upd w w'' M := h.trans (of_below_all b)
theorem Upd.below {B : Nat} (h : Upd w w' M) (hB : B ≤ w.heap.size) (hm : ∀ k, M k → B ≤ k) : Below B w w' := ⟨h.os, h.tape, h.output, h.size, fun k hk => h.block k (Nat.lt_of_lt_of_le hk hB) fun hk' => Nat.not_le_of_lt hk (hm k hk')⟩
theorem Upd.blk (h : Upd w w' M) (hb : Blk w g t cs) (hm : ¬ M g) : Blk w' g t cs := (h.block g hb.lt hm).trans hb
theorem Upd.cell (h : Upd w w' M) {p : Addr} {v : Value} (hc : w.cell? p = some v) (hm : ¬ M p.block) : w'.cell? p = some v :=
  (World.cell?_of_block (h.block p.block (World.block_lt_of_cell? w p hc) hm)).trans hc
theorem Upd.own {base : Nat} {e : TypeId} {size n : Nat} {v : Value} {xs : List Value} (h : Upd w w' M) (ho : w.ownsRow base e size v n xs) (hm : ∀ k, v.ownBlock = some k → ¬ M k) : w'.ownsRow base e size v n xs := by
  refine ⟨ho.1, ?_⟩
  rcases ho.2 with hn | ⟨g, cap, cur, rfl, hb, hgg, rest⟩
  · exact .inl hn
  · refine .inr ⟨g, cap, cur, rfl, hb, ?_, rest⟩
    have hlt : g < w.heap.size := (Array.getElem?_eq_some_iff.1 hgg).1
    rw [h.block g hlt (hm g rfl)]; exact hgg
end
end Go.Proofs.YtdeboajjhpecbaaGreatDoor
