/- Contract of the reference's Signs: a new row of rows of units. -/
import Derived.Test.YtdeboajjhpecbaaDoorTxtG
import Derived.Test.YtdeboajjhpecbaaDoorTxt
set_option linter.unusedVariables false
set_option linter.unusedSimpArgs false
namespace Go.Proofs.YtdeboajjhpecbaaDoor.Tx
open Go.RowKit

theorem infoIntsS : (Tryd.prog.info? 31).map (fun i => (i.zero, i.size, i.bytes)) = some (some (.slice none 0 0), 1, 24) := by kernel_rfl

/-- A slice value that holds the numbers l in a block of its own. -/
structure RowAt (B : Nat) (w : World) (v : Value) (l : List Nat) : Prop where
  is : ∃ g, v = .slice (some ⟨g, 0, none⟩) l.length l.length ∧ B ≤ g ∧ w.heap[g]? = some (.cells (numCells .i64 (ints l)).toArray 3 (0, 0))

theorem RowAt.kept {B : Nat} {w w' : World} {v : Value} {l : List Nat} (h : RowAt B w v l) {row : Option Nat} (hg : w.grownBy w' row) (hr : ∀ g, row = some g → ∃ c fz, w.heap[g]? = some (.cells c 31 fz)) : RowAt B w' v l := by
  obtain ⟨g, rfl, hB, hh⟩ := h.is
  refine ⟨g, rfl, hB, (hg.block g (Array.getElem?_eq_some_iff.1 hh).1 fun e => ?_).trans hh⟩
  obtain ⟨c, fz, h2⟩ := hr g e.symm
  rw [hh] at h2
  exact absurd (Obj.cells.inj (Option.some.inj h2)).2.1 (by decide)
theorem RowAt.alloc {B : Nat} {w : World} {v : Value} {l : List Nat} (h : RowAt B w v l) (o : Obj) : RowAt B (w.alloc o) v l :=
  h.kept (World.grownBy_alloc w o none) (fun _ e => by cases e)
theorem RowAt.drew {B : Nat} {w : World} {v : Value} {l : List Nat} (h : RowAt B w v l) : RowAt B w.drew v l := ⟨h.is⟩
theorem RowAt.below {B : Nat} {w w' : World} {v : Value} {l : List Nat} (h : RowAt B w v l) (b : Below w.heap.size w w') : RowAt B w' v l :=
  h.kept (row := none) ⟨b.os, b.tape, b.output, b.size, fun k hk _ => b.block k hk⟩ (fun _ e => by cases e)
theorem RowAt.slice {B : Nat} {w : World} {v : Value} {l : List Nat} (h : RowAt B w v l) (hl : l.length ≤ 2) : ∃ g, v = .slice (some ⟨g, 0, none⟩) l.length l.length ∧ SliceR .i64 w (some ⟨g, 0, none⟩) l.length l.length (ints l) := by
  obtain ⟨g, rfl, hB, hh⟩ := h.is
  refine ⟨g, rfl, ints_length l, Nat.le_refl _, by unfold maxLen; omega, fun _ => by simp, fun _ => ⟨g, 0, rfl, (Array.getElem?_eq_some_iff.1 hh).1, fun i hi => ?_⟩⟩
  rw [Nat.zero_add, Lib.cell_of_heap hh]
  simpa using numCells_get .i64 (ints l) i (by rw [ints_length]; exact hi)

theorem ownsRow_kind {w : World} {B n : Nat} {v : Value} {xs : List Value} {t : TypeId} (h : w.ownsRow B t 1 v n xs) : ∀ g, v.ownBlock = some g → ∃ c fz, w.heap[g]? = some (.cells c t fz) := by
  intro g hg
  rcases h.2 with ⟨rfl, _⟩ | ⟨g', cap, cur, rfl, _, hh, _⟩
  · simp [Value.ownBlock] at hg
  · obtain rfl : g' = g := by simpa [Value.ownBlock] using hg
    exact ⟨cur, _, hh⟩

inductive Fa2 {α β : Type} (R : α → β → Prop) : List α → List β → Prop
  | nil : Fa2 R [] []
  | cons {a : α} {b : β} {l : List α} {m : List β} : R a b → Fa2 R l m → Fa2 R (a :: l) (b :: m)

/-- An owned row whose elements are the rows. -/
structure RowsOwn (B : Nat) (w : World) (v : Value) (rows : List (List Nat)) : Prop where
  is : ∃ xs, w.ownsRow B 31 1 v rows.length xs ∧ Fa2 (RowAt B w) xs rows

theorem forall2_imp {α β : Type} {R S : α → β → Prop} (h : ∀ a b, R a b → S a b) : ∀ {l : List α} {m : List β}, Fa2 R l m → Fa2 S l m
  | _, _, .nil => .nil
  | _, _, .cons a b => .cons (h _ _ a) (forall2_imp h b)
theorem forall2_app {α β : Type} {R : α → β → Prop} : ∀ {l : List α} {m : List β} {l' : List α} {m' : List β}, Fa2 R l m → Fa2 R l' m' → Fa2 R (l ++ l') (m ++ m')
  | _, _, _, _, .nil, h => h
  | _, _, _, _, .cons a b, h => .cons a (forall2_app b h)
theorem forall2_get {α β : Type} {R : α → β → Prop} : ∀ {l : List α} {m : List β}, Fa2 R l m → ∀ (i : Nat) (a : α) (b : β), i < m.length → R (l.getD i a) (m.getD i b)
  | _, _, .nil, i, _, _, h => by simp at h
  | _, _, .cons a b, 0, _, _, _ => by simpa using a
  | _, _, .cons a b, i + 1, x, y, h => by simpa using forall2_get b i x y (by simpa using h)

/-- What a call hands back that makes rows. -/
def NewRows (B : Nat) (w : World) (rows : List (List Nat)) (e : Ending) (w' : World) : Prop :=
  ∃ v, e = .returned v ∧ RowsOwn B w' v rows ∧ Below B w w'

theorem two_news (w : World) (o : Obj) (x : Value) : ∀ j u, [x][j]? = some u → (((w.alloc o).alloc (.cells #[x] 31)).drew).cell? ((⟨w.heap.size + 1, 0, none⟩ : Addr).add j) = some u := by
  have h : ((w.alloc o).alloc (.cells #[x] 31)).heap[w.heap.size + 1]? = some (.cells #[x] 31 (0, 0)) := by
    have := heap_alloc_new (w.alloc o) (.cells #[x] 31)
    rwa [World.size_alloc] at this
  exact World.news_of_block (cs := #[x]) (t := 31) (fr := (0, 0)) h
theorem two_news' (w : World) (o : Obj) (x : Value) : ∀ j u, [x][j]? = some u → ((w.alloc o).alloc (.cells #[x] 31)).cell? ((⟨w.heap.size + 1, 0, none⟩ : Addr).add j) = some u := two_news w o x

/-- One round's append of a new row. -/
theorem rows_step {B : Nat} {w w' : World} {v v' : Value} {rows : List (List Nat)} {xs : List Value} (l : List Nat)
    (hown : w.ownsRow B 31 1 v rows.length xs) (hF : Fa2 (RowAt B w) xs rows) (hB : B ≤ w.heap.size) (cs : Array Value) (hcs : cs = (numCells .i64 (ints l)).toArray)
    (o : Obj) (W : World) (hW : W = ((w.alloc (.cells cs 3)).alloc o) ∨ W = ((w.alloc (.cells cs 3)).alloc o).drew)
    (hg : W.grownBy w' v.ownBlock) (hown' : w'.ownsRow B 31 1 v' (rows.length + 1) (xs ++ [.slice (some ⟨w.heap.size, 0, none⟩) l.length l.length])) : RowsOwn B w' v' (rows ++ [l]) := by
  subst hcs
  have hk : ∀ g, v.ownBlock = some g → ∃ c fz, W.heap[g]? = some (.cells c 31 fz) := by
    rcases hW with rfl | rfl
    · exact ownsRow_kind ((hown.alloc _).alloc _)
    · exact ownsRow_kind (((hown.alloc _).alloc _).drew)
  have hnew : W.heap[w.heap.size]? = some (.cells (numCells .i64 (ints l)).toArray 3 (0, 0)) := by
    have h0 := heap_alloc_new w (.cells (numCells .i64 (ints l)).toArray 3)
    rcases hW with rfl | rfl
    · exact (Below.heap_alloc _ _ _ (by simp)).trans h0
    · exact (Below.heap_alloc _ _ _ (by simp)).trans h0
  have hold : ∀ x r, RowAt B w x r → RowAt B W x r := by
    rcases hW with rfl | rfl
    · exact fun x r h => (h.alloc _).alloc _
    · exact fun x r h => ((h.alloc _).alloc _).drew
  refine ⟨_, by rw [List.length_append]; exact hown', forall2_app (forall2_imp (fun x r h => (hold x r h).kept hg hk) hF) (.cons ?_ .nil)⟩
  exact (show RowAt B W _ l from ⟨_, rfl, hB, hnew⟩).kept hg hk

end Go.Proofs.YtdeboajjhpecbaaDoor.Tx
