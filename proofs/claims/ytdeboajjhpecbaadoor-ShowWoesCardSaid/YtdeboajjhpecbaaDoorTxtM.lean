/- Rows of units, read; what a round of a range over a function keeps. -/
import Derived.Test.YtdeboajjhpecbaaDoorTxtY
import Derived.Test.YtdeboajjhpecbaaDoorTxtZ
set_option linter.unusedVariables false
set_option linter.unusedSimpArgs false
namespace Go.Proofs.YtdeboajjhpecbaaDoor.Tx
open Go.RowKit Go.Shelf

/-- What a block that holds cells holds is kept by a step that turns a block of another kind. -/
theorem cells_kept {W W' : World} {row : Option Nat} (hg : W.grownBy W' row) (hr : ∀ r, row = some r → ∃ o : Obj, W.heap[r]? = some o ∧ o.isCells = false) {g : Nat} {cs : Array Value} {t : TypeId} {fz : Nat × Nat} (h : W.heap[g]? = some (.cells cs t fz)) : W'.heap[g]? = some (.cells cs t fz) := by
  refine (hg.block g (Array.getElem?_eq_some_iff.1 h).1 fun e => ?_).trans h
  obtain ⟨o, ho, hc⟩ := hr g e.symm
  rw [h] at ho
  obtain rfl := Option.some.inj ho
  simp [Obj.isCells] at hc
theorem keepsOthers_below {W W' : World} (b : Below W.heap.size W W') : KeepsOthers W W' := ⟨b.size, fun k o hk _ => (b.block k (Array.getElem?_eq_some_iff.1 hk).1).trans hk⟩
theorem keepAt_below {b : Nat} {W W' : World} (h : Below W.heap.size W W') (hb : b < W.heap.size) : KeepAt b W W' := h.block b hb
theorem keepAt_set {b b' : Nat} {W W' : World} (h : KeepAt b W W') (hb : b ≠ b') (v : Value) : KeepAt b W (W'.setCell ⟨b', 0, none⟩ v) := (Below.heap_setCell W' ⟨b', 0, none⟩ v b hb).trans h

theorem RowAt.far {B : Nat} {w w' : World} {v : Value} {l : List Nat} (h : RowAt B w v l) (b : Below w.heap.size w w') : RowAt B w' v l := h.below b
theorem RowsOwn.below {B : Nat} {w w' : World} {v : Value} {rows : List (List Nat)} (h : RowsOwn B w v rows) (b : Below w.heap.size w w') : RowsOwn B w' v rows := by
  obtain ⟨xs, ho, hF⟩ := h.is
  refine ⟨xs, ⟨ho.1, ?_⟩, forall2_imp (fun x r hx => hx.below b) hF⟩
  rcases ho.2 with h0 | ⟨g, cap, cur, h1, h2, h3, h4⟩
  · exact .inl h0
  · exact .inr ⟨g, cap, cur, h1, h2, (b.block g (Array.getElem?_eq_some_iff.1 h3).1).trans h3, h4⟩

theorem RowsOwn.shape {B : Nat} {w : World} {v : Value} {rows : List (List Nat)} (h : RowsOwn B w v rows) : ∃ A cap, v = .slice A rows.length cap := by
  obtain ⟨xs, ho, hF⟩ := h.is
  rcases ho.2 with ⟨rfl, h0⟩ | ⟨g, cap, cur, rfl, h2, h3, h4⟩
  · rw [h0]; exact ⟨none, 0, rfl⟩
  · exact ⟨_, _, rfl⟩
theorem fa2_at {α β : Type} {R : α → β → Prop} : ∀ {l : List α} {m : List β}, Fa2 R l m → ∀ (i : Nat) (b : β), m[i]? = some b → ∃ a, l[i]? = some a ∧ R a b
  | _, _, .nil, i, _, h => by simp at h
  | _, _, .cons a b, 0, _, h => by simp at h; subst h; exact ⟨_, rfl, a⟩
  | _, _, .cons a b, i + 1, y, h => by simpa using fa2_at b i y (by simpa using h)
/-- One of the rows, read. -/
theorem RowsOwn.at {B : Nat} {w : World} {A : Option Addr} {M capv : Nat} {rows : List (List Nat)} (h : RowsOwn B w (.slice A M capv) rows) (hM : rows.length = M) (k : Nat) (r : List Nat) (hr : rows[k]? = some r) (h2 : r.length ≤ 2) :
    ∃ g g', A = some ⟨g, 0, none⟩ ∧ w.cell? ⟨g, k, none⟩ = some (.slice (some ⟨g', 0, none⟩) r.length r.length) ∧ SliceR .i64 w (some ⟨g', 0, none⟩) r.length r.length (ints r) := by
  obtain ⟨xs, ho, hF⟩ := h.is
  obtain ⟨x, hx, hR⟩ := fa2_at hF k r hr
  obtain ⟨g', rfl, hS⟩ := hR.slice h2
  have hk : k < rows.length := (List.getElem?_eq_some_iff.1 hr).1
  subst hM
  rcases ho.2 with ⟨_, h0⟩ | ⟨g, cap, cur, he, h2', h3, h4⟩
  · omega
  · obtain ⟨rfl, _, rfl⟩ := Value.slice.inj he
    exact ⟨g, g', rfl, by rw [World.ownsRow.cellAt ho k (by omega)]; exact hx, hS⟩

theorem str_ext {a b : ByteArray} (h : a.toList = b.toList) : a = b := by
  have : a.data.toList = b.data.toList := by rw [← ByteArray.toList_eq, ← ByteArray.toList_eq, h]
  exact ByteArray.ext (Array.toList_inj.1 this)

theorem snoc_prefix {α : Type} {pre T : List α} {x : α} (h : pre <+: T) : (pre ++ [x]) <+: T ↔ T[pre.length]? = some x := by
  obtain ⟨t, rfl⟩ := h
  constructor
  · rintro ⟨u, hu⟩
    rw [List.append_assoc, List.append_right_inj] at hu
    subst hu; simp
  · intro hx
    cases t with
    | nil => simp at hx
    | cons y t => simp at hx; subst hx; exact ⟨t, by simp⟩

end Go.Proofs.YtdeboajjhpecbaaDoor.Tx
