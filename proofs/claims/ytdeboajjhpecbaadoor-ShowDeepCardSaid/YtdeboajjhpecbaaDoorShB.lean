/- Show: machine(). -/
import Derived.Test.YtdeboajjhpecbaaDoorShA
import Derived.BigQuiet
set_option linter.unusedVariables false
set_option linter.unusedSimpArgs false
namespace Go.Proofs.YtdeboajjhpecbaaDoor.Hp
open Go.RowKit Go.Proofs.YtdeboajjhpecbaaDoor Go.Shelf

/-- A machine and its arena: nothing is free, no roots. -/
structure Ms (N : Nat) (w : World) (m H A B : Nat) (cv : Value) (cs : List Cell) (ps : List Int) : Prop where
  low : N ≤ m ∧ N ≤ A ∧ N ≤ B ∧ B ≤ w.heap.size
  own : ∀ g, cv.ownBlock = some g → N ≤ g
  mb : Blk w m 52 (machC H ps)
  pl : ps.length = 21
  hx : Hx w H A B cv nilS nilS cs [] [] (cs.length : Int)
  hk : ∀ i n, (cs.getD i (none, false)).1 = some n → n.1 = tObj ∨ n.1 = tMark
theorem Ms.below {N : Nat} {w w' : World} {m H A B : Nat} {cv : Value} {cs : List Cell} {ps : List Int} (h : Ms N w m H A B cv cs ps) (b : Below w.heap.size w w') : Ms N w' m H A B cv cs ps :=
  ⟨⟨h.low.1, h.low.2.1, h.low.2.2.1, Nat.le_trans h.low.2.2.2 b.size⟩, h.own, h.mb.below b h.mb.lt, h.pl, h.hx.below b, h.hk⟩
theorem Ms.drewN {N : Nat} {w : World} {m H A B : Nat} {cv : Value} {cs : List Cell} {ps : List Int} (h : Ms N w m H A B cv cs ps) (q : Nat) : Ms N (w.drewN q) m H A B cv cs ps := h.below (below_drw (Below.refl w.heap.size w) q)
/-- What is kept: the blocks of objects, values and symbols. -/
def Kp (w w' : World) : Prop := ∀ g t cs, Blk w g t cs → (t = 36 ∨ t = 26 ∨ t = 111) → Blk w' g t cs
theorem Kp.refl (w : World) : Kp w w := fun _ _ _ h _ => h
theorem Kp.trans {w w' w'' : World} (h : Kp w w') (k : Kp w' w'') : Kp w w'' := fun g t cs hb ht => k g t cs (h g t cs hb ht) ht
theorem Kp.of_below {w w' : World} (b : Below w.heap.size w w') : Kp w w' := fun g t cs h _ => h.below b h.lt
theorem objP_last (cs : List Cell) (b : Nat) : objP (cs ++ [(some (tObj, b), false)]) ((cs.length + 1 : Nat) : Int) = .pointer (some ⟨b, 0, none⟩) := by
  have h1 : (1 : Int) ≤ ((cs.length + 1 : Nat) : Int) ∧ ((cs.length + 1 : Nat) : Int) ≤ (((cs ++ [(some (tObj, b), false)]).length : Nat) : Int) := by simp; omega
  have h2 : (((cs.length + 1 : Nat) : Int) - 1).toNat = cs.length := by omega
  unfold objP
  rw [if_pos h1, h2]
  simp
theorem objP_old (cs : List Cell) (x : Cell) (r : Int) (h : r ≤ cs.length) : objP (cs ++ [x]) r = objP cs r := by
  unfold objP
  by_cases h1 : 1 ≤ r
  · have h2 : (r - 1).toNat < cs.length := by omega
    rw [if_pos ⟨h1, by simp; omega⟩, if_pos ⟨h1, h⟩]
    rw [show (cs ++ [x]).getD (r - 1).toNat (none, false) = cs.getD (r - 1).toNat (none, false) by simp only [List.getD, List.getElem?_append_left h2]]
  · rw [if_neg (fun h => h1 h.1), if_neg (fun h => h1 h.1)]
/-- Make, by a machine. -/
theorem Ms.make {N : Nat} {w : World} {m H A B : Nat} {cv : Value} {cs : List Cell} {ps : List Int} (h : Ms N w m H A B cv cs ps) (cl pr : Int) (hc : cs.length ≤ 4000) (hN : N ≤ w.heap.size) :
    Calls Tryd.prog 11 #[.pointer (some ⟨H, 0, none⟩), .int .i64 cl, .int .i64 pr] w fun e w' => ∃ b T cv', e = .returned (.tuple #[.int .i64 ((cs.length + 1 : Nat) : Int), .pointer (some ⟨b, 0, none⟩)]) ∧
      Ms N w' m H A B cv' (cs ++ [(some (tObj, b), false)]) ps ∧ Blk w' b 36 (objN cl pr T) ∧ TabA w' T [] [] (fun k => k = T) ∧ w.heap.size ≤ T ∧ T < b ∧ Kp w w' ∧ Below N w w' := by
  refine (make_any cl pr h.hx (by omega) (by omega) (by omega) h.low.2.2.2).mono ?_
  rintro e w' ⟨b, T, cv', rfl, hT, hTb, hB, hTab, hX, hU, hO⟩
  have hne : ∀ g t c, Blk w g t c → (t = 36 ∨ t = 26 ∨ t = 111 ∨ t = 52) → ¬ (g = A ∨ cv.ownBlock = some g) := by
    intro g t c hb ht hg
    rcases hg with rfl | hg
    · exact hb.ne_ h.hx.ar.blk (by rcases ht with rfl | rfl | rfl | rfl <;> decide) rfl
    · exact own_blk_ne h.hx.ar.cells hb (by rcases ht with rfl | rfl | rfl | rfl <;> decide) hg
  refine ⟨b, T, cv', rfl, ⟨⟨h.low.1, h.low.2.1, h.low.2.2.1, Nat.le_trans h.low.2.2.2 hU.size⟩, ?_, hU.blk h.mb (hne _ _ _ h.mb (by simp)), h.pl, ?_, ?_⟩, hB, hTab, hT, hTb, fun g t c hb ht => hU.blk hb (hne g t c hb (by rcases ht with h | h | h <;> simp [h])), ?_⟩
  · intro g hg
    rcases hO g hg with h1 | h1
    · exact h.own g h1
    · omega
  · have : ((cs ++ [(some (tObj, b), false)]).length : Int) = (cs.length : Int) + 1 := by simp
    rw [this]
    exact hX
  · intro i n hn
    by_cases hi : i < cs.length
    · rw [show (cs ++ [(some (tObj, b), false)]).getD i (none, false) = cs.getD i (none, false) by simp only [List.getD, List.getElem?_append_left hi]] at hn
      exact h.hk i n hn
    · by_cases he : i = cs.length
      · subst he
        simp at hn
        left
        rw [← hn]
      · rw [show (cs ++ [(some (tObj, b), false)]).getD i (none, false) = (none, false) by simp only [List.getD]; rw [List.getElem?_eq_none (by simp; omega)]; rfl] at hn
        cases hn
  · refine hU.below hN ?_
    intro k hk
    rcases hk with rfl | hk
    · exact h.low.2.1
    · exact h.own k hk
theorem machC_get (H : Nat) (ps : List Int) (hp : ps.length = 21) (i : Nat) (hi : i < 21) : (machC H ps)[1 + i]? = some (.int .i64 (ps.getD i 0)) := by
  unfold machC
  rw [List.getElem?_toArray, Nat.add_comm, List.getElem?_cons_succ, List.getElem?_append_left (by simp [numCells]; omega)]
  exact numCells_get ps i (by omega)
theorem machC_set (H : Nat) (ps : List Int) (hp : ps.length = 21) (i : Nat) (hi : i < 21) (x : Int) : (machC H ps).setIfInBounds (1 + i) (.int .i64 x) = machC H (ps.set i x) := by
  unfold machC
  rw [List.setIfInBounds_toArray, Nat.add_comm, List.set_cons_succ, List.set_append_left _ _ (by simp [numCells]; omega)]
  simp [numCells, List.map_set]
/-- A prototype is set. -/
theorem Ms.proto {N : Nat} {w : World} {m H A B : Nat} {cv : Value} {cs : List Cell} {ps : List Int} (h : Ms N w m H A B cv cs ps) (i : Nat) (hi : i < 21) (x : Int) (hN : N ≤ w.heap.size) :
    Ms N (w.setCell ⟨m, 1 + i, none⟩ (.int .i64 x)) m H A B cv cs (ps.set i x) ∧ Kp w (w.setCell ⟨m, 1 + i, none⟩ (.int .i64 x)) ∧ Below N w (w.setCell ⟨m, 1 + i, none⟩ (.int .i64 x)) := by
  have u : Upd w (w.setCell ⟨m, 1 + i, none⟩ (.int .i64 x)) (fun k => k = m) := (Upd.refl w _).set m (1 + i) _ rfl
  have hm := h.mb.set_ (1 + i) (.int .i64 x)
  rw [machC_set H ps h.pl i hi x] at hm
  refine ⟨⟨⟨h.low.1, h.low.2.1, h.low.2.2.1, Nat.le_trans h.low.2.2.2 u.size⟩, h.own, hm, by rw [List.length_set]; exact h.pl, ?_, h.hk⟩, ?_, ?_⟩
  · refine h.hx.upd u (fun e => h.hx.hb.ne_ h.mb (by decide) e) (fun e => h.hx.ar.blk.ne_ h.mb (by decide) e) (fun g hg e => own_blk_ne h.hx.ar.cells h.mb (by decide) (e ▸ hg)) (fun g hg => by cases hg) (fun g hg => by cases hg)
  · exact fun g t c hb ht => u.blk hb (fun e => hb.ne_ h.mb (by rcases ht with rfl | rfl | rfl <;> decide) e)
  · exact u.below hN (fun k e => e ▸ h.low.1)
end Go.Proofs.YtdeboajjhpecbaaDoor.Hp
