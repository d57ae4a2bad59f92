/- Next: the plain part. -/
import Derived.Test.YtmimnaaofpkndaaDoorOtH
set_option linter.unusedVariables false
set_option linter.unusedSimpArgs false
namespace Go.Proofs.YtmimnaaofpkndaaDoor
open Go.RowKit Go.Sort

/-- A cursor one further on. -/
def bump (c m : Nat) (D : List (Nat × Nat)) : List (Nat × Nat) := D.map (fun x => if x.1 = c then (c, m) else x)
theorem set_bump {l : List (Nat × Nat)} {k c m : Nat} {x : Nat × Nat} (hn : (l.map Prod.fst).Nodup) (hk : l[k]? = some x) (hc : x.1 = c) : l.set k (c, m) = bump c m l := by
  apply List.ext_getElem?
  intro i
  rw [bump, List.getElem?_map, List.getElem?_set]
  by_cases h : k = i
  · subst h
    rw [if_pos rfl, if_pos (List.getElem?_eq_some_iff.1 hk).1, hk]
    simp [hc]
  · rw [if_neg h]
    cases hi : l[i]? with
    | none => rfl
    | some y =>
      have hy : y.1 ≠ c := by
        intro e
        have h1 : (l.map Prod.fst)[i]? = some c := by rw [List.getElem?_map, hi]; simp [e]
        have h2 : (l.map Prod.fst)[k]? = some c := by rw [List.getElem?_map, hk]; simp [hc]
        exact h (nodup_at hn h2 h1)
      simp [hy]

theorem cnt_succ {es : List Ent} {a : Nat} {x : Ent} (hx : es[a]? = some x) : cnt es (a + 1) = if x.grave then cnt es a else cnt es a + 1 := by
  unfold cnt
  rw [cp_snoc es a x hx]
  split <;> simp
theorem cp_at {es : List Ent} {a : Nat} {x : Ent} (hx : es[a]? = some x) (hg : x.grave = false) : (cp es)[cnt es a]? = some x := by
  obtain ⟨h1, h2⟩ := List.getElem?_eq_some_iff.1 hx
  have hl : es = es.take a ++ x :: es.drop (a + 1) := by rw [← h2, ← List.drop_eq_getElem_cons h1, List.take_append_drop]
  have e1 : cp es = cp (es.take a) ++ (x :: cp (es.drop (a + 1))) := by
    conv => lhs; rw [hl, cp_append]
    simp [cp, hg]
  rw [e1, cnt, List.getElem?_append_right (Nat.le_refl _), Nat.sub_self]; rfl
theorem cp_end {es : List Ent} : (cp es)[cnt es es.length]? = none := by
  rw [List.getElem?_eq_none]
  rw [cnt, List.take_length]; exact Nat.le_refl _

/-- The cursor's place with the entry passed that is there. -/
theorem bump_cur {es : List Ent} {cs : List (Nat × Nat)} {k c a : Nat} {y : Nat × Nat} {x : Ent} (hn : (cs.map Prod.fst).Nodup) (hk : cs[k]? = some y) (hc : y.1 = c) (hx : es[a]? = some x) (hg : x.grave = false) :
    (cs.set k (c, a + 1)).map (curF es) = bump c (cnt es a + 1) (cs.map (curF es)) := by
  rw [List.map_set, show curF es (c, a + 1) = (c, cnt es a + 1) by unfold curF; rw [cnt_succ hx, hg]; rfl]
  refine set_bump (x := curF es y) ?_ (by rw [List.getElem?_map, hk]; rfl) hc
  rw [List.map_map]; exact hn
/-- A grave passed is nothing passed. -/
theorem same_cur {es : List Ent} {cs : List (Nat × Nat)} {k c a : Nat} {y : Nat × Nat} (hk : cs[k]? = some y) (hc : y.1 = c) (ha : cnt es a = cnt es y.2) : (cs.set k (c, a)).map (curF es) = cs.map (curF es) := by
  have hl := (List.getElem?_eq_some_iff.1 hk)
  apply List.ext_getElem?
  intro i
  rw [List.getElem?_map, List.getElem?_map, List.getElem?_set]
  by_cases h : k = i
  · subst h
    rw [if_pos rfl, if_pos hl.1, hk]
    simp [curF, ha, hc]
  · rw [if_neg h]

/-- What Next comes to: n: how many entries the cursor has passed. -/
def NxtP (c T n : Nat) (A : List Ent) (D : List (Nat × Nat)) (O : Nat → Prop) (w : World) (e : Ending) (w' : World) : Prop :=
  (∃ x, A[n]? = some x ∧ e = .returned (.tuple #[VK x.key, VK x.val, .int .i64 x.flags, .bool true]) ∧ TabA w' T A (bump c (n + 1) D) (Og O w w') ∧ Upd w w' O) ∨
  (A[n]? = none ∧ e = .returned (.tuple #[VS 0 0 ⟨#[]⟩, VS 0 0 ⟨#[]⟩, .int .i64 0, .bool false]) ∧ (∃ D', TabA w' T A D' (fun x => Og O w w' x ∧ x ≠ c) ∧ (∀ x, x ∈ D' ↔ x ∈ D ∧ x.1 ≠ c) ∧ D'.length + 1 = D.length) ∧
    (∃ a : Int, Blk w' c 151 #[.pointer none, .int .i64 a]) ∧ Upd w w' O)
/-- What Next comes to, told sharper (no block more is the table's): n: how many entries the cursor has passed. -/
def NxtQ (c T n : Nat) (A : List Ent) (D : List (Nat × Nat)) (O : Nat → Prop) (w : World) (e : Ending) (w' : World) : Prop :=
  (∃ x, A[n]? = some x ∧ e = .returned (.tuple #[VK x.key, VK x.val, .int .i64 x.flags, .bool true]) ∧ TabA w' T A (bump c (n + 1) D) O ∧ Upd w w' O) ∨
  (A[n]? = none ∧ e = .returned (.tuple #[VS 0 0 ⟨#[]⟩, VS 0 0 ⟨#[]⟩, .int .i64 0, .bool false]) ∧ (∃ D', TabA w' T A D' (fun x => O x ∧ x ≠ c) ∧ (∀ x, x ∈ D' ↔ x ∈ D ∧ x.1 ≠ c) ∧ D'.length + 1 = D.length) ∧
    (∃ a : Int, Blk w' c 151 #[.pointer none, .int .i64 a]) ∧ Upd w w' O)
theorem NxtQ.weak {c T n : Nat} {A : List Ent} {D : List (Nat × Nat)} {O : Nat → Prop} {w w' : World} {e : Ending} (hO : ∀ k, O k → k < w.heap.size) (h : NxtQ c T n A D O w e w') : NxtP c T n A D O w e w' := by
  rcases h with ⟨x, h1, h2, h3, h4⟩ | ⟨h1, h2, ⟨D', h3, h5⟩, h6, h4⟩
  · exact .inl ⟨x, h1, h2, h3.widen (fun k hk => .inl hk) (fun k hk => hk.elim (fun h => Nat.lt_of_lt_of_le (hO k h) h4.size) And.right), h4⟩
  · exact .inr ⟨h1, h2, ⟨D', h3.widen (fun k hk => ⟨.inl hk.1, hk.2⟩) (fun k hk => hk.1.elim (fun h => Nat.lt_of_lt_of_le (hO k h) h4.size) And.right), h5⟩, h6, h4⟩
end Go.Proofs.YtmimnaaofpkndaaDoor
