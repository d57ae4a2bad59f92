/- ArenaKeeps: a row that came in, copied behind one's own (nothing, too). -/
import Derived.Test.YthcdhiknjpfmhaaArKeL
import Derived.Test.YthcdhiknjpfmhaaOrd
import Derived.Deep.Upon
set_option linter.unusedVariables false
set_option linter.unusedSimpArgs false
namespace Go.Proofs.Ythcdhiknjpfmhaa
open Go.RowKit Go.Deep
section
variable {P : Program} {w : World}
theorem wp_onto {o : Oper} {a : Act} {K : Act → World → Prop} {Q : Exit → Act → World → Prop} (s x : Operand) (t : TypeId)
    (ho : o.op = .call { callee := .builtin .append, args := #[s, x], argTypes := #[t, t] })
    (base : Nat) (e : TypeId) (i : TypeInfo) (z : Value) (size bytes : Nat) (ht : P.underlying t = some (.slice e)) (hi : P.info? e = some i) (hz : i.zero = some z)
    (hsize : i.size = size) (hby : i.bytes = bytes) (hzs : z.cells.size = size) (hsz : 0 < size)
    (v : Value) (n : Nat) (xs : List Value) (hs : a.eval s = v) (hown : w.ownsRow base e size v n xs)
    (xa : Option Addr) (m c : Nat) (news : List Value) (hx : a.eval x = .slice xa m c) (hl : news.length = m * size) (hnews : 0 < m → ∃ ad, xa = some ad ∧ ∀ j u, news[j]? = some u → w.cell? (ad.add j) = some u) (h1 : ∀ u ∈ news, u.oneCell' = true)
    (h63 : n + m ≤ maxLen) (hbytes : (n + m) * bytes ≤ 140737488355328) (hbase : base ≤ w.heap.size)
    (h : ∀ v' w', w'.ownsRow base e size v' (n + m) (xs ++ news) → w.grownBy w' v.ownBlock → (∀ g, v'.ownBlock = some g → v.ownBlock = some g ∨ g = w.heap.size) → K (a.put o.dst v') w') : o.wp P a w K Q := by
  by_cases hm : 0 < m
  · obtain ⟨ad, rfl, hc⟩ := hnews hm
    exact wp_append_lies w s x t ho base e i z size bytes ht hi hz hsize hby hzs hsz v n xs hs hown ad m c news hx hl hc h1 hm h63 hbytes hbase w.heap.size rfl (fun g cap w' q1 q2 q3 _ => h _ w' q1 q2 (fun g' hg' => by
      obtain rfl : g = g' := by simpa [Value.ownBlock] using hg'
      exact q3))
  · obtain rfl : m = 0 := by omega
    have hn0 : news = [] := List.eq_nil_of_length_eq_zero (by rw [hl, Nat.zero_mul])
    subst hn0
    have hsrc : Src P i.size t (.slice xa 0 c) 0 [] w := by
      cases xa with
      | none => exact Src.ofNil w ht c
      | some ad => exact Src.ofSlice w ht ad 0 c [] (by simp) (fun j u hj => by simp at hj) (fun u hu => by cases hu)
    obtain ⟨va, vc, rfl, hle⟩ : ∃ va vc, v = .slice va n vc ∧ n ≤ vc := by
      rcases hown.2 with ⟨rfl, rfl⟩ | ⟨g, cap, cur, rfl, _, _, hle, _⟩
      · exact ⟨none, 0, rfl, Nat.le_refl _⟩
      · exact ⟨_, cap, rfl, hle⟩
    have hrun := run_append_nothing (P := P) w t t o.type e i ht hi va n vc hle (.slice xa 0 c) hsrc
    unfold Oper.wp execOp
    simp only [ho, resolve, invoke, builtin, Sem.run_bind, Sem.run_pure, Result.andThen_ok, List.map_toArray, List.map_cons, List.map_nil, hs, hx, hrun]
    refine h _ w (by simpa using hown) ⟨rfl, rfl, rfl, Nat.le_refl _, fun _ _ _ => rfl⟩ (fun g hg => .inl hg)
theorem step_onto {ops : Array Oper} {o : Oper} {a : Act} {K : Act → World → Prop} {Q : Exit → Act → World → Prop} {E : Prop} (hgd : o.guard = none) (s x : Operand) (t : TypeId)
    (ho : o.op = .call { callee := .builtin .append, args := #[s, x], argTypes := #[t, t] })
    (base : Nat) (e : TypeId) (i : TypeInfo) (z : Value) (size bytes : Nat) (ht : P.underlying t = some (.slice e)) (hi : P.info? e = some i) (hz : i.zero = some z)
    (hsize : i.size = size) (hby : i.bytes = bytes) (hzs : z.cells.size = size) (hsz : 0 < size)
    (v : Value) (n : Nat) (xs : List Value) (hs : a.eval s = v) (hown : w.ownsRow base e size v n xs)
    (xa : Option Addr) (m c : Nat) (news : List Value) (hx : a.eval x = .slice xa m c) (hl : news.length = m * size) (hnews : 0 < m → ∃ ad, xa = some ad ∧ ∀ j u, news[j]? = some u → w.cell? (ad.add j) = some u) (h1 : ∀ u ∈ news, u.oneCell' = true)
    (h63 : n + m ≤ maxLen) (hbytes : (n + m) * bytes ≤ 140737488355328) (hbase : base ≤ w.heap.size)
    (h : ∀ v' w', w'.ownsRow base e size v' (n + m) (xs ++ news) → w.grownBy w' v.ownBlock → (∀ g, v'.ownBlock = some g → v.ownBlock = some g ∨ g = w.heap.size) → K (a.put o.dst v') w') :
    if Region.wanted o (yielded ops a.tmps) = true then Oper.wp P o a w K Q else E := by
  have hw : Region.wanted o (yielded ops a.tmps) = true := by simp [Region.wanted, hgd]
  rw [if_pos hw]
  exact wp_onto s x t ho base e i z size bytes ht hi hz hsize hby hzs hsz v n xs hs hown xa m c news hx hl hnews h1 h63 hbytes hbase h
theorem wpList_onto {ops : Array Oper} {rest : List Oper} {o : Oper} {a : Act} {Q : Exit → Act → World → Prop} (hgd : o.guard = none) (s x : Operand) (t : TypeId)
    (ho : o.op = .call { callee := .builtin .append, args := #[s, x], argTypes := #[t, t] })
    (base : Nat) (e : TypeId) (i : TypeInfo) (z : Value) (size bytes : Nat) (ht : P.underlying t = some (.slice e)) (hi : P.info? e = some i) (hz : i.zero = some z)
    (hsize : i.size = size) (hby : i.bytes = bytes) (hzs : z.cells.size = size) (hsz : 0 < size)
    (v : Value) (n : Nat) (xs : List Value) (hs : a.eval s = v) (hown : w.ownsRow base e size v n xs)
    (xa : Option Addr) (m c : Nat) (news : List Value) (hx : a.eval x = .slice xa m c) (hl : news.length = m * size) (hnews : 0 < m → ∃ ad, xa = some ad ∧ ∀ j u, news[j]? = some u → w.cell? (ad.add j) = some u) (h1 : ∀ u ∈ news, u.oneCell' = true)
    (h63 : n + m ≤ maxLen) (hbytes : (n + m) * bytes ≤ 140737488355328) (hbase : base ≤ w.heap.size)
    (h : ∀ v' w', w'.ownsRow base e size v' (n + m) (xs ++ news) → w.grownBy w' v.ownBlock → (∀ g, v'.ownBlock = some g → v.ownBlock = some g ∨ g = w.heap.size) → wpList P ops Q rest (a.put o.dst v') w') : wpList P ops Q (o :: rest) a w :=
  wpList_plain hgd fun _ hK => wp_onto s x t ho base e i z size bytes ht hi hz hsize hby hzs hsz v n xs hs hown xa m c news hx hl hnews h1 h63 hbytes hbase fun v' w' h2 h3 h4 => hK _ _ (h v' w' h2 h3 h4)
end
/-- Arguments as sources. -/
theorem argR_src {w W : World} {a : Option Addr} {n : Nat} {l : List Int} (h : ArgR w a n l) (b : Below w.heap.size w W) : 0 < n → ∃ ad, a = some ad ∧ ∀ j u, (numCells l)[j]? = some u → W.cell? (ad.add j) = some u := fun hn => by
  obtain ⟨g, off, rfl, hg, hc⟩ := h.2.2 hn
  refine ⟨_, rfl, fun j u hj => ?_⟩
  have hjl : j < l.length := by
    rcases Nat.lt_or_ge j l.length with q | q
    · exact q
    · rw [List.getElem?_eq_none (by simpa [numCells] using q)] at hj; cases hj
  rw [Go.WideShapes.add_plain, b.cell (p := ⟨g, off + j, none⟩) hg, hc j (by rw [← h.1]; exact hjl), ← numCells_get l j hjl]
  exact hj
theorem argP_src {w W : World} {a : Option Addr} {n : Nat} {l : List Pr} (h : ArgP w a n l) (b : Below w.heap.size w W) : 0 < n → ∃ ad, a = some ad ∧ ∀ j u, (prCells l)[j]? = some u → W.cell? (ad.add j) = some u := fun hn => by
  obtain ⟨g, off, rfl, hg, hc⟩ := h.2 hn
  refine ⟨_, rfl, fun j u hj => ?_⟩
  have hlen : (prCells l).length = l.length * 2 := by
    clear hj hc h hn
    induction l with
    | nil => rfl
    | cons p l ih =>
      have e : prCells (p :: l) = .int .i64 p.1 :: .int .i64 p.2 :: prCells l := by simp [prCells]
      rw [e, List.length_cons, List.length_cons, ih, List.length_cons]; omega
  have hjl : j < l.length * 2 := by
    rcases Nat.lt_or_ge j (l.length * 2) with q | q
    · exact q
    · rw [List.getElem?_eq_none (by rw [hlen]; exact q)] at hj; cases hj
  obtain ⟨q0, q1⟩ := hc (j / 2) (by rw [← h.1]; omega)
  obtain ⟨p0, p1⟩ := prCells_get l (j / 2) (by omega)
  rw [Go.WideShapes.add_plain, b.cell (p := ⟨g, off + j, none⟩) hg]
  rcases Nat.mod_two_eq_zero_or_one j with e | e
  · rw [show off + j = off + j / 2 * 2 by omega, q0, ← p0, show j / 2 * 2 = j by omega]; exact hj
  · rw [show off + j = off + j / 2 * 2 + 1 by omega, q1, ← p1, show j / 2 * 2 + 1 = j by omega]; exact hj
theorem numCells_one (l : List Int) : ∀ u ∈ numCells l, u.oneCell' = true := fun u hu => by
  obtain ⟨x, _, rfl⟩ := List.mem_map.1 hu; rfl
theorem prCells_one (l : List Pr) : ∀ u ∈ prCells l, u.oneCell' = true := fun u hu => by
  obtain ⟨p, _, hp⟩ := List.mem_flatMap.1 hu
  rcases List.mem_cons.1 hp with rfl | hp
  · rfl
  · rw [List.mem_singleton.1 hp]; rfl
end Go.Proofs.Ythcdhiknjpfmhaa
