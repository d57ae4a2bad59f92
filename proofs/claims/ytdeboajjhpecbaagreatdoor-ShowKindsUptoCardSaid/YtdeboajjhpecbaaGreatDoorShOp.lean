/- Show: how an argument that is a plan reads. -/
import Derived.Test.YtdeboajjhpecbaaGreatDoorRows
import Derived.Test.YtdeboajjhpecbaaGreatDoorShVaW
import Derived.Lib.SmallJoins
import Derived.Deep.Slices
import Derived.Deep.Strs
import Derived.OpenShut
import Derived.ProofKit
set_option linter.unusedVariables false
set_option linter.unusedSimpArgs false
namespace Go.Proofs.YtdeboajjhpecbaaGreatDoor
open Go.ChangeShapes Go.WideShapes Go.ChangeAt Go.RowKit Go.Joins Go.Deep
theorem bulk_pos {H : Type} (d : DataW H) : 1 ≤ Rows.uptoBulk d := by
  cases d with
  | lit l => cases l <;> simp [Rows.uptoBulk]
  | _ => simp [Rows.uptoBulk]
theorem bulk_part {H : Type} {d : DataW H} {l : List (DataW H)} (h : d ∈ l) : Rows.uptoBulk d ≤ Rows.uptoBulkAll l := by
  induction l with
  | nil => cases h
  | cons x r ih =>
    simp only [Rows.uptoBulkAll]
    rcases List.mem_cons.1 h with e | e
    · subst e; omega
    · have := ih e; omega
theorem bulk_length {H : Type} (l : List (DataW H)) : l.length ≤ Rows.uptoBulkAll l := by
  induction l with
  | nil => simp [Rows.uptoBulkAll]
  | cons x r ih => have := bulk_pos x; simp only [Rows.uptoBulkAll, List.length_cons]; omega
section
variable {H : Type} {enc : TypeId × Value → H} {w : World} {base : Nat} {held : Bool}
/-- A slice is no longer than its reading. -/
theorem slice_bulk {t e : TypeId} {fuel : Nat} {a : Option Addr} {n c : Nat} {x : DataW H × List MemPlace} (ht : Tryz.prog.underlying t = some (.slice e)) (h : DataW.trod enc Tryz.prog w base (fun _ => true) held fuel t [.slice a n c] = some x) : n ≤ Rows.uptoBulk x.1 := by
  rcases open_slice ht h with ⟨e, _⟩ | ⟨a', len, cap, m, n', D, Pl, e, _, _, _, _, rfl, _⟩
  · injection e with e; injection e with _ e _; omega
  · injection e with e
    injection e with _ e _
    subst e
    have := bulk_length ((List.range n).map D)
    simp only [Rows.uptoBulk, List.length_map, List.length_range] at this ⊢
    omega
theorem three {cs : List Value} (h : cs.length = 3) : ∃ a b c, cs = [a, b, c] := by
  match cs, h with
  | [a, b, c], _ => exact ⟨a, b, c, rfl⟩
theorem open_partC {fuel : Nat} {cs : List Value} {x : DataW H × List MemPlace} (h : DataW.trod enc Tryz.prog w base (fun _ => true) held fuel 51 cs = some x) :
    ∃ p : Hp.PartV, cs = Hp.partC p ∧ Hp.PartR w p ∧ p.len ≤ Rows.uptoBulk x.1 := by
  obtain ⟨y0, y1, y2, n, rfl, hl, h0, h1, h2⟩ := trod_struct3 Tryz.underlying51 h
  have ce0 : Tryz.prog.cellsOf 3 = 1 := by kernel_rfl
  have ce1 : Tryz.prog.cellsOf 2 = 1 := by kernel_rfl
  have ce2 : Tryz.prog.cellsOf 49 = 1 := by kernel_rfl
  have ce3 : Tryz.prog.cellsOf 51 = 3 := by kernel_rfl
  rw [ce3] at hl
  obtain ⟨c0, c1, c2, rfl⟩ := three hl
  dsimp only at h0 h1 h2
  rw [ce0] at h0
  rw [ce1] at h1
  rw [ce2] at h2
  have h0 : DataW.trod enc Tryz.prog w base (fun _ => true) held n 3 [c0] = some y0 := h0
  have h1 : DataW.trod enc Tryz.prog w base (fun _ => true) held n 2 [c1] = some y1 := h1
  have h2 : DataW.trod enc Tryz.prog w base (fun _ => true) held n 49 [c2] = some y2 := h2
  obtain ⟨K, hK, _, wK⟩ := DataW.trod_int Tryz.underlying3 h0
  obtain ⟨N, hN, _, wN⟩ := DataW.trod_int Tryz.underlying2 h1
  have hK' : [c0] = [.int .i64 K] := hK
  have hN' : [c1] = [.int .i64 N] := hN
  injection hK' with hK'
  injection hN' with hN'
  subst hK' hN'
  have hbk := fun a m c (hc : c2 = .slice a m c) => slice_bulk (a := a) (n := m) (c := c) Tryz.underlying49 (hc ▸ h2)
  have hby : Rows.uptoBulk y2.1 ≤ Rows.uptoBulk (DataW.agg [y0.1, y1.1, y2.1]) := by
    have := bulk_part (d := y2.1) (l := [y0.1, y1.1, y2.1]) (by simp)
    simp only [Rows.uptoBulk]
    omega
  rcases open_ints Tryz.underlying49 Tryz.underlying95 (by kernel_rfl) h2 with ⟨hcs, _⟩ | ⟨x, l, c, zs, hcs, _, hll, hm, hz, _, hcell, hwz⟩
  · have hcs' : [c2] = [.slice none 0 0] := hcs
    injection hcs' with hcs'
    obtain ⟨l, h1, h2, h3⟩ := Tx.units_in (w := w) (a := none) (n := 0) (cap := 0) (zs := []) (.inl ⟨rfl, rfl, rfl, rfl⟩)
    exact ⟨⟨K, N, none, 0, 0, l⟩, by rw [hcs']; rfl, ⟨h1, h2, h3, bounds_i64 wK, bounds_i64 wN⟩, Nat.zero_le _⟩
  · have hcs' : [c2] = [.slice (some x) l c] := hcs
    injection hcs' with hcs'
    obtain ⟨l', h1, h2, h3⟩ := Tx.units_in (w := w) (a := some x) (n := l) (cap := c) (zs := zs) (.inr ⟨x, rfl, hll, hm, by simpa using hz, hcell, hwz⟩)
    exact ⟨⟨K, N, some x, l, c, l'⟩, by rw [hcs']; rfl, ⟨h1, h2, h3, bounds_i64 wK, bounds_i64 wN⟩, Nat.le_trans (hbk _ _ _ hcs') hby⟩
theorem open_partsB {fuel : Nat} {cs : List Value} {x : DataW H × List MemPlace} (h : DataW.trod enc Tryz.prog w base (fun _ => true) held fuel 22 cs = some x) :
    ∃ a len cap l, cs = [.slice a len cap] ∧ Hp.PlanR w a len l ∧ len ≤ Rows.uptoBulk x.1 ∧ ∀ s ∈ l, s.len ≤ Rows.uptoBulk x.1 := by
  have h0 := h
  rcases open_slice Tryz.underlying22 h with ⟨rfl, _⟩ | ⟨a, len, cap, m, n, D, Pl, rfl, _, hl, hm, hmm, hxx, hi⟩
  · exact ⟨none, 0, 0, [], rfl, ⟨rfl, fun h => absurd h (by decide), fun c hc => by cases hc⟩, Nat.zero_le _, fun c hc => by cases hc⟩
  · simp only [if_true] at hmm
    subst hmm
    have hce : Tryz.prog.cellsOf 51 = 3 := by kernel_rfl
    rw [hce] at hi
    have key : ∀ p, p < len → ∃ s : Hp.PartV, (∀ j, j < 3 → w.cell? ((a.add (p * 3)).add j) = (Hp.partC s)[j]?) ∧ Hp.PartR w s ∧ s.len ≤ Rows.uptoBulk x.1 := by
      intro p hp
      obtain ⟨cs', hc, ht'⟩ := hi p (by omega)
      obtain ⟨_, _, hat⟩ := World.cells?_some hc
      obtain ⟨c, rfl, h1, hb⟩ := open_partC ht'
      have hle : Rows.uptoBulk (D p) ≤ Rows.uptoBulk x.1 := by
        have := bulk_part (d := D p) (l := (List.range len).map D) (List.mem_map.2 ⟨p, List.mem_range.2 hp, rfl⟩)
        rw [hxx]
        simp only [Rows.uptoBulk]
        omega
      exact ⟨c, hat, h1, Nat.le_trans hb hle⟩
    let g : Nat → Hp.PartV := fun p => if h : p < len then Classical.choose (key p h) else ⟨0, 0, none, 0, 0, []⟩
    have hg : ∀ p, p < len → (∀ j, j < 3 → w.cell? ((a.add (p * 3)).add j) = (Hp.partC (g p))[j]?) ∧ Hp.PartR w (g p) ∧ (g p).len ≤ Rows.uptoBulk x.1 := by
      intro p hp
      show _
      simp only [g, hp, dif_pos]
      exact Classical.choose_spec (key p hp)
    refine ⟨some a, len, m, (List.range len).map g, rfl, ⟨by simp, fun hn => ?_, fun c hc => ?_⟩, slice_bulk Tryz.underlying22 h0, fun c hc => ?_⟩
    · obtain ⟨b, off, spot⟩ := a
      have h0 := (hg 0 hn).1 0 (by decide)
      rw [Go.Deep.add_add] at h0
      have hspot : spot = none := by
        have h00 : w.cell? (Addr.add ⟨b, off, spot⟩ (0 * 3 + 0)) = some (.int .i64 (g 0).k) := h0
        simpa [Addr.add] using World.cell?_spot h00
      subst hspot
      refine ⟨b, off, rfl, ?_, fun i c hc j hj => ?_⟩
      · have h00 : w.cell? (Addr.add ⟨b, off, none⟩ (0 * 3 + 0)) = some (.int .i64 (g 0).k) := h0
        rw [Go.WideShapes.add_plain] at h00
        exact World.block_lt_of_cell? w ⟨b, off + (0 * 3 + 0), none⟩ h00
      · rw [List.getElem?_map] at hc
        have hil : i < len := by
          rcases Nat.lt_or_ge i len with h | h
          · exact h
          · rw [List.getElem?_eq_none (by simpa using h)] at hc; cases hc
        rw [List.getElem?_range hil] at hc
        obtain rfl : g i = c := by simpa using hc
        have := (hg i hil).1 j hj
        rw [Go.Deep.add_add, Go.WideShapes.add_plain] at this
        rw [Nat.add_assoc]; exact this
    · obtain ⟨p, hp, rfl⟩ := List.mem_map.1 hc
      have hp' := List.mem_range.1 hp
      exact (hg p hp').2.1
    · obtain ⟨p, hp, rfl⟩ := List.mem_map.1 hc
      exact (hg p (List.mem_range.1 hp)).2.2

set_option maxRecDepth 100000 in
theorem open_plan {r : Reach} {b0 : Nat} {v : Value} {d : DataW H} {p : List MemPlace} (hv : Value.okWide Tryz.prog w r b0 24 v) (h : DataW.Trod enc Tryz.prog w base (fun _ => true) held 24 v d p) :
    ∃ a len cap l, v = .agg #[.slice a len cap] ∧ Hp.PlanR w a len l ∧ len ≤ Rows.uptoBulk d ∧ ∀ s ∈ l, s.len ≤ Rows.uptoBulk d := by
  obtain ⟨cs, rfl, hsz⟩ := okWide_struct Tryz.underlying24 hv
  have ce : Tryz.prog.cellsOf 24 = 1 := by kernel_rfl
  have ce2 : Tryz.prog.cellsOf 22 = 1 := by kernel_rfl
  rw [ce] at hsz
  obtain ⟨c0, rfl⟩ : ∃ c0, cs = #[c0] := by
    obtain ⟨l⟩ := cs
    match l, hsz with
    | [a], _ => exact ⟨a, rfl⟩
  obtain ⟨fuel, hf⟩ := h
  obtain ⟨xs, n, _, hx, hl, hlen, hq⟩ := DataW.trod_struct Tryz.underlying24 hf
  match xs, hlen with
  | [y0], _ =>
  have h0 : DataW.trod enc Tryz.prog w base (fun _ => true) held n 22 [c0] = some y0 := hq 0 _ rfl
  simp only [Prod.mk.injEq, List.map_cons, List.map_nil] at hx
  obtain ⟨rfl, _⟩ := hx
  obtain ⟨a, len, cap, l, he, hr, hb, hs⟩ := open_partsB h0
  have he' : c0 = .slice a len cap := by simpa using he
  subst he'
  have hle : Rows.uptoBulk y0.1 ≤ Rows.uptoBulk (DataW.agg [y0.1]) := by
    have := bulk_part (d := y0.1) (l := [y0.1]) (by simp)
    simp only [Rows.uptoBulk]
    omega
  exact ⟨a, len, cap, l, rfl, hr, Nat.le_trans hb hle, fun s h => Nat.le_trans (hs s h) hle⟩
end
end Go.Proofs.YtdeboajjhpecbaaGreatDoor
