/- ArenaKeeps: steps as an argument, their lengths by the reading's bulk. -/
import Derived.Test.YthcdhiknjpfmhaaRows
import Derived.Test.YthcdhiknjpfmhaaArKeO
set_option linter.unusedVariables false
namespace Go.Proofs.Ythcdhiknjpfmhaa
open Go.ChangeShapes Go.WideShapes Go.ChangeAt Go.RowKit Go.Joins Go.Deep
theorem bulk_pos {H : Type} (d : DataW H) : 1 ≤ Rows.uptoBulk d := by
  cases d with
  | lit l => cases l <;> simp [Rows.uptoBulk]
  | _ => simp [Rows.uptoBulk]
theorem bulk_part {H : Type} {d : DataW H} {l : List (DataW H)} (h : d ∈ l) : Rows.uptoBulk d ≤ Rows.uptoBulkAll l := by
  induction l with
  | nil => cases h
  | cons x r ih =>
    simp only [Rows.uptoBulkAll]
    rcases List.mem_cons.1 h with e | e
    · subst e; omega
    · have := ih e; omega
theorem bulk_length {H : Type} (l : List (DataW H)) : l.length ≤ Rows.uptoBulkAll l := by
  induction l with
  | nil => simp [Rows.uptoBulkAll]
  | cons x r ih => have := bulk_pos x; simp only [Rows.uptoBulkAll, List.length_cons]; omega
section
variable {H : Type} {enc : TypeId × Value → H} {w : World} {base : Nat} {held : Bool}
/-- A slice is no longer than its reading. -/
theorem slice_bulk {t e : TypeId} {fuel : Nat} {a : Option Addr} {n c : Nat} {x : DataW H × List MemPlace} (ht : Try.prog.underlying t = some (.slice e)) (h : DataW.trod enc Try.prog w base (fun _ => true) held fuel t [.slice a n c] = some x) : n ≤ Rows.uptoBulk x.1 := by
  rcases open_slice ht h with ⟨e, _⟩ | ⟨a', len, cap, m, n', D, Pl, e, _, _, _, _, rfl, _⟩
  · injection e with e; injection e with _ e _; omega
  · injection e with e
    injection e with _ e _
    subst e
    have := bulk_length ((List.range n).map D)
    simp only [Rows.uptoBulk, List.length_map, List.length_range] at this ⊢
    omega
theorem step_bulk {fuel : Nat} {s : StepV} {x : DataW H × List MemPlace} (h : DataW.trod enc Try.prog w base (fun _ => true) held fuel 54 (stepC s) = some x) : s.tn ≤ Rows.uptoBulk x.1 ∧ s.bn ≤ Rows.uptoBulk x.1 ∧ s.fn ≤ Rows.uptoBulk x.1 := by
  obtain ⟨xs, n, _, rfl, hl, hlen, hf⟩ := DataW.trod_struct Try.underlying54 h
  match xs, hlen with
  | [y0, y1, y2, y3, y4], _ =>
    have p1 := slice_bulk Try.underlying22 (hf 1 _ rfl : DataW.trod enc Try.prog w base (fun _ => true) held n 22 [.slice s.ta s.tn s.tcap] = some y1)
    have p2 := slice_bulk Try.underlying28 (hf 2 _ rfl : DataW.trod enc Try.prog w base (fun _ => true) held n 28 [.slice s.ba s.bn s.bcap] = some y2)
    have p3 := slice_bulk Try.underlying22 (hf 3 _ rfl : DataW.trod enc Try.prog w base (fun _ => true) held n 22 [.slice s.fa s.fn s.fcap] = some y3)
    simp only [Rows.uptoBulk, Rows.uptoBulkAll, List.map_cons, List.map_nil]
    omega
theorem open_stepsB {fuel : Nat} {cs : List Value} {x : DataW H × List MemPlace} (h : DataW.trod enc Try.prog w base (fun _ => true) held fuel 43 cs = some x) :
    ∃ a len cap l, cs = [.slice a len cap] ∧ StepsR w a len l ∧ len ≤ Rows.uptoBulk x.1 ∧ ∀ s ∈ l, s.tn ≤ Rows.uptoBulk x.1 ∧ s.bn ≤ Rows.uptoBulk x.1 ∧ s.fn ≤ Rows.uptoBulk x.1 := by
  have h0 := h
  rcases open_slice Try.underlying43 h with ⟨rfl, _⟩ | ⟨a, len, cap, m, n, D, Pl, rfl, _, hl, hm, hmm, hxx, hi⟩
  · exact ⟨none, 0, 0, [], rfl, ⟨rfl, fun h => absurd h (by decide), fun c hc => by cases hc⟩, Nat.zero_le _, fun c hc => by cases hc⟩
  · simp only [if_true] at hmm
    subst hmm
    have hce : Try.prog.cellsOf 54 = 5 := by kernel_rfl
    rw [hce] at hi
    have key : ∀ p, p < len → ∃ s : StepV, (∀ j, j < 5 → w.cell? ((a.add (p * 5)).add j) = (stepC s)[j]?) ∧ StepR w s ∧ (s.tn ≤ Rows.uptoBulk x.1 ∧ s.bn ≤ Rows.uptoBulk x.1 ∧ s.fn ≤ Rows.uptoBulk x.1) := by
      intro p hp
      obtain ⟨cs', hc, ht'⟩ := hi p (by omega)
      obtain ⟨_, _, hat⟩ := World.cells?_some hc
      obtain ⟨c, rfl, h1⟩ := open_stepC ht'
      have hb := step_bulk ht'
      have hle : Rows.uptoBulk (D p) ≤ Rows.uptoBulk x.1 := by
        have := bulk_part (d := D p) (l := (List.range len).map D) (List.mem_map.2 ⟨p, List.mem_range.2 hp, rfl⟩)
        rw [hxx]
        simp only [Rows.uptoBulk]
        omega
      exact ⟨c, hat, h1, Nat.le_trans hb.1 hle, Nat.le_trans hb.2.1 hle, Nat.le_trans hb.2.2 hle⟩
    let g : Nat → StepV := fun p => if h : p < len then Classical.choose (key p h) else ⟨0, none, 0, 0, [], none, 0, 0, [], none, 0, 0, [], 0⟩
    have hg : ∀ p, p < len → (∀ j, j < 5 → w.cell? ((a.add (p * 5)).add j) = (stepC (g p))[j]?) ∧ StepR w (g p) ∧ ((g p).tn ≤ Rows.uptoBulk x.1 ∧ (g p).bn ≤ Rows.uptoBulk x.1 ∧ (g p).fn ≤ Rows.uptoBulk x.1) := by
      intro p hp
      show _
      simp only [g, hp, dif_pos]
      exact Classical.choose_spec (key p hp)
    refine ⟨some a, len, m, (List.range len).map g, rfl, ⟨by simp, fun hn => ?_, fun c hc => ?_⟩, slice_bulk Try.underlying43 h0, fun c hc => ?_⟩
    · obtain ⟨b, off, spot⟩ := a
      have h0 := (hg 0 hn).1 0 (by decide)
      rw [Go.Deep.add_add] at h0
      have hspot : spot = none := by
        have h00 : w.cell? (Addr.add ⟨b, off, spot⟩ (0 * 5 + 0)) = some (.int .i64 (g 0).kind) := h0
        simpa [Addr.add] using World.cell?_spot h00
      subst hspot
      refine ⟨b, off, rfl, ?_, fun i c hc j hj => ?_⟩
      · have h00 : w.cell? (Addr.add ⟨b, off, none⟩ (0 * 5 + 0)) = some (.int .i64 (g 0).kind) := h0
        rw [Go.WideShapes.add_plain] at h00
        exact World.block_lt_of_cell? w ⟨b, off + (0 * 5 + 0), none⟩ h00
      · rw [List.getElem?_map] at hc
        have hil : i < len := by
          rcases Nat.lt_or_ge i len with h | h
          · exact h
          · rw [List.getElem?_eq_none (by simpa using h)] at hc; cases hc
        rw [List.getElem?_range hil] at hc
        obtain rfl : g i = c := by simpa using hc
        have := (hg i hil).1 j hj
        rw [Go.Deep.add_add, Go.WideShapes.add_plain] at this
        rw [Nat.add_assoc]; exact this
    · obtain ⟨p, hp, rfl⟩ := List.mem_map.1 hc
      have hp' := List.mem_range.1 hp
      exact (hg p hp').2.1
    · obtain ⟨p, hp, rfl⟩ := List.mem_map.1 hc
      exact (hg p (List.mem_range.1 hp)).2.2
end
end Go.Proofs.Ythcdhiknjpfmhaa
