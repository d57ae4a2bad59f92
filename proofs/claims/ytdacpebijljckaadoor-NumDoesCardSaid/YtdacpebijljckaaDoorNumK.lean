/- Blocks of three cells of the call's own, kept through calls that make memory. -/
import Derived.Test.YtdacpebijljckaaDoorNumR
import Derived.Lib.QuietBelow
set_option linter.unusedVariables false
set_option linter.unusedSimpArgs false
namespace Go.Proofs.YtdacpebijljckaaDoor
open Go.RowKit

/-- At block b lie these three cells. -/
def At3 (W : World) (b : Nat) (c0 c1 c2 : Value) : Prop :=
  W.cell? ⟨b, 0, none⟩ = some c0 ∧ W.cell? ⟨b, 1, none⟩ = some c1 ∧ W.cell? ⟨b, 2, none⟩ = some c2
/-- Below block B these values lie; nothing that was there when the call began has turned. -/
structure Kp (w : World) (B : Nat) (W : World) (L : List (Nat × Value × Value × Value)) : Prop where
  bel : Below w.heap.size w W
  lo : w.heap.size ≤ B
  hi : B ≤ W.heap.size
  mem : ∀ q, q ∈ L → q.1 < B ∧ At3 W q.1 q.2.1 q.2.2.1 q.2.2.2
variable {w W W' : World} {B : Nat} {L : List (Nat × Value × Value × Value)}
theorem Kp.stepB (h : Kp w B W L) (b : Below B W W') : Kp w B W' L :=
  ⟨h.bel.trans (b.mono h.lo), h.lo, Nat.le_trans h.hi b.size, fun q hq =>
    have hl := (h.mem q hq).1
    have ha := (h.mem q hq).2
    ⟨hl, (b.cell (p := ⟨q.1, 0, none⟩) hl).trans ha.1, (b.cell (p := ⟨q.1, 1, none⟩) hl).trans ha.2.1, (b.cell (p := ⟨q.1, 2, none⟩) hl).trans ha.2.2⟩⟩
theorem Kp.step (h : Kp w B W L) (b : Below W.heap.size W W') : Kp w B W' L := h.stepB (b.mono h.hi)
theorem Kp.below (h : Kp w B W L) : Below w.heap.size w W := h.bel
theorem Kp.alloc (h : Kp w B W L) (o : Obj) : Kp w B (W.alloc o) L := h.step ((Below.refl _ _).alloc (Nat.le_refl _) _)
theorem Kp.drew (h : Kp w B W L) : Kp w B W.drew L := h.step (Below.refl _ _).drew
theorem Kp.undrew (h : Kp w B W.drew L) : Kp w B W L := ⟨⟨h.bel.os, h.bel.tape, h.bel.output, h.bel.size, h.bel.block⟩, h.lo, h.hi, h.mem⟩
theorem Kp.set (h : Kp w B W L) (g o : Nat) (v : Value) (hg : B ≤ g) : Kp w B (W.setCell ⟨g, o, none⟩ v) L := h.stepB ((Below.refl _ _).setCell (p := ⟨g, o, none⟩) hg v)
theorem Kp.realloc {o : Obj} (h : Kp w B (W.alloc o) L) (hB : B ≤ W.heap.size) (o' : Obj) : Kp w B (W.alloc o') L :=
  have hb : Below w.heap.size w W := ⟨h.bel.os, h.bel.tape, h.bel.output, Nat.le_trans h.lo hB, fun k hk => (Below.heap_alloc W o k (Nat.lt_of_lt_of_le hk (Nat.le_trans h.lo hB))).symm.trans (h.bel.block k hk)⟩
  ⟨hb.alloc hb.size o', h.lo, by simp; omega, fun q hq =>
    have hl := (h.mem q hq).1
    have ha := (h.mem q hq).2
    have b1 : Below B W (W.alloc o) := (Below.refl _ _).alloc hB o
    have b2 : Below B W (W.alloc o') := (Below.refl _ _).alloc hB o'
    ⟨hl, ((b2.cell (p := ⟨q.1, 0, none⟩) hl).trans (b1.cell (p := ⟨q.1, 0, none⟩) hl).symm).trans ha.1, ((b2.cell (p := ⟨q.1, 1, none⟩) hl).trans (b1.cell (p := ⟨q.1, 1, none⟩) hl).symm).trans ha.2.1, ((b2.cell (p := ⟨q.1, 2, none⟩) hl).trans (b1.cell (p := ⟨q.1, 2, none⟩) hl).symm).trans ha.2.2⟩⟩
theorem Kp.more (h : Kp w B W L) (g : Nat) (c0 c1 c2 : Value) (hB : B ≤ g) (hg : g < W.heap.size) (ha : At3 W g c0 c1 c2) : Kp w (g + 1) W ((g, c0, c1, c2) :: L) :=
  ⟨h.bel, Nat.le_trans h.lo (Nat.le_succ_of_le hB), hg, fun q hq => by
    rcases List.mem_cons.1 hq with rfl | hq
    · exact ⟨Nat.lt_succ_self _, ha⟩
    · exact ⟨Nat.lt_succ_of_lt (Nat.lt_of_lt_of_le (h.mem q hq).1 hB), (h.mem q hq).2⟩⟩
theorem Kp.start (w : World) : Kp w w.heap.size w [] := ⟨Below.refl _ _, Nat.le_refl _, Nat.le_refl _, fun q hq => by cases hq⟩
theorem Kp.begin (b : Below w.heap.size w W) : Kp w w.heap.size W [] := ⟨b, Nat.le_refl _, b.size, fun q hq => by cases hq⟩
theorem Kp.at (h : Kp w B W L) (b : Nat) (c0 c1 c2 : Value) (hm : (b, c0, c1, c2) ∈ L) : At3 W b c0 c1 c2 := (h.mem _ hm).2
theorem Kp.lt (h : Kp w B W L) (b : Nat) (c0 c1 c2 : Value) (hm : (b, c0, c1, c2) ∈ L) : b < B := (h.mem _ hm).1
theorem at3_new (W : World) (c0 c1 c2 : Value) (T : TypeId) : At3 (W.alloc (.cells #[c0, c1, c2] T)) W.heap.size c0 c1 c2 :=
  ⟨by rw [Lib.cell_of_heap (heap_alloc_new W _)]; rfl, by rw [Lib.cell_of_heap (heap_alloc_new W _)]; rfl, by rw [Lib.cell_of_heap (heap_alloc_new W _)]; rfl⟩
theorem Kp.new (h : Kp w B W L) (c0 c1 c2 : Value) (T : TypeId) : Kp w (W.heap.size + 1) (W.alloc (.cells #[c0, c1, c2] T)) ((W.heap.size, c0, c1, c2) :: L) :=
  (h.alloc _).more W.heap.size c0 c1 c2 h.hi (by simp) (at3_new W c0 c1 c2 T)

theorem Kp.ins (h : Kp w B W L) (g : Nat) (c0 c1 c2 : Value) (hg : g < W.heap.size) (ha : At3 W g c0 c1 c2) : Kp w W.heap.size W ((g, c0, c1, c2) :: L) :=
  ⟨h.bel, h.bel.size, Nat.le_refl _, fun q hq => by
    rcases List.mem_cons.1 hq with rfl | hq
    · exact ⟨hg, ha⟩
    · exact ⟨Nat.lt_of_lt_of_le (h.mem q hq).1 h.hi, (h.mem q hq).2⟩⟩
abbrev Q2 (w : World) (B : Nat) (L : List (Nat × Value × Value × Value)) (x : Nat) (a0 a1 a2 : Value) (y : Nat) (c0 c1 c2 : Value) (W : World) : Prop :=
  W.cell? ⟨x, 0, none⟩ = some a0 ∧ W.cell? ⟨x, 1, none⟩ = some a1 ∧ W.cell? ⟨x, 2, none⟩ = some a2 ∧ W.cell? ⟨y, 0, none⟩ = some c0 ∧ W.cell? ⟨y, 1, none⟩ = some c1 ∧ W.cell? ⟨y, 2, none⟩ = some c2 ∧ Kp w B W L
theorem Kp.q2 (h : Kp w B W L) {x : Nat} {a0 a1 a2 : Value} {y : Nat} {c0 c1 c2 : Value} (h0 : (x, a0, a1, a2) ∈ L) (h1 : (y, c0, c1, c2) ∈ L) : Q2 w B L x a0 a1 a2 y c0 c1 c2 W :=
  ⟨(h.at _ _ _ _ h0).1, (h.at _ _ _ _ h0).2.1, (h.at _ _ _ _ h0).2.2, (h.at _ _ _ _ h1).1, (h.at _ _ _ _ h1).2.1, (h.at _ _ _ _ h1).2.2, h⟩

end Go.Proofs.YtdacpebijljckaaDoor
