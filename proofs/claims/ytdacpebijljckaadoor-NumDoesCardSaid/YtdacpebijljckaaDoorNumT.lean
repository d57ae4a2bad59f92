/- Values that lie in blocks of the call's own, kept through calls that make memory; and the contract of num.Sub. -/
import Derived.Test.YtdacpebijljckaaDoorNumN
import Derived.Deep.RegionHeld3
import Derived.Deep.DeepCutAuto
import Derived.BigQuiet
import Derived.Deep.QuietTactic
import Derived.Laws.StructEq
set_option linter.unusedVariables false
set_option linter.unusedSimpArgs false
namespace Go.Proofs.YtdacpebijljckaaDoor
open Go.RowKit

/-- At block b lies the value of kind k and number n. -/
def At (W : World) (b : Nat) (k n : Int) : Prop :=
  W.cell? ⟨b, 0, none⟩ = some (.int .i64 k) ∧ W.cell? ⟨b, 1, none⟩ = some (.int .i64 n) ∧ W.cell? ⟨b, 2, none⟩ = some (.string ⟨#[]⟩)
/-- Below block B these values lie; nothing that was there when the call began has turned. -/
structure Keep (w : World) (B : Nat) (W : World) (L : List (Nat × Int × Int)) : Prop where
  bel : Below w.heap.size w W
  lo : w.heap.size ≤ B
  hi : B ≤ W.heap.size
  mem : ∀ q, q ∈ L → q.1 < B ∧ At W q.1 q.2.1 q.2.2
variable {w W W' : World} {B : Nat} {L : List (Nat × Int × Int)}
theorem Keep.stepB (h : Keep w B W L) (b : Below B W W') : Keep w B W' L :=
  ⟨h.bel.trans (b.mono h.lo), h.lo, Nat.le_trans h.hi b.size, fun q hq =>
    have hl := (h.mem q hq).1
    have ha := (h.mem q hq).2
    ⟨hl, (b.cell (p := ⟨q.1, 0, none⟩) hl).trans ha.1, (b.cell (p := ⟨q.1, 1, none⟩) hl).trans ha.2.1, (b.cell (p := ⟨q.1, 2, none⟩) hl).trans ha.2.2⟩⟩
theorem Keep.step (h : Keep w B W L) (b : Below W.heap.size W W') : Keep w B W' L := h.stepB (b.mono h.hi)
theorem Keep.below (h : Keep w B W L) : Below w.heap.size w W := h.bel
theorem Keep.alloc (h : Keep w B W L) (o : Obj) : Keep w B (W.alloc o) L := h.step ((Below.refl _ _).alloc (Nat.le_refl _) _)
theorem Keep.drew (h : Keep w B W L) : Keep w B W.drew L := h.step (Below.refl _ _).drew
theorem Keep.undrew (h : Keep w B W.drew L) : Keep w B W L := ⟨⟨h.bel.os, h.bel.tape, h.bel.output, h.bel.size, h.bel.block⟩, h.lo, h.hi, h.mem⟩
theorem Keep.set (h : Keep w B W L) (g o : Nat) (v : Value) (hg : B ≤ g) : Keep w B (W.setCell ⟨g, o, none⟩ v) L := h.stepB ((Below.refl _ _).setCell (p := ⟨g, o, none⟩) hg v)
theorem drew_size (W : World) : W.drew.heap.size = W.heap.size := rfl
theorem Keep.realloc {o : Obj} (h : Keep w B (W.alloc o) L) (hB : B ≤ W.heap.size) (o' : Obj) : Keep w B (W.alloc o') L :=
  have hb : Below w.heap.size w W := ⟨h.bel.os, h.bel.tape, h.bel.output, Nat.le_trans h.lo hB, fun k hk => (Below.heap_alloc W o k (Nat.lt_of_lt_of_le hk (Nat.le_trans h.lo hB))).symm.trans (h.bel.block k hk)⟩
  ⟨hb.alloc hb.size o', h.lo, by simp; omega, fun q hq =>
    have hl := (h.mem q hq).1
    have ha := (h.mem q hq).2
    have b1 : Below B W (W.alloc o) := (Below.refl _ _).alloc hB o
    have b2 : Below B W (W.alloc o') := (Below.refl _ _).alloc hB o'
    ⟨hl, ((b2.cell (p := ⟨q.1, 0, none⟩) hl).trans (b1.cell (p := ⟨q.1, 0, none⟩) hl).symm).trans ha.1, ((b2.cell (p := ⟨q.1, 1, none⟩) hl).trans (b1.cell (p := ⟨q.1, 1, none⟩) hl).symm).trans ha.2.1, ((b2.cell (p := ⟨q.1, 2, none⟩) hl).trans (b1.cell (p := ⟨q.1, 2, none⟩) hl).symm).trans ha.2.2⟩⟩
theorem Keep.more (h : Keep w B W L) (g : Nat) (k n : Int) (hB : B ≤ g) (hg : g < W.heap.size) (ha : At W g k n) : Keep w (g + 1) W ((g, k, n) :: L) :=
  ⟨h.bel, Nat.le_trans h.lo (Nat.le_succ_of_le hB), hg, fun q hq => by
    rcases List.mem_cons.1 hq with rfl | hq
    · exact ⟨Nat.lt_succ_self _, ha⟩
    · exact ⟨Nat.lt_succ_of_lt (Nat.lt_of_lt_of_le (h.mem q hq).1 hB), (h.mem q hq).2⟩⟩
theorem Keep.start (w : World) : Keep w w.heap.size w [] := ⟨Below.refl _ _, Nat.le_refl _, Nat.le_refl _, fun q hq => by cases hq⟩
theorem Keep.begin (b : Below w.heap.size w W) : Keep w w.heap.size W [] := ⟨b, Nat.le_refl _, b.size, fun q hq => by cases hq⟩
theorem Keep.at (h : Keep w B W L) (b : Nat) (k n : Int) (hm : (b, k, n) ∈ L) : At W b k n := (h.mem _ hm).2
theorem Keep.lt (h : Keep w B W L) (b : Nat) (k n : Int) (hm : (b, k, n) ∈ L) : b < B := (h.mem _ hm).1
theorem at_new (W : World) (k n : Int) : At (W.alloc (VC k n)) W.heap.size k n := cells_of (heap_alloc_new W (VC k n))
theorem Keep.new (h : Keep w B W L) (k n : Int) : Keep w (W.heap.size + 1) (W.alloc (VC k n)) ((W.heap.size, k, n) :: L) :=
  (h.alloc (VC k n)).more W.heap.size k n h.hi (by simp) (at_new W k n)
/-- What a walk is told of two of them. -/
abbrev K2 (w : World) (B : Nat) (L : List (Nat × Int × Int)) (x : Nat) (kx nx : Int) (y : Nat) (ky ny : Int) (W : World) : Prop :=
  W.cell? ⟨x, 0, none⟩ = some (.int .i64 kx) ∧ W.cell? ⟨x, 1, none⟩ = some (.int .i64 nx) ∧ W.cell? ⟨x, 2, none⟩ = some (.string ⟨#[]⟩) ∧
  W.cell? ⟨y, 0, none⟩ = some (.int .i64 ky) ∧ W.cell? ⟨y, 1, none⟩ = some (.int .i64 ny) ∧ W.cell? ⟨y, 2, none⟩ = some (.string ⟨#[]⟩) ∧ Keep w B W L
theorem Keep.k2 (h : Keep w B W L) {x : Nat} {kx nx : Int} {y : Nat} {ky ny : Int} (hx : (x, kx, nx) ∈ L) (hy : (y, ky, ny) ∈ L) : K2 w B L x kx nx y ky ny W :=
  ⟨(h.at _ _ _ hx).1, (h.at _ _ _ hx).2.1, (h.at _ _ _ hx).2.2, (h.at _ _ _ hy).1, (h.at _ _ _ hy).2.1, (h.at _ _ _ hy).2.2, h⟩

abbrev K1 (w : World) (B : Nat) (L : List (Nat × Int × Int)) (x0 : Nat) (k0 n0 : Int) (W : World) : Prop := W.cell? ⟨x0, 0, none⟩ = some (.int .i64 k0) ∧ W.cell? ⟨x0, 1, none⟩ = some (.int .i64 n0) ∧ W.cell? ⟨x0, 2, none⟩ = some (.string ⟨#[]⟩) ∧ Keep w B W L
theorem Keep.k1 (h : Keep w B W L) {x0 : Nat} {k0 n0 : Int} (h0 : (x0, k0, n0) ∈ L) : K1 w B L x0 k0 n0 W :=
  ⟨(h.at _ _ _ h0).1, (h.at _ _ _ h0).2.1, (h.at _ _ _ h0).2.2, h⟩
abbrev K4 (w : World) (B : Nat) (L : List (Nat × Int × Int)) (x0 : Nat) (k0 n0 : Int) (x1 : Nat) (k1 n1 : Int) (x2 : Nat) (k2 n2 : Int) (x3 : Nat) (k3 n3 : Int) (W : World) : Prop := W.cell? ⟨x0, 0, none⟩ = some (.int .i64 k0) ∧ W.cell? ⟨x0, 1, none⟩ = some (.int .i64 n0) ∧ W.cell? ⟨x0, 2, none⟩ = some (.string ⟨#[]⟩) ∧ W.cell? ⟨x1, 0, none⟩ = some (.int .i64 k1) ∧ W.cell? ⟨x1, 1, none⟩ = some (.int .i64 n1) ∧ W.cell? ⟨x1, 2, none⟩ = some (.string ⟨#[]⟩) ∧ W.cell? ⟨x2, 0, none⟩ = some (.int .i64 k2) ∧ W.cell? ⟨x2, 1, none⟩ = some (.int .i64 n2) ∧ W.cell? ⟨x2, 2, none⟩ = some (.string ⟨#[]⟩) ∧ W.cell? ⟨x3, 0, none⟩ = some (.int .i64 k3) ∧ W.cell? ⟨x3, 1, none⟩ = some (.int .i64 n3) ∧ W.cell? ⟨x3, 2, none⟩ = some (.string ⟨#[]⟩) ∧ Keep w B W L
theorem Keep.k4 (h : Keep w B W L) {x0 : Nat} {k0 n0 : Int} {x1 : Nat} {k1 n1 : Int} {x2 : Nat} {k2 n2 : Int} {x3 : Nat} {k3 n3 : Int} (h0 : (x0, k0, n0) ∈ L) (h1 : (x1, k1, n1) ∈ L) (h2 : (x2, k2, n2) ∈ L) (h3 : (x3, k3, n3) ∈ L) : K4 w B L x0 k0 n0 x1 k1 n1 x2 k2 n2 x3 k3 n3 W :=
  ⟨(h.at _ _ _ h0).1, (h.at _ _ _ h0).2.1, (h.at _ _ _ h0).2.2, (h.at _ _ _ h1).1, (h.at _ _ _ h1).2.1, (h.at _ _ _ h1).2.2, (h.at _ _ _ h2).1, (h.at _ _ _ h2).2.1, (h.at _ _ _ h2).2.2, (h.at _ _ _ h3).1, (h.at _ _ _ h3).2.1, (h.at _ _ _ h3).2.2, h⟩
/-- At block g lies an empty place for a result, that may be written. -/
structure Zero (g : Nat) (W : World) : Prop where
  lt : g < W.heap.size
  c0 : W.cell? ⟨g, 0, none⟩ = some (.int .i64 0)
  c1 : W.cell? ⟨g, 1, none⟩ = some (.int .i64 0)
  c2 : W.cell? ⟨g, 2, none⟩ = some (.string ⟨#[]⟩)
  f0 : W.frozen? ⟨g, 0, none⟩ = false
  f1 : W.frozen? ⟨g, 1, none⟩ = false
  f2 : W.frozen? ⟨g, 2, none⟩ = false
theorem Zero.step {g : Nat} {W W' : World} (h : Zero g W) (b : Below W.heap.size W W') : Zero g W' :=
  ⟨Nat.lt_of_lt_of_le h.1 b.size, (b.cell (p := ⟨g, 0, none⟩) h.1).trans h.2, (b.cell (p := ⟨g, 1, none⟩) h.1).trans h.3, (b.cell (p := ⟨g, 2, none⟩) h.1).trans h.4,
    (b.frozen (p := ⟨g, 0, none⟩) h.1).trans h.5, (b.frozen (p := ⟨g, 1, none⟩) h.1).trans h.6, (b.frozen (p := ⟨g, 2, none⟩) h.1).trans h.7⟩
theorem Zero.drew {g : Nat} {W : World} (h : Zero g W) : Zero g W.drew := h.step (Below.refl _ _).drew
theorem zero_new (W : World) : Zero W.heap.size (W.alloc (VC 0 0)) :=
  ⟨by simp, (at_new W 0 0).1, (at_new W 0 0).2.1, (at_new W 0 0).2.2, Lib.frozen_of_heap (heap_alloc_new W _) 0, Lib.frozen_of_heap (heap_alloc_new W _) 1, Lib.frozen_of_heap (heap_alloc_new W _) 2⟩
theorem Zero.set {g : Nat} {W : World} (h : Zero g W) (k n : Int) : At (((W.setCell ⟨g, 0, none⟩ (.int .i64 k)).setCell ⟨g, 1, none⟩ (.int .i64 n)).setCell ⟨g, 2, none⟩ (.string ⟨#[]⟩)) g k n := by
  have c0 := h.c0
  have c1 := h.c1
  have c2 := h.c2
  exact ⟨by simp [go_sem, c0, c1, c2], by simp [go_sem, c0, c1, c2], by simp [go_sem, c0, c1, c2]⟩
def subR (ka na kb nb : Int) : Int × Int × Bool := addR ka na (negR kb nb).1 (negR kb nb).2

set_option maxHeartbeats 4000000 in
theorem sub_any (ka na kb nb : Int) (w : World) (ha : IsNum ka na) (hb : IsNum kb nb) : Calls Tryd.prog 17 #[VN ka na, VN kb nb] w (Ret (V2 (subR ka na kb nb)) w) := by
  have h1 := ha.lo
  have h2 := ha.hi
  have h3 := hb.lo
  have h4 := hb.hi
  have h5 := hb.neg.lo
  have h6 := hb.neg.hi
  go_enter Tryd.func17, Tryd.ntmps17
  go_wp2_with fail
  have hx : (w.heap.size, ka, na) ∈ [(w.heap.size + 1, kb, nb), (w.heap.size, ka, na)] := by simp
  have hy : (w.heap.size + 1, kb, nb) ∈ [(w.heap.size + 1, kb, nb), (w.heap.size, ka, na)] := by simp
  have hK := (((Keep.start w).new ka na).new kb nb).alloc (VC 0 0)
  have hZ := zero_new ((w.alloc (VC ka na)).alloc (VC kb nb))
  rw [World.size_alloc] at hK
  rw [World.size_alloc, World.size_alloc] at hZ
  go_region_held3 (fun W => W.cell? ⟨w.heap.size, 0, none⟩ = some (.int .i64 ka) ∧ W.cell? ⟨w.heap.size, 1, none⟩ = some (.int .i64 na) ∧ W.cell? ⟨w.heap.size, 2, none⟩ = some (.string ⟨#[]⟩) ∧ W.cell? ⟨w.heap.size + 1, 0, none⟩ = some (.int .i64 kb) ∧ W.cell? ⟨w.heap.size + 1, 1, none⟩ = some (.int .i64 nb) ∧ W.cell? ⟨w.heap.size + 1, 2, none⟩ = some (.string ⟨#[]⟩) ∧ Keep w (w.heap.size + 1 + 1) W [(w.heap.size + 1, kb, nb), (w.heap.size, ka, na)])
    (first | with_reducible exact hK.k2 hx hy | with_reducible exact hK.drew.k2 hx hy | with_reducible exact (Keep.step (by assumption) bq).k2 hx hy | (go_split_ands; with_reducible exact (Keep.step (by assumption) bq).k2 hx hy) | (go_split_ands; with_reducible exact ((((Keep.set (by assumption) _ _ _ (Nat.le_refl _)).set _ _ _ (Nat.le_refl _)).set _ _ _ (Nat.le_refl _))).k2 hx hy) | go_keep)
    (first
      | (go_at_call 14; refine (neg_any kb nb _ h3 h4).mono ?_; rintro e w' ⟨rfl, bq⟩; have zq : Zero (w.heap.size + 1 + 1) w' := (by first | with_reducible exact Zero.step (by assumption) bq | with_reducible exact Zero.step (Zero.drew (by assumption)) bq); obtain ⟨zl, z0, z1, z2, z3, z4, z5⟩ := id zq)
      | (go_at_call 16; refine (add_any _ _ _ _ _ h1 h2 h5 h6).mono ?_; rintro e w' ⟨rfl, bq⟩; have zq : Zero (w.heap.size + 1 + 1) w' := (by first | with_reducible exact Zero.step (by assumption) bq | with_reducible exact Zero.step (Zero.drew (by assumption)) bq); obtain ⟨zl, z0, z1, z2, z3, z4, z5⟩ := id zq))
  go_split_ands
  go_wp2_with fail
  exact bodyPost_ret (v := V2 (subR ka na kb nb)) (by simp [results, Tryd.results17, go_sem, subR, zl, z0, z1, z2]) rfl ⟨rfl, Keep.below (B := w.heap.size + 1 + 1) (L := [(w.heap.size + 1, kb, nb), (w.heap.size, ka, na)]) (by assumption)⟩

end Go.Proofs.YtdacpebijljckaaDoor
