/- Two boxed values and a place for a result, through a drawn region. -/
import Derived.Test.YtdacpebijljckaaDoorNumC
set_option linter.unusedVariables false
namespace Go.Proofs.YtdacpebijljckaaDoor
open Go.RowKit


/-- Two boxed values and a place for a result, laid behind what was there. -/
def Bx (w W : World) (ka na kb nb : Int) : Prop :=
  W.heap[w.heap.size]? = some (VC ka na) ∧ W.heap[w.heap.size + 1]? = some (VC kb nb) ∧ W.heap[w.heap.size + 1 + 1]? = some (VC 0 0) ∧ Below w.heap.size w W ∧ w.heap.size + 3 ≤ W.heap.size
theorem Bx.step {w W W' : World} {ka na kb nb : Int} (h : Bx w W ka na kb nb) (b : Below W.heap.size W W') : Bx w W' ka na kb nb := by
  obtain ⟨h1, h2, h3, h4, h5⟩ := h
  exact ⟨(b.block _ (by omega)).trans h1, (b.block _ (by omega)).trans h2, (b.block _ (by omega)).trans h3, h4.trans (b.mono (by omega)), Nat.le_trans h5 b.size⟩
theorem cells_of {W : World} {b : Nat} {k n : Int} (h : W.heap[b]? = some (VC k n)) : W.cell? ⟨b, 0, none⟩ = some (.int .i64 k) ∧ W.cell? ⟨b, 1, none⟩ = some (.int .i64 n) ∧ W.cell? ⟨b, 2, none⟩ = some (.string ⟨#[]⟩) :=
  ⟨by rw [Lib.cell_of_heap h]; rfl, by rw [Lib.cell_of_heap h]; rfl, by rw [Lib.cell_of_heap h]; rfl⟩
theorem bx_start (w : World) (ka na kb nb : Int) : Bx w (((w.alloc (VC ka na)).alloc (VC kb nb)).alloc (VC 0 0)) ka na kb nb := by
  have h1 := heap_alloc_new w (VC ka na)
  have h2 := heap_alloc_new (w.alloc (VC ka na)) (VC kb nb)
  have h3 := heap_alloc_new ((w.alloc (VC ka na)).alloc (VC kb nb)) (VC 0 0)
  rw [World.size_alloc] at h2
  rw [World.size_alloc, World.size_alloc] at h3
  refine ⟨(Lib.alloc_old _ _ _ (by simp; omega)).trans ((Lib.alloc_old _ _ _ (by simp)).trans h1), (Lib.alloc_old _ _ _ (by simp)).trans h2, h3, (((Below.refl _ _).alloc (Nat.le_refl _) _).alloc (by simp) _).alloc (by simp; omega) _, by simp⟩
/-- What a walk is told of the two boxes. -/
def Sx (w W : World) (ka na kb nb : Int) : Prop :=
  W.cell? ⟨w.heap.size, 0, none⟩ = some (.int .i64 ka) ∧ W.cell? ⟨w.heap.size, 1, none⟩ = some (.int .i64 na) ∧ W.cell? ⟨w.heap.size, 2, none⟩ = some (.string ⟨#[]⟩) ∧
  W.cell? ⟨w.heap.size + 1, 0, none⟩ = some (.int .i64 kb) ∧ W.cell? ⟨w.heap.size + 1, 1, none⟩ = some (.int .i64 nb) ∧ W.cell? ⟨w.heap.size + 1, 2, none⟩ = some (.string ⟨#[]⟩) ∧ Bx w W ka na kb nb
theorem Bx.sx {w W : World} {ka na kb nb : Int} (h : Bx w W ka na kb nb) : Sx w W ka na kb nb :=
  ⟨(cells_of h.1).1, (cells_of h.1).2.1, (cells_of h.1).2.2, (cells_of h.2.1).1, (cells_of h.2.1).2.1, (cells_of h.2.1).2.2, h⟩
theorem Sx.step {w W W' : World} {ka na kb nb : Int} (h : Sx w W ka na kb nb) (b : Below W.heap.size W W') : Sx w W' ka na kb nb := (h.2.2.2.2.2.2.step b).sx
theorem Sx.drew {w W : World} {ka na kb nb : Int} (h : Sx w W ka na kb nb) : Sx w W.drew ka na kb nb := h.step (Below.refl _ _).drew
/-- All that a walk wants of the three blocks. -/
theorem Bx.facts {w W : World} {ka na kb nb : Int} (h : Bx w W ka na kb nb) :
    W.cell? ⟨w.heap.size, 0, none⟩ = some (.int .i64 ka) ∧ W.cell? ⟨w.heap.size, 1, none⟩ = some (.int .i64 na) ∧ W.cell? ⟨w.heap.size, 2, none⟩ = some (.string ⟨#[]⟩) ∧
    W.cell? ⟨w.heap.size + 1, 0, none⟩ = some (.int .i64 kb) ∧ W.cell? ⟨w.heap.size + 1, 1, none⟩ = some (.int .i64 nb) ∧ W.cell? ⟨w.heap.size + 1, 2, none⟩ = some (.string ⟨#[]⟩) ∧
    W.cell? ⟨w.heap.size + 1 + 1, 0, none⟩ = some (.int .i64 0) ∧ W.cell? ⟨w.heap.size + 1 + 1, 1, none⟩ = some (.int .i64 0) ∧ W.cell? ⟨w.heap.size + 1 + 1, 2, none⟩ = some (.string ⟨#[]⟩) ∧
    W.frozen? ⟨w.heap.size + 1 + 1, 0, none⟩ = false ∧ W.frozen? ⟨w.heap.size + 1 + 1, 1, none⟩ = false ∧ W.frozen? ⟨w.heap.size + 1 + 1, 2, none⟩ = false ∧ Below w.heap.size w W :=
  ⟨(cells_of h.1).1, (cells_of h.1).2.1, (cells_of h.1).2.2, (cells_of h.2.1).1, (cells_of h.2.1).2.1, (cells_of h.2.1).2.2, (cells_of h.2.2.1).1, (cells_of h.2.2.1).2.1, (cells_of h.2.2.1).2.2,
    Lib.frozen_of_heap h.2.2.1 0, Lib.frozen_of_heap h.2.2.1 1, Lib.frozen_of_heap h.2.2.1 2, h.2.2.2.1⟩
theorem wrapW (n : Int) : IntKind.i64.wrap n = wrap64 n := by rw [IntKind.wrap_i64, wrap64]
def sgI (b : Bool) : Int := if b = true then -1 else 1
def zkI (b : Bool) : Int := if b = true then 6 else 3
theorem none_b (k n : Int) (w : World) : Calls Tryd.prog 29 #[VN k n] w fun e w' => e = .returned (.bool (noneB k n)) ∧ Below w.heap.size w w' :=
  (none_any k n w).mono fun e w' ⟨he, hw⟩ => ⟨he, hw ▸ (Below.refl _ _).alloc (Nat.le_refl _) _⟩
theorem nan_b (w : World) : Calls Tryd.prog 30 #[] w fun e w' => e = .returned (VN 4 0) ∧ Below w.heap.size w w' :=
  (nan_any w).mono fun e w' ⟨he, hw⟩ => ⟨he, hw ▸ (Below.refl _ _).alloc (Nat.le_refl _) _⟩
theorem inf_b (b : Bool) (w : World) : Calls Tryd.prog 31 #[.bool b] w fun e w' => e = .returned (VN 5 (sgI b)) ∧ Below w.heap.size w w' :=
  (inf_any b w).mono fun e w' ⟨he, hw⟩ => ⟨he, hw ▸ (Below.refl _ _).alloc (Nat.le_refl _) _⟩
theorem zero_b (b : Bool) (w : World) : Calls Tryd.prog 32 #[.bool b] w fun e w' => e = .returned (VN (zkI b) 0) ∧ Below w.heap.size w w' :=
  (zero_any b w).mono fun e w' ⟨he, hw⟩ => ⟨he, hw ▸ (Below.refl _ _).alloc (Nat.le_refl _) _⟩
theorem zero_x (b : Bool) (w : World) : Calls Tryd.prog 32 #[.bool b] w fun e w' => e = .returned (VN (zkI b) 0) ∧ w' = w.alloc (VC (zkI b) 0) := zero_any b w
theorem below_b (k n : Int) (w : World) : Calls Tryd.prog 28 #[VN k n] w fun e w' => e = .returned (.bool (belowB k n)) ∧ Below w.heap.size w w' :=
  (below_any k n w).mono fun e w' ⟨he, hw⟩ => ⟨he, hw ▸ (Below.refl _ _).alloc (Nat.le_refl _) _⟩

end Go.Proofs.YtdacpebijljckaaDoor
