/- How an argument that is a seed of a value reads: two numbers and a slice of units. -/
import Derived.Test.YtlgnjbdkkpjjaaaTxt
import Derived.Lib.SmallJoins
import Derived.OpenShut
import Derived.ProofKit
namespace Go.Proofs.Ytlgnjbdkkpjjaaa
open Go.ChangeShapes Go.WideShapes Go.ChangeAt Go.RowKit Go.Joins Go.Deep
section
variable {H : Type} {enc : TypeId × Value → H} {P : Program} {w : World} {base : Nat} {held : Bool}
theorem open_seed {r : Reach} {b0 : Nat} {t t0 t1 t2 e : TypeId} {f0 f1 f2 : Field} {v : Value} {d : DataW H} {p : List MemPlace} (hs : P.underlying t = some (.struct #[f0, f1, f2])) (hone : oneCellFields P #[f0, f1, f2] = true) (hC : P.cellsOf t = 3)
    (e0 : f0.type = t0) (e1 : f1.type = t1) (e2 : f2.type = t2)
    (h0 : P.underlying t0 = some (.int .i64)) (h1 : P.underlying t1 = some (.int .i64)) (h2 : P.underlying t2 = some (.slice e)) (he : P.underlying e = some (.int .u16)) (hce : P.cellsOf e = 1)
    (hv : Value.okWide P w r b0 t v) (h : DataW.Trod enc P w base (fun _ => true) held t v d p) :
    ∃ K N a n cap zs, v = .agg #[.int .i64 K, .int .i64 N, .slice a n cap] ∧ (Lit.int .i64 K).wf = true ∧ (Lit.int .i64 N).wf = true ∧ Tx.IsRow .u16 w a n cap zs := by
  obtain ⟨v0, v1, v2, y0, y1, y2, m, rfl, rfl, rfl, g0, g1, g2⟩ := open_agg3 hs hone hC hv h
  rw [e0] at g0
  rw [e1] at g1
  rw [e2] at g2
  obtain ⟨K, hK, _, wK⟩ := DataW.trod_int h0 g0
  obtain ⟨N, hN, _, wN⟩ := DataW.trod_int h1 g1
  simp only [List.cons.injEq, and_true] at hK hN
  subst hK hN
  rcases open_ints h2 he hce g2 with ⟨hcs, _⟩ | ⟨x, l, c, zs, hcs, _, hl, hm, hz, _, hcell, hwz⟩
  · simp only [List.cons.injEq, and_true] at hcs
    subst hcs
    exact ⟨K, N, none, 0, 0, [], rfl, wK, wN, .inl ⟨rfl, rfl, rfl, rfl⟩⟩
  · simp only [List.cons.injEq, and_true] at hcs
    subst hcs
    exact ⟨K, N, some x, l, c, zs, rfl, wK, wN, .inr ⟨x, rfl, hl, hm, by simpa using hz, hcell, hwz⟩⟩
end
end Go.Proofs.Ytlgnjbdkkpjjaaa
