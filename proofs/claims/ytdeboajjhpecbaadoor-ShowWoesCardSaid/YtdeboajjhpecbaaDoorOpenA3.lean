/- How an argument that is an array of three slices of units reads. -/
import Derived.Test.YtdeboajjhpecbaaDoorTxt
import Derived.Lib.SmallJoins
import Derived.OpenShut
import Derived.ProofKit
namespace Go.Proofs.YtdeboajjhpecbaaDoor
open Go.ChangeShapes Go.WideShapes Go.ChangeAt Go.RowKit Go.Joins Go.Deep
section
variable {H : Type} {enc : TypeId × Value → H} {P : Program} {w : World} {base : Nat} {held : Bool}
theorem trod_slice_at {n : Nat} {t e f : TypeId} {fuel : Nat} {cs : List Value} {x : DataW H × List MemPlace} (ht : P.underlying t = some (.array n e)) (he : P.underlying e = some (.slice f)) (hf : P.underlying f = some (.int .u16)) (hce : P.cellsOf e = 1) (hcf : P.cellsOf f = 1)
    (h : DataW.trod enc P w base (fun _ => true) held fuel t cs = some x) (i : Nat) (hi : i < n) : ∃ a m c zs, cs[i]? = some (.slice a m c) ∧ Tx.IsRow .u16 w a m c zs := by
  obtain ⟨xs, m, _, _, _, hl, hg⟩ := DataW.trod_array ht h
  have h1 := hg i hi
  rw [List.getElem?_eq_getElem (by omega)] at h1
  rw [hce, Nat.mul_one] at h1
  have key : ∀ v, (cs.drop i).take 1 = [v] → cs[i]? = some v := by
    intro v hv
    have h2 : ((cs.drop i).take 1)[0]? = some v := by rw [hv]; rfl
    rw [List.getElem?_take, if_pos (by decide), List.getElem?_drop] at h2
    exact h2
  rcases open_ints he hf hcf h1 with ⟨hcs, _⟩ | ⟨y, l, c, zs, hcs, _, hlc, hm, hz, _, hcell, hwz⟩
  · exact ⟨none, 0, 0, [], key _ hcs, .inl ⟨rfl, rfl, rfl, rfl⟩⟩
  · exact ⟨some y, l, c, zs, key _ hcs, .inr ⟨y, rfl, hlc, hm, by simpa using hz, hcell, hwz⟩⟩
theorem open_arr3 {r : Reach} {b0 : Nat} {t e f : TypeId} {v : Value} {d : DataW H} {ps : List MemPlace} (ht : P.underlying t = some (.array 3 e)) (he : P.underlying e = some (.slice f)) (hf : P.underlying f = some (.int .u16)) (hc : P.cellsOf t = 3) (hce : P.cellsOf e = 1) (hcf : P.cellsOf f = 1)
    (hval : Value.okWide P w r b0 t v) (hd : DataW.Trod enc P w base (fun _ => true) held t v d ps) :
    ∃ a0 a1 a2 n0 n1 n2 c0 c1 c2 z0 z1 z2, v = .agg #[.slice a0 n0 c0, .slice a1 n1 c1, .slice a2 n2 c2] ∧ Tx.IsRow .u16 w a0 n0 c0 z0 ∧ Tx.IsRow .u16 w a1 n1 c1 z1 ∧ Tx.IsRow .u16 w a2 n2 c2 z2 := by
  unfold Value.okWide at hval
  rw [ht] at hval
  obtain ⟨cs, rfl, hs, _⟩ := hval
  obtain ⟨fuel, hh⟩ := hd
  have hcs : (Value.agg cs).cells = cs := rfl
  rw [hcs] at hh
  obtain ⟨a0, n0, c0, z0, e0, r0⟩ := trod_slice_at ht he hf hce hcf hh 0 (by decide)
  obtain ⟨a1, n1, c1, z1, e1, r1⟩ := trod_slice_at ht he hf hce hcf hh 1 (by decide)
  obtain ⟨a2, n2, c2, z2, e2, r2⟩ := trod_slice_at ht he hf hce hcf hh 2 (by decide)
  refine ⟨a0, a1, a2, n0, n1, n2, c0, c1, c2, z0, z1, z2, ?_, r0, r1, r2⟩
  rw [hc] at hs
  congr 1
  apply Array.ext
  · rw [hs]; rfl
  · intro i h1 h2
    have : i = 0 ∨ i = 1 ∨ i = 2 := by omega
    rcases this with rfl | rfl | rfl
    · have := (List.getElem?_eq_some_iff.1 e0).2; simpa using this
    · have := (List.getElem?_eq_some_iff.1 e1).2; simpa using this
    · have := (List.getElem?_eq_some_iff.1 e2).2; simpa using this
end
end Go.Proofs.YtdeboajjhpecbaaDoor
