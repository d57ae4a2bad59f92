/- The statement ArenaCircles, from its walk. -/
import Derived.Test.YthcdhiknjpfmhaaArCiW
import Derived.Test.YthcdhiknjpfmhaaOpen3
import Derived.Test.YthcdhiknjpfmhaaRows
import Derived.OpenShut
set_option linter.unusedVariables false
namespace Go.Proofs.Ythcdhiknjpfmhaa
open Go.RowKit Go.ChangeShapes
theorem argP_of {w : World} {a : Option Addr} {n cap : Nat} {zs : List Int} (h : IsRows .i64 w a n cap 2 zs) : ArgP w a n ((List.range n).map fun i => (zs.getD (i * 2) 0, zs.getD (i * 2 + 1) 0)) := by
  rcases h with ⟨rfl, rfl, rfl, rfl⟩ | ⟨x, rfl, hl, hm, hz, hc, _⟩
  · exact ⟨rfl, fun h => absurd h (by decide)⟩
  · refine ⟨by simp, fun hn => ?_⟩
    obtain ⟨b, off, rfl, hc'⟩ := ints_at hc (by omega)
    refine ⟨b, off, rfl, World.block_lt_of_cell? w ⟨b, off + 0, none⟩ (hc' 0 (by omega)), fun i hi => ?_⟩
    have e : ((List.range n).map fun i => (zs.getD (i * 2) 0, zs.getD (i * 2 + 1) 0)).getD i (0, 0) = (zs.getD (i * 2) 0, zs.getD (i * 2 + 1) 0) := by
      rw [List.getD_eq_getElem?_getD, List.getElem?_map, List.getElem?_range hi]; rfl
    rw [e]
    exact ⟨hc' (i * 2) (by omega), hc' (i * 2 + 1) (by omega)⟩
theorem circles_said (n : Int) (la : Option Addr) (ln lcap : Nat) (zs : List Int) (root : Int) (w : World) (wn : (Lit.int .i64 n).wf = true) (wl : IsRows .i64 w la ln lcap 2 zs) (wr : (Lit.int .i64 root).wf = true) :
    Calls Try.prog 5 #[.int .i64 n, .slice la ln lcap, .int .i64 root] w fun e w' => e = .returned (.bool true) ∧ Below w.heap.size w w' :=
  circles_walk n la ln lcap _ root w (argP_of wl)
end Go.Proofs.Ythcdhiknjpfmhaa
