/- The arena: sweep. -/
import Derived.Test.YthcdhiknjpfmhaaArA
import Derived.Stop.Asserts
import Derived.Laws.BytesArg
set_option linter.unusedVariables false
set_option linter.unusedSimpArgs false
namespace Go.Proofs.Ythcdhiknjpfmhaa
open Go.RowKit

/-- A node's fields: To, Table, Faint, Ends. -/
abbrev NodeF := Value × Value × Value × Int
def ndA (x : NodeF) : Array Value := #[x.1, x.2.1, x.2.2.1, .int .i64 x.2.2.2]
def ended (x : NodeF) : NodeF := (x.1, x.2.1, x.2.2.1, x.2.2.2 + 1)
theorem gone_any (N : Nat) (x : NodeF) (w : World) (h : Blk w N 30 (ndA x)) (h0 : 0 ≤ x.2.2.2) (h1 : x.2.2.2 ≤ 1000000000) :
    Calls Try.prog 25 #[.pointer (some ⟨N, 0, none⟩)] w fun e w' => (∃ v, e = .returned v) ∧ w' = w.setCell ⟨N, 3, none⟩ (.int .i64 (x.2.2.2 + 1)) := by
  obtain ⟨t, b, f, e⟩ := x
  have x3 : w.cell? ⟨N, 3, none⟩ = some (.int .i64 e) := by rw [h.cell]; rfl
  have z3 := h.frozen 3
  have hl := h.lt
  have w1 : IntKind.i64.wrap (e + 1) = e + 1 := IntWalk.i64_in _ (by simp only at h1 h0; omega)
  clear h
  go_enter Try.func25, Try.ntmps25
  go_wp2
  go_end0
  exact ⟨⟨_, rfl⟩, rfl⟩
/-- What sweeping leaves of a cell; the numbers of the cells that go. -/
def swC (c : Cell) : Cell := match c with
  | (some n, true) => (some n, false)
  | _ => (none, false)
def swL (l : List Cell) : List Cell := l.map swC
def goes (c : Cell) : Bool := match c with
  | (some _, false) => true
  | _ => false
/-- The places, from k on, of the cells that go. -/
def goneL : Nat → List Cell → List Int
  | _, [] => []
  | k, c :: l => if goes c then ((k + 1 : Nat) : Int) :: goneL (k + 1) l else goneL (k + 1) l
theorem goneL_snoc (k : Nat) (l : List Cell) (c : Cell) : goneL k (l ++ [c]) = goneL k l ++ (if goes c then [((k + l.length + 1 : Nat) : Int)] else []) := by
  induction l generalizing k with
  | nil => simp [goneL]
  | cons d l ih =>
    rw [List.cons_append, goneL, goneL, ih]
    rw [show k + 1 + l.length + 1 = k + (d :: l).length + 1 by simp; omega]
    split <;> simp
theorem goneL_le (k : Nat) (l : List Cell) : (goneL k l).length ≤ l.length := by
  induction l generalizing k with
  | nil => simp [goneL]
  | cons d l ih =>
    have := ih (k + 1)
    rw [goneL]
    split <;> simp <;> omega
theorem isGoner (v : Value) (w : World) : (Instr.typeAssert (.iface 27 v) 57 88 true).run Try.prog w = .ok (.tuple #[.iface 27 v, .bool true]) w := run_typeAssert_hasB Try.underlying88 (by kernel_rfl) v 57 w
end Go.Proofs.Ythcdhiknjpfmhaa
