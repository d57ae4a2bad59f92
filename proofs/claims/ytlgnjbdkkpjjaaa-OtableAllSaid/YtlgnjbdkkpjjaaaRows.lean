/-
  No cell of these rows narrows 'for every input' (looked for: loops, veiled, ifaces, maps, wideKeys, modest, calm, conditions, laid).
  DERIVED. THE GIVEN ROWS OF THIS SEAT. 6 by the template 'for every input the law returns true; each argument reads behind the call as it read before'; 0 by the template 'total and deterministic' (their statements: YtlgnjbdkkpjjaaaTotals.lean).
  GIVEN WITH THE SEED: the statements are not yours to turn. If you find one false, say at which input.
  Laid BY PROGRAM, IN A SANDBOX (cutbox-rows.mjs): the forced cells as the released guide's own fill.sh prints them over the translation a4239c07c849acd0… (all of the seat's roots in one cut). By AI agents, Wed Nov 11 2026. No macro, syntax, notation, axiom, sorry.
-/
import Derived.Test.YtlgnjbdkkpjjaaaChecked
import GoSem.Claim
import GoSem.ClaimJoined
import GoSem.ClaimMapViews
import Derived.JoinedTies
import Derived.KernelRfl
namespace Go.Proofs.Ytlgnjbdkkpjjaaa
/- THE CELL 'sum', in the pinned program and in every row, IS THE sha256 OF THE DUMP (.gsa) THAT YtlgnjbdkkpjjaaaProg.lean LOADS. Nothing in Lean hashes anything: it is a label: what it is worth is what the hold of that sum in a sandbox is worth. -/
noncomputable def Try.pinned : Pinned := { name := "ytlgnjbdkkpjjaaa", sum := "a4239c07c849acd076d6783a2b7b20580727d0e50c8cb0246df70ac0eaa668a8", checked := Try.checked }
namespace Rows
def none {H : Type} : Left H := { results := [], args := [] }

/-- 'ossuarylaw05.OtableCursors': WHATEVER THE INPUT: true; the input reads as it did. -/
def otableCursorsSpec : ChangeSpec := { name := "otableCursors", fn := fun _ => fun
  | [d1, d2, d3] => { results := [.lit (.bool true)], args := [d1, d2, d3] }
  | _ => none }
def otableCursorsRow : OpenClaim := { program := "ytlgnjbdkkpjjaaa", sum := "a4239c07c849acd076d6783a2b7b20580727d0e50c8cb0246df70ac0eaa668a8", func := "ossuary/ossuarylaw05.OtableCursors", spec := "otableCursors", unfollowed := true, recurses := true, apart := false }
def OtableCursorsSaid : Prop := otableCursorsRow.holds Try.pinned (OpenSpec.ofChange otableCursorsSpec)

/-- ITS FALSE NEIGHBOUR: 'it returns false'. Refute it at one input. -/
def otableCursorsWrong : ChangeSpec := { name := "otableCursors", fn := fun _ => fun
  | [d1, d2, d3] => { results := [.lit (.bool false)], args := [d1, d2, d3] }
  | _ => none }
def OtableCursorsWrongFalsely : Prop := otableCursorsRow.holds Try.pinned (OpenSpec.ofChange otableCursorsWrong)

/-- 'ossuarylaw05.OtableMany': WHATEVER THE INPUT: true; the input reads as it did. -/
def otableManySpec : ChangeSpec := { name := "otableMany", fn := fun _ => fun
  | [d1, d2] => { results := [.lit (.bool true)], args := [d1, d2] }
  | _ => none }
def otableManyRow : OpenClaim := { program := "ytlgnjbdkkpjjaaa", sum := "a4239c07c849acd076d6783a2b7b20580727d0e50c8cb0246df70ac0eaa668a8", func := "ossuary/ossuarylaw05.OtableMany", spec := "otableMany", unfollowed := true, recurses := true, apart := false }
def OtableManySaid : Prop := otableManyRow.holds Try.pinned (OpenSpec.ofChange otableManySpec)

/-- ITS FALSE NEIGHBOUR: 'it returns false'. Refute it at one input. -/
def otableManyWrong : ChangeSpec := { name := "otableMany", fn := fun _ => fun
  | [d1, d2] => { results := [.lit (.bool false)], args := [d1, d2] }
  | _ => none }
def OtableManyWrongFalsely : Prop := otableManyRow.holds Try.pinned (OpenSpec.ofChange otableManyWrong)

/-- 'ossuarylaw05.OtableFlags': WHATEVER THE INPUT: true; the input reads as it did. -/
def otableFlagsSpec : ChangeSpec := { name := "otableFlags", fn := fun _ => fun
  | [d1, d2, d3] => { results := [.lit (.bool true)], args := [d1, d2, d3] }
  | _ => none }
def otableFlagsRow : OpenClaim := { program := "ytlgnjbdkkpjjaaa", sum := "a4239c07c849acd076d6783a2b7b20580727d0e50c8cb0246df70ac0eaa668a8", func := "ossuary/ossuarylaw05.OtableFlags", spec := "otableFlags", unfollowed := true, recurses := true, apart := false }
def OtableFlagsSaid : Prop := otableFlagsRow.holds Try.pinned (OpenSpec.ofChange otableFlagsSpec)

/-- ITS FALSE NEIGHBOUR: 'it returns false'. Refute it at one input. -/
def otableFlagsWrong : ChangeSpec := { name := "otableFlags", fn := fun _ => fun
  | [d1, d2, d3] => { results := [.lit (.bool false)], args := [d1, d2, d3] }
  | _ => none }
def OtableFlagsWrongFalsely : Prop := otableFlagsRow.holds Try.pinned (OpenSpec.ofChange otableFlagsWrong)

/-- 'ossuarylaw05.OtableRuns': WHATEVER THE INPUT: true; the input reads as it did. -/
def otableRunsSpec : ChangeSpec := { name := "otableRuns", fn := fun _ => fun
  | [d] => { results := [.lit (.bool true)], args := [d] }
  | _ => none }
def otableRunsRow : OpenClaim := { program := "ytlgnjbdkkpjjaaa", sum := "a4239c07c849acd076d6783a2b7b20580727d0e50c8cb0246df70ac0eaa668a8", func := "ossuary/ossuarylaw05.OtableRuns", spec := "otableRuns", unfollowed := true, recurses := true, apart := false }
def OtableRunsSaid : Prop := otableRunsRow.holds Try.pinned (OpenSpec.ofChange otableRunsSpec)

/-- ITS FALSE NEIGHBOUR: 'it returns false'. Refute it at one input. -/
def otableRunsWrong : ChangeSpec := { name := "otableRuns", fn := fun _ => fun
  | [d] => { results := [.lit (.bool false)], args := [d] }
  | _ => none }
def OtableRunsWrongFalsely : Prop := otableRunsRow.holds Try.pinned (OpenSpec.ofChange otableRunsWrong)

/-- 'ossuarylaw05.OtableNone': WHATEVER THE INPUT: true; the input reads as it did. -/
def otableNoneSpec : ChangeSpec := { name := "otableNone", fn := fun _ => fun
  | [d] => { results := [.lit (.bool true)], args := [d] }
  | _ => none }
def otableNoneRow : OpenClaim := { program := "ytlgnjbdkkpjjaaa", sum := "a4239c07c849acd076d6783a2b7b20580727d0e50c8cb0246df70ac0eaa668a8", func := "ossuary/ossuarylaw05.OtableNone", spec := "otableNone", unfollowed := true, recurses := true, apart := false }
def OtableNoneSaid : Prop := otableNoneRow.holds Try.pinned (OpenSpec.ofChange otableNoneSpec)

/-- ITS FALSE NEIGHBOUR: 'it returns false'. Refute it at one input. -/
def otableNoneWrong : ChangeSpec := { name := "otableNone", fn := fun _ => fun
  | [d] => { results := [.lit (.bool false)], args := [d] }
  | _ => none }
def OtableNoneWrongFalsely : Prop := otableNoneRow.holds Try.pinned (OpenSpec.ofChange otableNoneWrong)

/-- 'ossuarylaw05.OtableAll': WHATEVER THE INPUT: true; the input reads as it did. -/
def otableAllSpec : ChangeSpec := { name := "otableAll", fn := fun _ => fun
  | [d1, d2] => { results := [.lit (.bool true)], args := [d1, d2] }
  | _ => none }
def otableAllRow : OpenClaim := { program := "ytlgnjbdkkpjjaaa", sum := "a4239c07c849acd076d6783a2b7b20580727d0e50c8cb0246df70ac0eaa668a8", func := "ossuary/ossuarylaw05.OtableAll", spec := "otableAll", unfollowed := true, recurses := true, apart := false }
def OtableAllSaid : Prop := otableAllRow.holds Try.pinned (OpenSpec.ofChange otableAllSpec)

/-- ITS FALSE NEIGHBOUR: 'it returns false'. Refute it at one input. -/
def otableAllWrong : ChangeSpec := { name := "otableAll", fn := fun _ => fun
  | [d1, d2] => { results := [.lit (.bool false)], args := [d1, d2] }
  | _ => none }
def OtableAllWrongFalsely : Prop := otableAllRow.holds Try.pinned (OpenSpec.ofChange otableAllWrong)

/- THE SECOND FORM. 'bulk': how many values and letters a reading holds, each counted each time it is reached (what is shared counts as often as it is met; a slice's spare places count too). A statement '..UptoSaid' is the law's where the arguments, and the package variables that the reading takes, are together of bulk at most 1048576: NARROWER than '..Said'. Prove '..Said' where nothing that the law and all that it calls make is longer than what came in: it says more and counts as full. Else prove '..UptoSaid'. A law counts once. -/
mutual
def uptoBulk {H : Type} : DataW H → Nat
  | .lit (.string bytes) => bytes.length + 1
  | .lit _ => 1
  | .nil => 1
  | .ptr d => uptoBulk d + 1
  | .slice elems spare => uptoBulkAll elems + uptoBulkAll spare + 1
  | .agg parts => uptoBulkAll parts + 1
  | .iface _ d => uptoBulk d + 1
  | .map entries => uptoBulkEntries entries + 1
  | .held _ => 1
def uptoBulkAll {H : Type} : List (DataW H) → Nat
  | [] => 0
  | d :: r => uptoBulk d + uptoBulkAll r
def uptoBulkEntries {H : Type} : List (Lit × DataW H) → Nat
  | [] => 0
  | x :: r => uptoBulkEntry x + uptoBulkEntries r
def uptoBulkEntry {H : Type} : Lit × DataW H → Nat
  | (.string bytes, d) => bytes.length + uptoBulk d + 1
  | (_, d) => uptoBulk d + 1
 end
def uptoSmall : (H : Type) → List (DataW H) → Bool := fun _ ds => decide (uptoBulkAll ds ≤ 1048576)
def OpenSpec.upto (s : _root_.Go.ChangeSpec) : _root_.Go.OpenSpec := { _root_.Go.OpenSpec.ofChange s with cond := some uptoSmall }

/-- 'ossuarylaw05.OtableCursors', WHERE WHAT IT READS IS OF BULK AT MOST 1048576: true; the input reads as it did. -/
def otableCursorsUptoRow : OpenClaim := { program := "ytlgnjbdkkpjjaaa", sum := "a4239c07c849acd076d6783a2b7b20580727d0e50c8cb0246df70ac0eaa668a8", func := "ossuary/ossuarylaw05.OtableCursors", spec := "otableCursors", unfollowed := true, recurses := true, apart := false, narrowed := true }
def OtableCursorsUptoSaid : Prop := otableCursorsUptoRow.holds Try.pinned (OpenSpec.upto otableCursorsSpec)

/-- 'ossuarylaw05.OtableMany', WHERE WHAT IT READS IS OF BULK AT MOST 1048576: true; the input reads as it did. -/
def otableManyUptoRow : OpenClaim := { program := "ytlgnjbdkkpjjaaa", sum := "a4239c07c849acd076d6783a2b7b20580727d0e50c8cb0246df70ac0eaa668a8", func := "ossuary/ossuarylaw05.OtableMany", spec := "otableMany", unfollowed := true, recurses := true, apart := false, narrowed := true }
def OtableManyUptoSaid : Prop := otableManyUptoRow.holds Try.pinned (OpenSpec.upto otableManySpec)

/-- 'ossuarylaw05.OtableFlags', WHERE WHAT IT READS IS OF BULK AT MOST 1048576: true; the input reads as it did. -/
def otableFlagsUptoRow : OpenClaim := { program := "ytlgnjbdkkpjjaaa", sum := "a4239c07c849acd076d6783a2b7b20580727d0e50c8cb0246df70ac0eaa668a8", func := "ossuary/ossuarylaw05.OtableFlags", spec := "otableFlags", unfollowed := true, recurses := true, apart := false, narrowed := true }
def OtableFlagsUptoSaid : Prop := otableFlagsUptoRow.holds Try.pinned (OpenSpec.upto otableFlagsSpec)

/-- 'ossuarylaw05.OtableRuns', WHERE WHAT IT READS IS OF BULK AT MOST 1048576: true; the input reads as it did. -/
def otableRunsUptoRow : OpenClaim := { program := "ytlgnjbdkkpjjaaa", sum := "a4239c07c849acd076d6783a2b7b20580727d0e50c8cb0246df70ac0eaa668a8", func := "ossuary/ossuarylaw05.OtableRuns", spec := "otableRuns", unfollowed := true, recurses := true, apart := false, narrowed := true }
def OtableRunsUptoSaid : Prop := otableRunsUptoRow.holds Try.pinned (OpenSpec.upto otableRunsSpec)

/-- 'ossuarylaw05.OtableNone', WHERE WHAT IT READS IS OF BULK AT MOST 1048576: true; the input reads as it did. -/
def otableNoneUptoRow : OpenClaim := { program := "ytlgnjbdkkpjjaaa", sum := "a4239c07c849acd076d6783a2b7b20580727d0e50c8cb0246df70ac0eaa668a8", func := "ossuary/ossuarylaw05.OtableNone", spec := "otableNone", unfollowed := true, recurses := true, apart := false, narrowed := true }
def OtableNoneUptoSaid : Prop := otableNoneUptoRow.holds Try.pinned (OpenSpec.upto otableNoneSpec)

/-- 'ossuarylaw05.OtableAll', WHERE WHAT IT READS IS OF BULK AT MOST 1048576: true; the input reads as it did. -/
def otableAllUptoRow : OpenClaim := { program := "ytlgnjbdkkpjjaaa", sum := "a4239c07c849acd076d6783a2b7b20580727d0e50c8cb0246df70ac0eaa668a8", func := "ossuary/ossuarylaw05.OtableAll", spec := "otableAll", unfollowed := true, recurses := true, apart := false, narrowed := true }
def OtableAllUptoSaid : Prop := otableAllUptoRow.holds Try.pinned (OpenSpec.upto otableAllSpec)

end Rows
end Go.Proofs.Ytlgnjbdkkpjjaaa
