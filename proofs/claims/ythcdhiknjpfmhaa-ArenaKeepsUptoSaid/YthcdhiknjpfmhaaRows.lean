/-
  No cell of these rows narrows 'for every input' (looked for: loops, veiled, ifaces, maps, wideKeys, modest, calm, conditions, laid).
  DERIVED. THE GIVEN ROWS OF THIS SEAT. 5 by the template 'for every input the law returns true; each argument reads behind the call as it read before'; 0 by the template 'total and deterministic' (their statements: YthcdhiknjpfmhaaTotals.lean).
  GIVEN WITH THE SEED: the statements are not yours to turn. If you find one false, say at which input.
  Laid BY PROGRAM, IN A SANDBOX (cutbox-rows.mjs): the forced cells as the released guide's own fill.sh prints them over the translation d1ba3c603a60c61c… (all of the seat's roots in one cut). By AI agents, Wed Nov 11 2026. No macro, syntax, notation, axiom, sorry.
-/
import Derived.Test.YthcdhiknjpfmhaaChecked
import GoSem.Claim
import GoSem.ClaimJoined
import GoSem.ClaimMapViews
import Derived.JoinedTies
import Derived.KernelRfl
namespace Go.Proofs.Ythcdhiknjpfmhaa
/- THE CELL 'sum', in the pinned program and in every row, IS THE sha256 OF THE DUMP (.gsa) THAT YthcdhiknjpfmhaaProg.lean LOADS. Nothing in Lean hashes anything: it is a label: what it is worth is what the hold of that sum in a sandbox is worth. -/
noncomputable def Try.pinned : Pinned := { name := "ythcdhiknjpfmhaa", sum := "d1ba3c603a60c61c9b0f97c5b50ec34745cf72436eb78288209c5d1912391ef7", checked := Try.checked }
namespace Rows
def none {H : Type} : Left H := { results := [], args := [] }

/-- 'ossuarylaw04.ArenaChains': WHATEVER THE INPUT: true; the input reads as it did. -/
def arenaChainsSpec : ChangeSpec := { name := "arenaChains", fn := fun _ => fun
  | [d1, d2, d3] => { results := [.lit (.bool true)], args := [d1, d2, d3] }
  | _ => none }
def arenaChainsRow : OpenClaim := { program := "ythcdhiknjpfmhaa", sum := "d1ba3c603a60c61c9b0f97c5b50ec34745cf72436eb78288209c5d1912391ef7", func := "ossuary/ossuarylaw04.ArenaChains", spec := "arenaChains", unfollowed := true, recurses := true, apart := false }
def ArenaChainsSaid : Prop := arenaChainsRow.holds Try.pinned (OpenSpec.ofChange arenaChainsSpec)

/-- ITS FALSE NEIGHBOUR: 'it returns false'. Refute it at one input. -/
def arenaChainsWrong : ChangeSpec := { name := "arenaChains", fn := fun _ => fun
  | [d1, d2, d3] => { results := [.lit (.bool false)], args := [d1, d2, d3] }
  | _ => none }
def ArenaChainsWrongFalsely : Prop := arenaChainsRow.holds Try.pinned (OpenSpec.ofChange arenaChainsWrong)

/-- 'ossuarylaw04.ArenaReuses': WHATEVER THE INPUT: true; the input reads as it did. -/
def arenaReusesSpec : ChangeSpec := { name := "arenaReuses", fn := fun _ => fun
  | [d1, d2] => { results := [.lit (.bool true)], args := [d1, d2] }
  | _ => none }
def arenaReusesRow : OpenClaim := { program := "ythcdhiknjpfmhaa", sum := "d1ba3c603a60c61c9b0f97c5b50ec34745cf72436eb78288209c5d1912391ef7", func := "ossuary/ossuarylaw04.ArenaReuses", spec := "arenaReuses", unfollowed := true, recurses := true, apart := false }
def ArenaReusesSaid : Prop := arenaReusesRow.holds Try.pinned (OpenSpec.ofChange arenaReusesSpec)

/-- ITS FALSE NEIGHBOUR: 'it returns false'. Refute it at one input. -/
def arenaReusesWrong : ChangeSpec := { name := "arenaReuses", fn := fun _ => fun
  | [d1, d2] => { results := [.lit (.bool false)], args := [d1, d2] }
  | _ => none }
def ArenaReusesWrongFalsely : Prop := arenaReusesRow.holds Try.pinned (OpenSpec.ofChange arenaReusesWrong)

/-- 'ossuarylaw04.ArenaCircles': WHATEVER THE INPUT: true; the input reads as it did. -/
def arenaCirclesSpec : ChangeSpec := { name := "arenaCircles", fn := fun _ => fun
  | [d1, d2, d3] => { results := [.lit (.bool true)], args := [d1, d2, d3] }
  | _ => none }
def arenaCirclesRow : OpenClaim := { program := "ythcdhiknjpfmhaa", sum := "d1ba3c603a60c61c9b0f97c5b50ec34745cf72436eb78288209c5d1912391ef7", func := "ossuary/ossuarylaw04.ArenaCircles", spec := "arenaCircles", unfollowed := true, recurses := true, apart := false }
def ArenaCirclesSaid : Prop := arenaCirclesRow.holds Try.pinned (OpenSpec.ofChange arenaCirclesSpec)

/-- ITS FALSE NEIGHBOUR: 'it returns false'. Refute it at one input. -/
def arenaCirclesWrong : ChangeSpec := { name := "arenaCircles", fn := fun _ => fun
  | [d1, d2, d3] => { results := [.lit (.bool false)], args := [d1, d2, d3] }
  | _ => none }
def ArenaCirclesWrongFalsely : Prop := arenaCirclesRow.holds Try.pinned (OpenSpec.ofChange arenaCirclesWrong)

/-- 'ossuarylaw04.ArenaKeeps': WHATEVER THE INPUT: true; the input reads as it did. -/
def arenaKeepsSpec : ChangeSpec := { name := "arenaKeeps", fn := fun _ => fun
  | [d1, d2] => { results := [.lit (.bool true)], args := [d1, d2] }
  | _ => none }
def arenaKeepsRow : OpenClaim := { program := "ythcdhiknjpfmhaa", sum := "d1ba3c603a60c61c9b0f97c5b50ec34745cf72436eb78288209c5d1912391ef7", func := "ossuary/ossuarylaw04.ArenaKeeps", spec := "arenaKeeps", unfollowed := true, recurses := true, apart := false }
def ArenaKeepsSaid : Prop := arenaKeepsRow.holds Try.pinned (OpenSpec.ofChange arenaKeepsSpec)

/-- ITS FALSE NEIGHBOUR: 'it returns false'. Refute it at one input. -/
def arenaKeepsWrong : ChangeSpec := { name := "arenaKeeps", fn := fun _ => fun
  | [d1, d2] => { results := [.lit (.bool false)], args := [d1, d2] }
  | _ => none }
def ArenaKeepsWrongFalsely : Prop := arenaKeepsRow.holds Try.pinned (OpenSpec.ofChange arenaKeepsWrong)

/-- 'ossuarylaw04.ArenaNone': WHATEVER THE INPUT: true; the input reads as it did. -/
def arenaNoneSpec : ChangeSpec := { name := "arenaNone", fn := fun _ => fun
  | [d] => { results := [.lit (.bool true)], args := [d] }
  | _ => none }
def arenaNoneRow : OpenClaim := { program := "ythcdhiknjpfmhaa", sum := "d1ba3c603a60c61c9b0f97c5b50ec34745cf72436eb78288209c5d1912391ef7", func := "ossuary/ossuarylaw04.ArenaNone", spec := "arenaNone", unfollowed := true, recurses := true, apart := false }
def ArenaNoneSaid : Prop := arenaNoneRow.holds Try.pinned (OpenSpec.ofChange arenaNoneSpec)

/-- ITS FALSE NEIGHBOUR: 'it returns false'. Refute it at one input. -/
def arenaNoneWrong : ChangeSpec := { name := "arenaNone", fn := fun _ => fun
  | [d] => { results := [.lit (.bool false)], args := [d] }
  | _ => none }
def ArenaNoneWrongFalsely : Prop := arenaNoneRow.holds Try.pinned (OpenSpec.ofChange arenaNoneWrong)

/- THE SECOND FORM. 'bulk': how many values and letters a reading holds, each counted each time it is reached (what is shared counts as often as it is met; a slice's spare places count too). A statement '..UptoSaid' is the law's where the arguments, and the package variables that the reading takes, are together of bulk at most 1048576: NARROWER than '..Said'. Prove '..Said' where nothing that the law and all that it calls make is longer than what came in: it says more and counts as full. Else prove '..UptoSaid'. A law counts once. -/
mutual
def uptoBulk {H : Type} : DataW H → Nat
  | .lit (.string bytes) => bytes.length + 1
  | .lit _ => 1
  | .nil => 1
  | .ptr d => uptoBulk d + 1
  | .slice elems spare => uptoBulkAll elems + uptoBulkAll spare + 1
  | .agg parts => uptoBulkAll parts + 1
  | .iface _ d => uptoBulk d + 1
  | .map entries => uptoBulkEntries entries + 1
  | .held _ => 1
def uptoBulkAll {H : Type} : List (DataW H) → Nat
  | [] => 0
  | d :: r => uptoBulk d + uptoBulkAll r
def uptoBulkEntries {H : Type} : List (Lit × DataW H) → Nat
  | [] => 0
  | x :: r => uptoBulkEntry x + uptoBulkEntries r
def uptoBulkEntry {H : Type} : Lit × DataW H → Nat
  | (.string bytes, d) => bytes.length + uptoBulk d + 1
  | (_, d) => uptoBulk d + 1
 end
def uptoSmall : (H : Type) → List (DataW H) → Bool := fun _ ds => decide (uptoBulkAll ds ≤ 1048576)
def OpenSpec.upto (s : _root_.Go.ChangeSpec) : _root_.Go.OpenSpec := { _root_.Go.OpenSpec.ofChange s with cond := some uptoSmall }

/-- 'ossuarylaw04.ArenaChains', WHERE WHAT IT READS IS OF BULK AT MOST 1048576: true; the input reads as it did. -/
def arenaChainsUptoRow : OpenClaim := { program := "ythcdhiknjpfmhaa", sum := "d1ba3c603a60c61c9b0f97c5b50ec34745cf72436eb78288209c5d1912391ef7", func := "ossuary/ossuarylaw04.ArenaChains", spec := "arenaChains", unfollowed := true, recurses := true, apart := false, narrowed := true }
def ArenaChainsUptoSaid : Prop := arenaChainsUptoRow.holds Try.pinned (OpenSpec.upto arenaChainsSpec)

/-- 'ossuarylaw04.ArenaReuses', WHERE WHAT IT READS IS OF BULK AT MOST 1048576: true; the input reads as it did. -/
def arenaReusesUptoRow : OpenClaim := { program := "ythcdhiknjpfmhaa", sum := "d1ba3c603a60c61c9b0f97c5b50ec34745cf72436eb78288209c5d1912391ef7", func := "ossuary/ossuarylaw04.ArenaReuses", spec := "arenaReuses", unfollowed := true, recurses := true, apart := false, narrowed := true }
def ArenaReusesUptoSaid : Prop := arenaReusesUptoRow.holds Try.pinned (OpenSpec.upto arenaReusesSpec)

/-- 'ossuarylaw04.ArenaCircles', WHERE WHAT IT READS IS OF BULK AT MOST 1048576: true; the input reads as it did. -/
def arenaCirclesUptoRow : OpenClaim := { program := "ythcdhiknjpfmhaa", sum := "d1ba3c603a60c61c9b0f97c5b50ec34745cf72436eb78288209c5d1912391ef7", func := "ossuary/ossuarylaw04.ArenaCircles", spec := "arenaCircles", unfollowed := true, recurses := true, apart := false, narrowed := true }
def ArenaCirclesUptoSaid : Prop := arenaCirclesUptoRow.holds Try.pinned (OpenSpec.upto arenaCirclesSpec)

/-- 'ossuarylaw04.ArenaKeeps', WHERE WHAT IT READS IS OF BULK AT MOST 1048576: true; the input reads as it did. -/
def arenaKeepsUptoRow : OpenClaim := { program := "ythcdhiknjpfmhaa", sum := "d1ba3c603a60c61c9b0f97c5b50ec34745cf72436eb78288209c5d1912391ef7", func := "ossuary/ossuarylaw04.ArenaKeeps", spec := "arenaKeeps", unfollowed := true, recurses := true, apart := false, narrowed := true }
def ArenaKeepsUptoSaid : Prop := arenaKeepsUptoRow.holds Try.pinned (OpenSpec.upto arenaKeepsSpec)

/-- 'ossuarylaw04.ArenaNone', WHERE WHAT IT READS IS OF BULK AT MOST 1048576: true; the input reads as it did. -/
def arenaNoneUptoRow : OpenClaim := { program := "ythcdhiknjpfmhaa", sum := "d1ba3c603a60c61c9b0f97c5b50ec34745cf72436eb78288209c5d1912391ef7", func := "ossuary/ossuarylaw04.ArenaNone", spec := "arenaNone", unfollowed := true, recurses := true, apart := false, narrowed := true }
def ArenaNoneUptoSaid : Prop := arenaNoneUptoRow.holds Try.pinned (OpenSpec.upto arenaNoneSpec)

end Rows
end Go.Proofs.Ythcdhiknjpfmhaa
