/-
  No cell of these rows narrows 'for every input' (looked for: loops, veiled, ifaces, maps, wideKeys, modest, calm, conditions, laid).
  DERIVED. THE GIVEN ROWS OF THIS SEAT. 6 by the template 'for every input the law returns true; each argument reads behind the call as it read before'; 0 by the template 'total and deterministic' (their statements: YtnkddcebhffidaaTotals.lean).
  GIVEN WITH THE SEED: the statements are not yours to turn. If you find one false, say at which input.
  Laid BY PROGRAM, IN A SANDBOX (cutbox-rows.mjs): the forced cells as the released guide's own fill.sh prints them over the translation 4d07f174b8ce1338… (all of the seat's roots in one cut). By AI agents, Wed Nov 11 2026. No macro, syntax, notation, axiom, sorry.
-/
import Derived.Test.YtnkddcebhffidaaChecked
import GoSem.Claim
import GoSem.ClaimJoined
import GoSem.ClaimMapViews
import Derived.JoinedTies
import Derived.KernelRfl
namespace Go.Proofs.Ytnkddcebhffidaa
/- THE CELL 'sum', in the pinned program and in every row, IS THE sha256 OF THE DUMP (.gsa) THAT YtnkddcebhffidaaProg.lean LOADS. Nothing in Lean hashes anything: it is a label: what it is worth is what the hold of that sum in a sandbox is worth. -/
noncomputable def Try.pinned : Pinned := { name := "ytnkddcebhffidaa", sum := "4d07f174b8ce13384b1058b3e7c9e7b04d604dc4aeb5652a26d16906f9f124e4", checked := Try.checked }
namespace Rows
def none {H : Type} : Left H := { results := [], args := [] }

/-- 'ossuarylaw02.TextPlaces': WHATEVER THE INPUT: true; the input reads as it did. -/
def textPlacesSpec : ChangeSpec := { name := "textPlaces", fn := fun _ => fun
  | [d] => { results := [.lit (.bool true)], args := [d] }
  | _ => none }
def textPlacesRow : OpenClaim := { program := "ytnkddcebhffidaa", sum := "4d07f174b8ce13384b1058b3e7c9e7b04d604dc4aeb5652a26d16906f9f124e4", func := "ossuary/ossuarylaw02.TextPlaces", spec := "textPlaces", inPlace := ["internal/abi.NoEscape"], apart := false }
def TextPlacesSaid : Prop := textPlacesRow.holds Try.pinned (OpenSpec.ofChange textPlacesSpec)

/-- ITS FALSE NEIGHBOUR: 'it returns false'. Refute it at one input. -/
def textPlacesWrong : ChangeSpec := { name := "textPlaces", fn := fun _ => fun
  | [d] => { results := [.lit (.bool false)], args := [d] }
  | _ => none }
def TextPlacesWrongFalsely : Prop := textPlacesRow.holds Try.pinned (OpenSpec.ofChange textPlacesWrong)

/-- 'ossuarylaw02.TextLong': WHATEVER THE INPUT: true; the input reads as it did. -/
def textLongSpec : ChangeSpec := { name := "textLong", fn := fun _ => fun
  | [d] => { results := [.lit (.bool true)], args := [d] }
  | _ => none }
def textLongRow : OpenClaim := { program := "ytnkddcebhffidaa", sum := "4d07f174b8ce13384b1058b3e7c9e7b04d604dc4aeb5652a26d16906f9f124e4", func := "ossuary/ossuarylaw02.TextLong", spec := "textLong", inPlace := ["internal/abi.NoEscape"], apart := false }
def TextLongSaid : Prop := textLongRow.holds Try.pinned (OpenSpec.ofChange textLongSpec)

/-- ITS FALSE NEIGHBOUR: 'it returns false'. Refute it at one input. -/
def textLongWrong : ChangeSpec := { name := "textLong", fn := fun _ => fun
  | [d] => { results := [.lit (.bool false)], args := [d] }
  | _ => none }
def TextLongWrongFalsely : Prop := textLongRow.holds Try.pinned (OpenSpec.ofChange textLongWrong)

/-- 'ossuarylaw02.TextParts': WHATEVER THE INPUT: true; the input reads as it did. -/
def textPartsSpec : ChangeSpec := { name := "textParts", fn := fun _ => fun
  | [d1, d2, d3] => { results := [.lit (.bool true)], args := [d1, d2, d3] }
  | _ => none }
def textPartsRow : OpenClaim := { program := "ytnkddcebhffidaa", sum := "4d07f174b8ce13384b1058b3e7c9e7b04d604dc4aeb5652a26d16906f9f124e4", func := "ossuary/ossuarylaw02.TextParts", spec := "textParts", inPlace := ["internal/abi.NoEscape", "internal/bytealg.abigen_runtime_cmpstring"], apart := false }
def TextPartsSaid : Prop := textPartsRow.holds Try.pinned (OpenSpec.ofChange textPartsSpec)

/-- ITS FALSE NEIGHBOUR: 'it returns false'. Refute it at one input. -/
def textPartsWrong : ChangeSpec := { name := "textParts", fn := fun _ => fun
  | [d1, d2, d3] => { results := [.lit (.bool false)], args := [d1, d2, d3] }
  | _ => none }
def TextPartsWrongFalsely : Prop := textPartsRow.holds Try.pinned (OpenSpec.ofChange textPartsWrong)

/-- 'ossuarylaw02.TextValues': WHATEVER THE INPUT: true; the input reads as it did. -/
def textValuesSpec : ChangeSpec := { name := "textValues", fn := fun _ => fun
  | [d1, d2] => { results := [.lit (.bool true)], args := [d1, d2] }
  | _ => none }
def textValuesRow : OpenClaim := { program := "ytnkddcebhffidaa", sum := "4d07f174b8ce13384b1058b3e7c9e7b04d604dc4aeb5652a26d16906f9f124e4", func := "ossuary/ossuarylaw02.TextValues", spec := "textValues", inPlace := ["internal/abi.NoEscape", "internal/bytealg.abigen_runtime_cmpstring"], apart := false }
def TextValuesSaid : Prop := textValuesRow.holds Try.pinned (OpenSpec.ofChange textValuesSpec)

/-- ITS FALSE NEIGHBOUR: 'it returns false'. Refute it at one input. -/
def textValuesWrong : ChangeSpec := { name := "textValues", fn := fun _ => fun
  | [d1, d2] => { results := [.lit (.bool false)], args := [d1, d2] }
  | _ => none }
def TextValuesWrongFalsely : Prop := textValuesRow.holds Try.pinned (OpenSpec.ofChange textValuesWrong)

/-- 'ossuarylaw02.TextSigns': WHATEVER THE INPUT: true; the input reads as it did. -/
def textSignsSpec : ChangeSpec := { name := "textSigns", fn := fun _ => fun
  | [d1, d2] => { results := [.lit (.bool true)], args := [d1, d2] }
  | _ => none }
def textSignsRow : OpenClaim := { program := "ytnkddcebhffidaa", sum := "4d07f174b8ce13384b1058b3e7c9e7b04d604dc4aeb5652a26d16906f9f124e4", func := "ossuary/ossuarylaw02.TextSigns", spec := "textSigns", inPlace := ["internal/abi.NoEscape"], unfollowed := true, recurses := true, apart := false }
def TextSignsSaid : Prop := textSignsRow.holds Try.pinned (OpenSpec.ofChange textSignsSpec)

/-- ITS FALSE NEIGHBOUR: 'it returns false'. Refute it at one input. -/
def textSignsWrong : ChangeSpec := { name := "textSigns", fn := fun _ => fun
  | [d1, d2] => { results := [.lit (.bool false)], args := [d1, d2] }
  | _ => none }
def TextSignsWrongFalsely : Prop := textSignsRow.holds Try.pinned (OpenSpec.ofChange textSignsWrong)

/-- 'ossuarylaw02.TextGo': WHATEVER THE INPUT: true; the input reads as it did. -/
def textGoSpec : ChangeSpec := { name := "textGo", fn := fun _ => fun
  | [d1, d2] => { results := [.lit (.bool true)], args := [d1, d2] }
  | _ => none }
def textGoRow : OpenClaim := { program := "ytnkddcebhffidaa", sum := "4d07f174b8ce13384b1058b3e7c9e7b04d604dc4aeb5652a26d16906f9f124e4", func := "ossuary/ossuarylaw02.TextGo", spec := "textGo", inPlace := ["internal/abi.NoEscape"], unfollowed := true, recurses := true, apart := false }
def TextGoSaid : Prop := textGoRow.holds Try.pinned (OpenSpec.ofChange textGoSpec)

/-- ITS FALSE NEIGHBOUR: 'it returns false'. Refute it at one input. -/
def textGoWrong : ChangeSpec := { name := "textGo", fn := fun _ => fun
  | [d1, d2] => { results := [.lit (.bool false)], args := [d1, d2] }
  | _ => none }
def TextGoWrongFalsely : Prop := textGoRow.holds Try.pinned (OpenSpec.ofChange textGoWrong)

/- THE SECOND FORM. 'bulk': how many values and letters a reading holds, each counted each time it is reached (what is shared counts as often as it is met; a slice's spare places count too). A statement '..UptoSaid' is the law's where the arguments, and the package variables that the reading takes, are together of bulk at most 1048576: NARROWER than '..Said'. Prove '..Said' where nothing that the law and all that it calls make is longer than what came in: it says more and counts as full. Else prove '..UptoSaid'. A law counts once. -/
mutual
def uptoBulk {H : Type} : DataW H → Nat
  | .lit (.string bytes) => bytes.length + 1
  | .lit _ => 1
  | .nil => 1
  | .ptr d => uptoBulk d + 1
  | .slice elems spare => uptoBulkAll elems + uptoBulkAll spare + 1
  | .agg parts => uptoBulkAll parts + 1
  | .iface _ d => uptoBulk d + 1
  | .map entries => uptoBulkEntries entries + 1
  | .held _ => 1
def uptoBulkAll {H : Type} : List (DataW H) → Nat
  | [] => 0
  | d :: r => uptoBulk d + uptoBulkAll r
def uptoBulkEntries {H : Type} : List (Lit × DataW H) → Nat
  | [] => 0
  | x :: r => uptoBulkEntry x + uptoBulkEntries r
def uptoBulkEntry {H : Type} : Lit × DataW H → Nat
  | (.string bytes, d) => bytes.length + uptoBulk d + 1
  | (_, d) => uptoBulk d + 1
 end
def uptoSmall : (H : Type) → List (DataW H) → Bool := fun _ ds => decide (uptoBulkAll ds ≤ 1048576)
def OpenSpec.upto (s : _root_.Go.ChangeSpec) : _root_.Go.OpenSpec := { _root_.Go.OpenSpec.ofChange s with cond := some uptoSmall }

/-- 'ossuarylaw02.TextPlaces', WHERE WHAT IT READS IS OF BULK AT MOST 1048576: true; the input reads as it did. -/
def textPlacesUptoRow : OpenClaim := { program := "ytnkddcebhffidaa", sum := "4d07f174b8ce13384b1058b3e7c9e7b04d604dc4aeb5652a26d16906f9f124e4", func := "ossuary/ossuarylaw02.TextPlaces", spec := "textPlaces", inPlace := ["internal/abi.NoEscape"], apart := false, narrowed := true }
def TextPlacesUptoSaid : Prop := textPlacesUptoRow.holds Try.pinned (OpenSpec.upto textPlacesSpec)

/-- 'ossuarylaw02.TextLong', WHERE WHAT IT READS IS OF BULK AT MOST 1048576: true; the input reads as it did. -/
def textLongUptoRow : OpenClaim := { program := "ytnkddcebhffidaa", sum := "4d07f174b8ce13384b1058b3e7c9e7b04d604dc4aeb5652a26d16906f9f124e4", func := "ossuary/ossuarylaw02.TextLong", spec := "textLong", inPlace := ["internal/abi.NoEscape"], apart := false, narrowed := true }
def TextLongUptoSaid : Prop := textLongUptoRow.holds Try.pinned (OpenSpec.upto textLongSpec)

/-- 'ossuarylaw02.TextParts', WHERE WHAT IT READS IS OF BULK AT MOST 1048576: true; the input reads as it did. -/
def textPartsUptoRow : OpenClaim := { program := "ytnkddcebhffidaa", sum := "4d07f174b8ce13384b1058b3e7c9e7b04d604dc4aeb5652a26d16906f9f124e4", func := "ossuary/ossuarylaw02.TextParts", spec := "textParts", inPlace := ["internal/abi.NoEscape", "internal/bytealg.abigen_runtime_cmpstring"], apart := false, narrowed := true }
def TextPartsUptoSaid : Prop := textPartsUptoRow.holds Try.pinned (OpenSpec.upto textPartsSpec)

/-- 'ossuarylaw02.TextValues', WHERE WHAT IT READS IS OF BULK AT MOST 1048576: true; the input reads as it did. -/
def textValuesUptoRow : OpenClaim := { program := "ytnkddcebhffidaa", sum := "4d07f174b8ce13384b1058b3e7c9e7b04d604dc4aeb5652a26d16906f9f124e4", func := "ossuary/ossuarylaw02.TextValues", spec := "textValues", inPlace := ["internal/abi.NoEscape", "internal/bytealg.abigen_runtime_cmpstring"], apart := false, narrowed := true }
def TextValuesUptoSaid : Prop := textValuesUptoRow.holds Try.pinned (OpenSpec.upto textValuesSpec)

/-- 'ossuarylaw02.TextSigns', WHERE WHAT IT READS IS OF BULK AT MOST 1048576: true; the input reads as it did. -/
def textSignsUptoRow : OpenClaim := { program := "ytnkddcebhffidaa", sum := "4d07f174b8ce13384b1058b3e7c9e7b04d604dc4aeb5652a26d16906f9f124e4", func := "ossuary/ossuarylaw02.TextSigns", spec := "textSigns", inPlace := ["internal/abi.NoEscape"], unfollowed := true, recurses := true, apart := false, narrowed := true }
def TextSignsUptoSaid : Prop := textSignsUptoRow.holds Try.pinned (OpenSpec.upto textSignsSpec)

/-- 'ossuarylaw02.TextGo', WHERE WHAT IT READS IS OF BULK AT MOST 1048576: true; the input reads as it did. -/
def textGoUptoRow : OpenClaim := { program := "ytnkddcebhffidaa", sum := "4d07f174b8ce13384b1058b3e7c9e7b04d604dc4aeb5652a26d16906f9f124e4", func := "ossuary/ossuarylaw02.TextGo", spec := "textGo", inPlace := ["internal/abi.NoEscape"], unfollowed := true, recurses := true, apart := false, narrowed := true }
def TextGoUptoSaid : Prop := textGoUptoRow.holds Try.pinned (OpenSpec.upto textGoSpec)

end Rows
end Go.Proofs.Ytnkddcebhffidaa
