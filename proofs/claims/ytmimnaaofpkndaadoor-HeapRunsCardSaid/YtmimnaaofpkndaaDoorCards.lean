/-
  DERIVED. GIVEN WITH THE SEED: THE CARDS: each row of YtmimnaaofpkndaaDoorRows.lean that lists a variable, with what it lists TIED to the program's text (the seventh form; the later family's looks); each row that meets fmt, with fmt's text TOLD by the authors' own Lean function (tested against real Go, not proved from fmt's source: count such statements apart). THE CARD IS WHAT COUNTS. Prove the row's statement (the work); the ties are given (YtmimnaaofpkndaaDoorTie.lean); close each card by the builder's one call (the guide's Derived/Test/ToyasCard.lean, 'card_holds'). Laid BY PROGRAM, IN A SANDBOX (cutbox-door.mjs). By AI agents, Wed Nov 11 2026. No macro, syntax, notation, axiom, sorry.
-/
import Derived.Test.YtmimnaaofpkndaaDoorRows
import GoSem.ClaimSeven
namespace Go.Proofs.YtmimnaaofpkndaaDoor
namespace Rows

/-- THE TIED CARD OF 'ossuarylaw10.HeapChains'. -/
def heapChainsCard : Claim7 := { stood := { row := heapChainsRow, standIns := [], harness := (true, "6f2d7f24a1df90ba00c454105e3e5c6273a43981a241b4c2af8ac725a749f2de"), looks := true }, kinds := [], alts := [], laidByText := true, laidKinds := [.data], laidTests := true, laidLooks := .later }
def HeapChainsCardSaid : Prop := Claim7.holds Tryd.pinned (.plain (OpenSpec.ofChange heapChainsSpec)) heapChainsCard

/-- THE TIED CARD OF 'ossuarylaw10.HeapLengths'. -/
def heapLengthsCard : Claim7 := { stood := { row := heapLengthsRow, standIns := [], harness := (true, "6f2d7f24a1df90ba00c454105e3e5c6273a43981a241b4c2af8ac725a749f2de"), looks := true }, kinds := [], alts := [], laidByText := true, laidKinds := [.data], laidTests := true, laidLooks := .later }
def HeapLengthsCardSaid : Prop := Claim7.holds Tryd.pinned (.plain (OpenSpec.ofChange heapLengthsSpec)) heapLengthsCard

/-- THE TIED CARD OF 'ossuarylaw10.HeapScopes'. -/
def heapScopesCard : Claim7 := { stood := { row := heapScopesRow, standIns := [], harness := (true, "6f2d7f24a1df90ba00c454105e3e5c6273a43981a241b4c2af8ac725a749f2de"), looks := true }, kinds := [], alts := [], laidByText := true, laidKinds := [.data], laidTests := true, laidLooks := .later }
def HeapScopesCardSaid : Prop := Claim7.holds Tryd.pinned (.plain (OpenSpec.ofChange heapScopesSpec)) heapScopesCard

/-- THE TIED CARD OF 'ossuarylaw10.HeapWeak'. -/
def heapWeakCard : Claim7 := { stood := { row := heapWeakRow, standIns := [], harness := (true, "6f2d7f24a1df90ba00c454105e3e5c6273a43981a241b4c2af8ac725a749f2de"), looks := true }, kinds := [], alts := [], laidByText := true, laidKinds := [.data], laidTests := true, laidLooks := .later }
def HeapWeakCardSaid : Prop := Claim7.holds Tryd.pinned (.plain (OpenSpec.ofChange heapWeakSpec)) heapWeakCard

/-- THE TIED CARD OF 'ossuarylaw10.HeapRuns'. -/
def heapRunsCard : Claim7 := { stood := { row := heapRunsRow, standIns := [], harness := (true, "6f2d7f24a1df90ba00c454105e3e5c6273a43981a241b4c2af8ac725a749f2de"), looks := true }, kinds := [], alts := [], laidByText := true, laidKinds := [.data, .data, .data, .data, .data, .pinned], laidTests := true, laidLooks := .later }
def HeapRunsCardSaid : Prop := Claim7.holds Tryd.pinned (.plain (OpenSpec.ofChange heapRunsSpec)) heapRunsCard

/-- THE SECOND FORM's CARD OF 'ossuarylaw10.HeapChains'. -/
def heapChainsUptoCard : Claim7 := { stood := { row := heapChainsUptoRow, standIns := [], harness := (true, "6f2d7f24a1df90ba00c454105e3e5c6273a43981a241b4c2af8ac725a749f2de"), looks := true }, kinds := [], alts := [], laidByText := true, laidKinds := [.data], laidTests := true, laidLooks := .later }
def HeapChainsUptoCardSaid : Prop := Claim7.holds Tryd.pinned (.plain (OpenSpec.upto heapChainsSpec)) heapChainsUptoCard

/-- THE SECOND FORM's CARD OF 'ossuarylaw10.HeapLengths'. -/
def heapLengthsUptoCard : Claim7 := { stood := { row := heapLengthsUptoRow, standIns := [], harness := (true, "6f2d7f24a1df90ba00c454105e3e5c6273a43981a241b4c2af8ac725a749f2de"), looks := true }, kinds := [], alts := [], laidByText := true, laidKinds := [.data], laidTests := true, laidLooks := .later }
def HeapLengthsUptoCardSaid : Prop := Claim7.holds Tryd.pinned (.plain (OpenSpec.upto heapLengthsSpec)) heapLengthsUptoCard

/-- THE SECOND FORM's CARD OF 'ossuarylaw10.HeapScopes'. -/
def heapScopesUptoCard : Claim7 := { stood := { row := heapScopesUptoRow, standIns := [], harness := (true, "6f2d7f24a1df90ba00c454105e3e5c6273a43981a241b4c2af8ac725a749f2de"), looks := true }, kinds := [], alts := [], laidByText := true, laidKinds := [.data], laidTests := true, laidLooks := .later }
def HeapScopesUptoCardSaid : Prop := Claim7.holds Tryd.pinned (.plain (OpenSpec.upto heapScopesSpec)) heapScopesUptoCard

/-- THE SECOND FORM's CARD OF 'ossuarylaw10.HeapWeak'. -/
def heapWeakUptoCard : Claim7 := { stood := { row := heapWeakUptoRow, standIns := [], harness := (true, "6f2d7f24a1df90ba00c454105e3e5c6273a43981a241b4c2af8ac725a749f2de"), looks := true }, kinds := [], alts := [], laidByText := true, laidKinds := [.data], laidTests := true, laidLooks := .later }
def HeapWeakUptoCardSaid : Prop := Claim7.holds Tryd.pinned (.plain (OpenSpec.upto heapWeakSpec)) heapWeakUptoCard

/-- THE SECOND FORM's CARD OF 'ossuarylaw10.HeapRuns'. -/
def heapRunsUptoCard : Claim7 := { stood := { row := heapRunsUptoRow, standIns := [], harness := (true, "6f2d7f24a1df90ba00c454105e3e5c6273a43981a241b4c2af8ac725a749f2de"), looks := true }, kinds := [], alts := [], laidByText := true, laidKinds := [.data, .data, .data, .data, .data, .pinned], laidTests := true, laidLooks := .later }
def HeapRunsUptoCardSaid : Prop := Claim7.holds Tryd.pinned (.plain (OpenSpec.upto heapRunsSpec)) heapRunsUptoCard
end Rows
end Go.Proofs.YtmimnaaofpkndaaDoor
