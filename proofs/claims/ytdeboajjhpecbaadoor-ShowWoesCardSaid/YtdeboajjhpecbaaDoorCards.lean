/-
  DERIVED. GIVEN WITH THE SEED: THE CARDS: each row of YtdeboajjhpecbaaDoorRows.lean that lists a variable, with what it lists TIED to the program's text (the seventh form; the later family's looks); each row that meets fmt, with fmt's text TOLD by the authors' own Lean function (tested against real Go, not proved from fmt's source: count such statements apart). THE CARD IS WHAT COUNTS. Prove the row's statement (the work); the ties are given (YtdeboajjhpecbaaDoorTie.lean); close each card by the builder's one call (the guide's Derived/Test/ToyasCard.lean, 'card_holds'). Laid BY PROGRAM, IN A SANDBOX (cutbox-door.mjs). By AI agents, Wed Nov 11 2026. No macro, syntax, notation, axiom, sorry.
-/
import Derived.Test.YtdeboajjhpecbaaDoorRows
import GoSem.ClaimSeven
namespace Go.Proofs.YtdeboajjhpecbaaDoor
namespace Rows

/-- THE TIED CARD OF 'ossuarylaw14.ShowDeep'. -/
def showDeepCard : Claim7 := { stood := { row := showDeepRow, standIns := [], harness := (true, "049ec6df0b532464095168ba147898db2be20894f760ea6cd05727dc36171c92"), looks := true }, kinds := [], alts := [], laidByText := true, laidKinds := [.data, .data, .data, .listed, .data, .data], laidTests := true, laidLooks := .later }
def ShowDeepCardSaid : Prop := Claim7.holds Tryd.pinned (.plain (OpenSpec.ofChange showDeepSpec)) showDeepCard

/-- THE TIED CARD OF 'ossuarylaw14.ShowWoes'. -/
def showWoesCard : Claim7 := { stood := { row := showWoesRow, standIns := [], harness := (true, "049ec6df0b532464095168ba147898db2be20894f760ea6cd05727dc36171c92"), looks := true }, kinds := [], alts := [], laidByText := true, laidKinds := [.data, .data, .data, .listed, .data, .data], laidTests := true, laidLooks := .later }
def ShowWoesCardSaid : Prop := Claim7.holds Tryd.pinned (.plain (OpenSpec.ofChange showWoesSpec)) showWoesCard

/-- THE TIED CARD OF 'ossuarylaw14.ShowFunctions'. -/
def showFunctionsCard : Claim7 := { stood := { row := showFunctionsRow, standIns := [], harness := (true, "049ec6df0b532464095168ba147898db2be20894f760ea6cd05727dc36171c92"), looks := true }, kinds := [], alts := [], laidByText := true, laidKinds := [.data, .data, .data, .listed, .data, .data], laidTests := true, laidLooks := .later }
def ShowFunctionsCardSaid : Prop := Claim7.holds Tryd.pinned (.plain (OpenSpec.ofChange showFunctionsSpec)) showFunctionsCard

/-- THE SECOND FORM's CARD OF 'ossuarylaw14.ShowDeep'. -/
def showDeepUptoCard : Claim7 := { stood := { row := showDeepUptoRow, standIns := [], harness := (true, "049ec6df0b532464095168ba147898db2be20894f760ea6cd05727dc36171c92"), looks := true }, kinds := [], alts := [], laidByText := true, laidKinds := [.data, .data, .data, .listed, .data, .data], laidTests := true, laidLooks := .later }
def ShowDeepUptoCardSaid : Prop := Claim7.holds Tryd.pinned (.plain (OpenSpec.upto showDeepSpec)) showDeepUptoCard

/-- THE SECOND FORM's CARD OF 'ossuarylaw14.ShowWoes'. -/
def showWoesUptoCard : Claim7 := { stood := { row := showWoesUptoRow, standIns := [], harness := (true, "049ec6df0b532464095168ba147898db2be20894f760ea6cd05727dc36171c92"), looks := true }, kinds := [], alts := [], laidByText := true, laidKinds := [.data, .data, .data, .listed, .data, .data], laidTests := true, laidLooks := .later }
def ShowWoesUptoCardSaid : Prop := Claim7.holds Tryd.pinned (.plain (OpenSpec.upto showWoesSpec)) showWoesUptoCard

/-- THE SECOND FORM's CARD OF 'ossuarylaw14.ShowFunctions'. -/
def showFunctionsUptoCard : Claim7 := { stood := { row := showFunctionsUptoRow, standIns := [], harness := (true, "049ec6df0b532464095168ba147898db2be20894f760ea6cd05727dc36171c92"), looks := true }, kinds := [], alts := [], laidByText := true, laidKinds := [.data, .data, .data, .listed, .data, .data], laidTests := true, laidLooks := .later }
def ShowFunctionsUptoCardSaid : Prop := Claim7.holds Tryd.pinned (.plain (OpenSpec.upto showFunctionsSpec)) showFunctionsUptoCard
end Rows
end Go.Proofs.YtdeboajjhpecbaaDoor
