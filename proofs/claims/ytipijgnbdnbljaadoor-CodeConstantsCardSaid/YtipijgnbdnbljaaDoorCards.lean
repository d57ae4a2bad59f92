/-
  DERIVED. GIVEN WITH THE SEED: THE CARDS: each row of YtipijgnbdnbljaaDoorRows.lean that lists a variable, with what it lists TIED to the program's text (the seventh form; the later family's looks); each row that meets fmt, with fmt's text TOLD by the authors' own Lean function (tested against real Go, not proved from fmt's source: count such statements apart). THE CARD IS WHAT COUNTS. Prove the row's statement (the work); the ties are given (YtipijgnbdnbljaaDoorTie.lean); close each card by the builder's one call (the guide's Derived/Test/ToyasCard.lean, 'card_holds'). Laid BY PROGRAM, IN A SANDBOX (cutbox-door.mjs). By AI agents, Wed Nov 11 2026. No macro, syntax, notation, axiom, sorry.
-/
import Derived.Test.YtipijgnbdnbljaaDoorRows
import GoSem.ClaimSeven
namespace Go.Proofs.YtipijgnbdnbljaaDoor
namespace Rows

/-- THE TIED CARD OF 'ossuarylaw11.CodeOperators'. -/
def codeOperatorsCard : Claim7 := { stood := { row := codeOperatorsRow, standIns := [], harness := (true, "5e4cc286c505972a0181a9027e6945e6c0c88cd87940ece7f2d296224588074b"), looks := false }, kinds := [], alts := [], laidByText := true, laidKinds := [.listed, .data], laidTests := true, laidLooks := .later }
def CodeOperatorsCardSaid : Prop := Claim7.holds Tryd.pinned (.plain (OpenSpec.ofChange codeOperatorsSpec)) codeOperatorsCard

/-- THE TIED CARD OF 'ossuarylaw11.CodeRight'. -/
def codeRightCard : Claim7 := { stood := { row := codeRightRow, standIns := [], harness := (true, "5e4cc286c505972a0181a9027e6945e6c0c88cd87940ece7f2d296224588074b"), looks := false }, kinds := [], alts := [], laidByText := true, laidKinds := [.listed, .data], laidTests := true, laidLooks := .later }
def CodeRightCardSaid : Prop := Claim7.holds Tryd.pinned (.plain (OpenSpec.ofChange codeRightSpec)) codeRightCard

/-- THE TIED CARD OF 'ossuarylaw11.CodeConstants'. -/
def codeConstantsCard : Claim7 := { stood := { row := codeConstantsRow, standIns := [], harness := (true, "5e4cc286c505972a0181a9027e6945e6c0c88cd87940ece7f2d296224588074b"), looks := false }, kinds := [], alts := [], laidByText := true, laidKinds := [.listed, .data], laidTests := true, laidLooks := .later }
def CodeConstantsCardSaid : Prop := Claim7.holds Tryd.pinned (.plain (OpenSpec.ofChange codeConstantsSpec)) codeConstantsCard

/-- THE TIED CARD OF 'ossuarylaw11.CodeNames'. -/
def codeNamesCard : Claim7 := { stood := { row := codeNamesRow, standIns := [], harness := (true, "5e4cc286c505972a0181a9027e6945e6c0c88cd87940ece7f2d296224588074b"), looks := false }, kinds := [], alts := [], laidByText := true, laidKinds := [.data, .data, .data, .listed, .data], laidTests := true, laidLooks := .later }
def CodeNamesCardSaid : Prop := Claim7.holds Tryd.pinned (.plain (OpenSpec.ofChange codeNamesSpec)) codeNamesCard

/-- THE SECOND FORM's CARD OF 'ossuarylaw11.CodeOperators'. -/
def codeOperatorsUptoCard : Claim7 := { stood := { row := codeOperatorsUptoRow, standIns := [], harness := (true, "5e4cc286c505972a0181a9027e6945e6c0c88cd87940ece7f2d296224588074b"), looks := false }, kinds := [], alts := [], laidByText := true, laidKinds := [.listed, .data], laidTests := true, laidLooks := .later }
def CodeOperatorsUptoCardSaid : Prop := Claim7.holds Tryd.pinned (.plain (OpenSpec.upto codeOperatorsSpec)) codeOperatorsUptoCard

/-- THE SECOND FORM's CARD OF 'ossuarylaw11.CodeRight'. -/
def codeRightUptoCard : Claim7 := { stood := { row := codeRightUptoRow, standIns := [], harness := (true, "5e4cc286c505972a0181a9027e6945e6c0c88cd87940ece7f2d296224588074b"), looks := false }, kinds := [], alts := [], laidByText := true, laidKinds := [.listed, .data], laidTests := true, laidLooks := .later }
def CodeRightUptoCardSaid : Prop := Claim7.holds Tryd.pinned (.plain (OpenSpec.upto codeRightSpec)) codeRightUptoCard

/-- THE SECOND FORM's CARD OF 'ossuarylaw11.CodeConstants'. -/
def codeConstantsUptoCard : Claim7 := { stood := { row := codeConstantsUptoRow, standIns := [], harness := (true, "5e4cc286c505972a0181a9027e6945e6c0c88cd87940ece7f2d296224588074b"), looks := false }, kinds := [], alts := [], laidByText := true, laidKinds := [.listed, .data], laidTests := true, laidLooks := .later }
def CodeConstantsUptoCardSaid : Prop := Claim7.holds Tryd.pinned (.plain (OpenSpec.upto codeConstantsSpec)) codeConstantsUptoCard

/-- THE SECOND FORM's CARD OF 'ossuarylaw11.CodeNames'. -/
def codeNamesUptoCard : Claim7 := { stood := { row := codeNamesUptoRow, standIns := [], harness := (true, "5e4cc286c505972a0181a9027e6945e6c0c88cd87940ece7f2d296224588074b"), looks := false }, kinds := [], alts := [], laidByText := true, laidKinds := [.data, .data, .data, .listed, .data], laidTests := true, laidLooks := .later }
def CodeNamesUptoCardSaid : Prop := Claim7.holds Tryd.pinned (.plain (OpenSpec.upto codeNamesSpec)) codeNamesUptoCard
end Rows
end Go.Proofs.YtipijgnbdnbljaaDoor
