/-
  DERIVED. GIVEN WITH THE SEED: THE CARDS: each row of YtdacpebijljckaaDoorRows.lean that lists a variable, with what it lists TIED to the program's text (the seventh form; the later family's looks); each row that meets fmt, with fmt's text TOLD by the authors' own Lean function (tested against real Go, not proved from fmt's source: count such statements apart). THE CARD IS WHAT COUNTS. Prove the row's statement (the work); the ties are given (YtdacpebijljckaaDoorTie.lean); close each card by the builder's one call (the guide's Derived/Test/ToyasCard.lean, 'card_holds'). Laid BY PROGRAM, IN A SANDBOX (cutbox-door.mjs). By AI agents, Wed Nov 11 2026. No macro, syntax, notation, axiom, sorry.
-/
import Derived.Test.YtdacpebijljckaaDoorRows
import GoSem.ClaimSeven
namespace Go.Proofs.YtdacpebijljckaaDoor
namespace Rows

/-- THE TIED CARD OF 'ossuarylaw01.NumInts'. -/
def numIntsCard : Claim7 := { stood := { row := numIntsRow, standIns := [], harness := (true, "a56c9e869b910b1952beed6d55f799ae788316d342f01d2d846857442f70a180"), looks := false }, kinds := [], alts := [], laidByText := true, laidKinds := [.data, .data, .data], laidTests := true, laidLooks := .later }
def NumIntsCardSaid : Prop := Claim7.holds Tryd.pinned (.plain (OpenSpec.ofChange numIntsSpec)) numIntsCard

/-- THE TIED CARD OF 'ossuarylaw01.NumSigns'. -/
def numSignsCard : Claim7 := { stood := { row := numSignsRow, standIns := [], harness := (true, "a56c9e869b910b1952beed6d55f799ae788316d342f01d2d846857442f70a180"), looks := false }, kinds := [], alts := [], laidByText := true, laidKinds := [.data, .data, .data], laidTests := true, laidLooks := .later }
def NumSignsCardSaid : Prop := Claim7.holds Tryd.pinned (.plain (OpenSpec.ofChange numSignsSpec)) numSignsCard

/-- THE TIED CARD OF 'ossuarylaw01.NumOrder'. -/
def numOrderCard : Claim7 := { stood := { row := numOrderRow, standIns := [], harness := (true, "a56c9e869b910b1952beed6d55f799ae788316d342f01d2d846857442f70a180"), looks := false }, kinds := [], alts := [], laidByText := true, laidKinds := [.data, .data, .data], laidTests := true, laidLooks := .later }
def NumOrderCardSaid : Prop := Claim7.holds Tryd.pinned (.plain (OpenSpec.ofChange numOrderSpec)) numOrderCard

/-- THE TIED CARD OF 'ossuarylaw01.NumHolds'. -/
def numHoldsCard : Claim7 := { stood := { row := numHoldsRow, standIns := [], harness := (true, "a56c9e869b910b1952beed6d55f799ae788316d342f01d2d846857442f70a180"), looks := false }, kinds := [], alts := [], laidByText := true, laidKinds := [.data, .data, .data], laidTests := true, laidLooks := .later }
def NumHoldsCardSaid : Prop := Claim7.holds Tryd.pinned (.plain (OpenSpec.ofChange numHoldsSpec)) numHoldsCard

/-- THE TIED CARD OF 'ossuarylaw01.NumDoes'. -/
def numDoesCard : Claim7 := { stood := { row := numDoesRow, standIns := [], harness := (true, "a56c9e869b910b1952beed6d55f799ae788316d342f01d2d846857442f70a180"), looks := false }, kinds := [], alts := [], laidByText := true, laidKinds := [.data, .data, .data], laidTests := true, laidLooks := .later }
def NumDoesCardSaid : Prop := Claim7.holds Tryd.pinned (.plain (OpenSpec.ofChange numDoesSpec)) numDoesCard

/-- THE TIED CARD OF 'ossuarylaw01.NumParts'. -/
def numPartsCard : Claim7 := { stood := { row := numPartsRow, standIns := [], harness := (true, "a56c9e869b910b1952beed6d55f799ae788316d342f01d2d846857442f70a180"), looks := false }, kinds := [], alts := [], laidByText := true, laidKinds := [.data, .data, .data], laidTests := true, laidLooks := .later }
def NumPartsCardSaid : Prop := Claim7.holds Tryd.pinned (.plain (OpenSpec.ofChange numPartsSpec)) numPartsCard

/-- THE SECOND FORM's CARD OF 'ossuarylaw01.NumInts'. -/
def numIntsUptoCard : Claim7 := { stood := { row := numIntsUptoRow, standIns := [], harness := (true, "a56c9e869b910b1952beed6d55f799ae788316d342f01d2d846857442f70a180"), looks := false }, kinds := [], alts := [], laidByText := true, laidKinds := [.data, .data, .data], laidTests := true, laidLooks := .later }
def NumIntsUptoCardSaid : Prop := Claim7.holds Tryd.pinned (.plain (OpenSpec.upto numIntsSpec)) numIntsUptoCard

/-- THE SECOND FORM's CARD OF 'ossuarylaw01.NumSigns'. -/
def numSignsUptoCard : Claim7 := { stood := { row := numSignsUptoRow, standIns := [], harness := (true, "a56c9e869b910b1952beed6d55f799ae788316d342f01d2d846857442f70a180"), looks := false }, kinds := [], alts := [], laidByText := true, laidKinds := [.data, .data, .data], laidTests := true, laidLooks := .later }
def NumSignsUptoCardSaid : Prop := Claim7.holds Tryd.pinned (.plain (OpenSpec.upto numSignsSpec)) numSignsUptoCard

/-- THE SECOND FORM's CARD OF 'ossuarylaw01.NumOrder'. -/
def numOrderUptoCard : Claim7 := { stood := { row := numOrderUptoRow, standIns := [], harness := (true, "a56c9e869b910b1952beed6d55f799ae788316d342f01d2d846857442f70a180"), looks := false }, kinds := [], alts := [], laidByText := true, laidKinds := [.data, .data, .data], laidTests := true, laidLooks := .later }
def NumOrderUptoCardSaid : Prop := Claim7.holds Tryd.pinned (.plain (OpenSpec.upto numOrderSpec)) numOrderUptoCard

/-- THE SECOND FORM's CARD OF 'ossuarylaw01.NumHolds'. -/
def numHoldsUptoCard : Claim7 := { stood := { row := numHoldsUptoRow, standIns := [], harness := (true, "a56c9e869b910b1952beed6d55f799ae788316d342f01d2d846857442f70a180"), looks := false }, kinds := [], alts := [], laidByText := true, laidKinds := [.data, .data, .data], laidTests := true, laidLooks := .later }
def NumHoldsUptoCardSaid : Prop := Claim7.holds Tryd.pinned (.plain (OpenSpec.upto numHoldsSpec)) numHoldsUptoCard

/-- THE SECOND FORM's CARD OF 'ossuarylaw01.NumDoes'. -/
def numDoesUptoCard : Claim7 := { stood := { row := numDoesUptoRow, standIns := [], harness := (true, "a56c9e869b910b1952beed6d55f799ae788316d342f01d2d846857442f70a180"), looks := false }, kinds := [], alts := [], laidByText := true, laidKinds := [.data, .data, .data], laidTests := true, laidLooks := .later }
def NumDoesUptoCardSaid : Prop := Claim7.holds Tryd.pinned (.plain (OpenSpec.upto numDoesSpec)) numDoesUptoCard

/-- THE SECOND FORM's CARD OF 'ossuarylaw01.NumParts'. -/
def numPartsUptoCard : Claim7 := { stood := { row := numPartsUptoRow, standIns := [], harness := (true, "a56c9e869b910b1952beed6d55f799ae788316d342f01d2d846857442f70a180"), looks := false }, kinds := [], alts := [], laidByText := true, laidKinds := [.data, .data, .data], laidTests := true, laidLooks := .later }
def NumPartsUptoCardSaid : Prop := Claim7.holds Tryd.pinned (.plain (OpenSpec.upto numPartsSpec)) numPartsUptoCard
end Rows
end Go.Proofs.YtdacpebijljckaaDoor
