/-
  DERIVED. GIVEN WITH THE SEED: THE CARDS: each row of YtdeboajjhpecbaaGreatDoorRows.lean that lists a variable, with what it lists TIED to the program's text (the seventh form; the later family's looks); each row that meets fmt, with fmt's text TOLD by the authors' own Lean function (tested against real Go, not proved from fmt's source: count such statements apart). THE CARD IS WHAT COUNTS. Prove the row's statement (the work); the ties are given (YtdeboajjhpecbaaGreatDoorTie.lean); close each card by the builder's one call (the guide's Derived/Test/ToyasCard.lean, 'card_holds'). Laid BY PROGRAM, IN A SANDBOX (cutbox-door.mjs). By AI agents, Wed Nov 11 2026. No macro, syntax, notation, axiom, sorry.
-/
import Derived.Test.YtdeboajjhpecbaaGreatDoorRows
import GoSem.ClaimSeven
namespace Go.Proofs.YtdeboajjhpecbaaGreatDoor
namespace Rows

/-- THE TIED CARD OF 'ossuarylaw14.ShowValues'. -/
def showValuesCard : Claim7 := { stood := { row := showValuesRow, standIns := [], harness := (true, "ffecfd8309d4c39f4271d4991e10633ab0b602c552fc5ab811c8f3fd7380d012"), looks := true }, kinds := [], alts := [], laidByText := true, laidKinds := [.data, .data, .data, .data, .listed, .data, .data, .pinned], laidTests := true, laidLooks := .later }
def ShowValuesCardSaid : Prop := Claim7.holds Tryz.pinned (.plain (OpenSpec.ofChange showValuesSpec)) showValuesCard

/-- THE TIED CARD OF 'ossuarylaw14.ShowKinds'. -/
def showKindsCard : Claim7 := { stood := { row := showKindsRow, standIns := [], harness := (true, "ffecfd8309d4c39f4271d4991e10633ab0b602c552fc5ab811c8f3fd7380d012"), looks := true }, kinds := [], alts := [], laidByText := true, laidKinds := [.data, .data, .data, .data, .listed, .data, .data, .pinned], laidTests := true, laidLooks := .later }
def ShowKindsCardSaid : Prop := Claim7.holds Tryz.pinned (.plain (OpenSpec.ofChange showKindsSpec)) showKindsCard

/-- THE SECOND FORM's CARD OF 'ossuarylaw14.ShowValues'. -/
def showValuesUptoCard : Claim7 := { stood := { row := showValuesUptoRow, standIns := [], harness := (true, "ffecfd8309d4c39f4271d4991e10633ab0b602c552fc5ab811c8f3fd7380d012"), looks := true }, kinds := [], alts := [], laidByText := true, laidKinds := [.data, .data, .data, .data, .listed, .data, .data, .pinned], laidTests := true, laidLooks := .later }
def ShowValuesUptoCardSaid : Prop := Claim7.holds Tryz.pinned (.plain (OpenSpec.upto showValuesSpec)) showValuesUptoCard

/-- THE SECOND FORM's CARD OF 'ossuarylaw14.ShowKinds'. -/
def showKindsUptoCard : Claim7 := { stood := { row := showKindsUptoRow, standIns := [], harness := (true, "ffecfd8309d4c39f4271d4991e10633ab0b602c552fc5ab811c8f3fd7380d012"), looks := true }, kinds := [], alts := [], laidByText := true, laidKinds := [.data, .data, .data, .data, .listed, .data, .data, .pinned], laidTests := true, laidLooks := .later }
def ShowKindsUptoCardSaid : Prop := Claim7.holds Tryz.pinned (.plain (OpenSpec.upto showKindsSpec)) showKindsUptoCard
end Rows
end Go.Proofs.YtdeboajjhpecbaaGreatDoor
