/-
  DERIVED. GIVEN WITH THE SEED: THE CARDS: each row of YtjkboelcpihphaaDoorRows.lean that lists a variable, with what it lists TIED to the program's text (the seventh form; the later family's looks); each row that meets fmt, with fmt's text TOLD by the authors' own Lean function (tested against real Go, not proved from fmt's source: count such statements apart). THE CARD IS WHAT COUNTS. Prove the row's statement (the work); the ties are given (YtjkboelcpihphaaDoorTie.lean); close each card by the builder's one call (the guide's Derived/Test/ToyasCard.lean, 'card_holds'). Laid BY PROGRAM, IN A SANDBOX (cutbox-door.mjs). By AI agents, Wed Nov 11 2026. No macro, syntax, notation, axiom, sorry.
-/
import Derived.Test.YtjkboelcpihphaaDoorRows
import GoSem.ClaimSeven
namespace Go.Proofs.YtjkboelcpihphaaDoor
namespace Rows

/-- THE TIED CARD OF 'ossuarylaw03.ValueOrder'. -/
def valueOrderCard : Claim7 := { stood := { row := valueOrderRow, standIns := [], harness := (true, "b945511eb7a423bf678f4ec340593fb3f7d62fd6af626f0fead4692072aaab9d"), looks := false }, kinds := [], alts := [], laidByText := true, laidKinds := [.data, .data, .data], laidTests := true, laidLooks := .later }
def ValueOrderCardSaid : Prop := Claim7.holds Tryd.pinned (.plain (OpenSpec.ofChange valueOrderSpec)) valueOrderCard

/-- THE TIED CARD OF 'ossuarylaw03.ValueJoins'. -/
def valueJoinsCard : Claim7 := { stood := { row := valueJoinsRow, standIns := [], harness := (true, "b945511eb7a423bf678f4ec340593fb3f7d62fd6af626f0fead4692072aaab9d"), looks := false }, kinds := [], alts := [], laidByText := true, laidKinds := [.data, .data, .data], laidTests := true, laidLooks := .later }
def ValueJoinsCardSaid : Prop := Claim7.holds Tryd.pinned (.plain (OpenSpec.ofChange valueJoinsSpec)) valueJoinsCard

/-- THE TIED CARD OF 'ossuarylaw03.ValueMakes'. -/
def valueMakesCard : Claim7 := { stood := { row := valueMakesRow, standIns := [], harness := (true, "b945511eb7a423bf678f4ec340593fb3f7d62fd6af626f0fead4692072aaab9d"), looks := false }, kinds := [], alts := [], laidByText := true, laidKinds := [.data, .data, .data], laidTests := true, laidLooks := .later }
def ValueMakesCardSaid : Prop := Claim7.holds Tryd.pinned (.plain (OpenSpec.ofChange valueMakesSpec)) valueMakesCard

/-- THE TIED CARD OF 'ossuarylaw03.ValueSame'. -/
def valueSameCard : Claim7 := { stood := { row := valueSameRow, standIns := [], harness := (true, "b945511eb7a423bf678f4ec340593fb3f7d62fd6af626f0fead4692072aaab9d"), looks := false }, kinds := [], alts := [], laidByText := true, laidKinds := [.data, .data, .data], laidTests := true, laidLooks := .later }
def ValueSameCardSaid : Prop := Claim7.holds Tryd.pinned (.plain (OpenSpec.ofChange valueSameSpec)) valueSameCard

/-- THE TIED CARD OF 'ossuarylaw03.ValueBinary'. -/
def valueBinaryCard : Claim7 := { stood := { row := valueBinaryRow, standIns := [], harness := (true, "b945511eb7a423bf678f4ec340593fb3f7d62fd6af626f0fead4692072aaab9d"), looks := false }, kinds := [], alts := [], laidByText := true, laidKinds := [.data, .data, .data, .data, .pinned], laidTests := true, laidLooks := .later }
def ValueBinaryCardSaid : Prop := Claim7.holds Tryd.pinned (.plain (OpenSpec.ofChange valueBinarySpec)) valueBinaryCard

/-- THE TIED CARD OF 'ossuarylaw03.ValueConverts'. -/
def valueConvertsCard : Claim7 := { stood := { row := valueConvertsRow, standIns := [], harness := (true, "b945511eb7a423bf678f4ec340593fb3f7d62fd6af626f0fead4692072aaab9d"), looks := false }, kinds := [], alts := [], laidByText := true, laidKinds := [.data, .data, .data, .data, .pinned], laidTests := true, laidLooks := .later }
def ValueConvertsCardSaid : Prop := Claim7.holds Tryd.pinned (.plain (OpenSpec.ofChange valueConvertsSpec)) valueConvertsCard

/-- THE SECOND FORM's CARD OF 'ossuarylaw03.ValueOrder'. -/
def valueOrderUptoCard : Claim7 := { stood := { row := valueOrderUptoRow, standIns := [], harness := (true, "b945511eb7a423bf678f4ec340593fb3f7d62fd6af626f0fead4692072aaab9d"), looks := false }, kinds := [], alts := [], laidByText := true, laidKinds := [.data, .data, .data], laidTests := true, laidLooks := .later }
def ValueOrderUptoCardSaid : Prop := Claim7.holds Tryd.pinned (.plain (OpenSpec.upto valueOrderSpec)) valueOrderUptoCard

/-- THE SECOND FORM's CARD OF 'ossuarylaw03.ValueJoins'. -/
def valueJoinsUptoCard : Claim7 := { stood := { row := valueJoinsUptoRow, standIns := [], harness := (true, "b945511eb7a423bf678f4ec340593fb3f7d62fd6af626f0fead4692072aaab9d"), looks := false }, kinds := [], alts := [], laidByText := true, laidKinds := [.data, .data, .data], laidTests := true, laidLooks := .later }
def ValueJoinsUptoCardSaid : Prop := Claim7.holds Tryd.pinned (.plain (OpenSpec.upto valueJoinsSpec)) valueJoinsUptoCard

/-- THE SECOND FORM's CARD OF 'ossuarylaw03.ValueMakes'. -/
def valueMakesUptoCard : Claim7 := { stood := { row := valueMakesUptoRow, standIns := [], harness := (true, "b945511eb7a423bf678f4ec340593fb3f7d62fd6af626f0fead4692072aaab9d"), looks := false }, kinds := [], alts := [], laidByText := true, laidKinds := [.data, .data, .data], laidTests := true, laidLooks := .later }
def ValueMakesUptoCardSaid : Prop := Claim7.holds Tryd.pinned (.plain (OpenSpec.upto valueMakesSpec)) valueMakesUptoCard

/-- THE SECOND FORM's CARD OF 'ossuarylaw03.ValueSame'. -/
def valueSameUptoCard : Claim7 := { stood := { row := valueSameUptoRow, standIns := [], harness := (true, "b945511eb7a423bf678f4ec340593fb3f7d62fd6af626f0fead4692072aaab9d"), looks := false }, kinds := [], alts := [], laidByText := true, laidKinds := [.data, .data, .data], laidTests := true, laidLooks := .later }
def ValueSameUptoCardSaid : Prop := Claim7.holds Tryd.pinned (.plain (OpenSpec.upto valueSameSpec)) valueSameUptoCard

/-- THE SECOND FORM's CARD OF 'ossuarylaw03.ValueBinary'. -/
def valueBinaryUptoCard : Claim7 := { stood := { row := valueBinaryUptoRow, standIns := [], harness := (true, "b945511eb7a423bf678f4ec340593fb3f7d62fd6af626f0fead4692072aaab9d"), looks := false }, kinds := [], alts := [], laidByText := true, laidKinds := [.data, .data, .data, .data, .pinned], laidTests := true, laidLooks := .later }
def ValueBinaryUptoCardSaid : Prop := Claim7.holds Tryd.pinned (.plain (OpenSpec.upto valueBinarySpec)) valueBinaryUptoCard

/-- THE SECOND FORM's CARD OF 'ossuarylaw03.ValueConverts'. -/
def valueConvertsUptoCard : Claim7 := { stood := { row := valueConvertsUptoRow, standIns := [], harness := (true, "b945511eb7a423bf678f4ec340593fb3f7d62fd6af626f0fead4692072aaab9d"), looks := false }, kinds := [], alts := [], laidByText := true, laidKinds := [.data, .data, .data, .data, .pinned], laidTests := true, laidLooks := .later }
def ValueConvertsUptoCardSaid : Prop := Claim7.holds Tryd.pinned (.plain (OpenSpec.upto valueConvertsSpec)) valueConvertsUptoCard
end Rows
end Go.Proofs.YtjkboelcpihphaaDoor
